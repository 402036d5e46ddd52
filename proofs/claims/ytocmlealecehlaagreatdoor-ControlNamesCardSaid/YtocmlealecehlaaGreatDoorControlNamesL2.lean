/- The table of the calls reckoned (2). -/
import Derived.Test.YtocmlealecehlaaGreatDoorControlNamesL1
import Derived.Test.YtocmlealecehlaaGreatDoorControlNamesT2a
import Derived.Test.YtocmlealecehlaaGreatDoorControlNamesT2b
import Derived.Test.YtocmlealecehlaaGreatDoorControlNamesT2c
import Derived.Test.YtocmlealecehlaaGreatDoorVeK
namespace Go.Proofs.YtocmlealecehlaaGreatDoor.controlNames
open Go Go.Ve
set_option maxRecDepth 20000
def G0 : AH := [.glob 0 [.int .u64 1, .int .u64 10, .int .u64 100, .int .u64 1000, .int .u64 10000, .int .u64 100000, .int .u64 1000000, .int .u64 10000000, .int .u64 100000000, .int .u64 1000000000, .int .u64 10000000000, .int .u64 100000000000, .int .u64 1000000000000, .int .u64 10000000000000, .int .u64 100000000000000, .int .u64 1000000000000000, .int .u64 10000000000000000, .int .u64 100000000000000000, .int .u64 1000000000000000000, .int .u64 10000000000000000000]]
def a2_66 : Ans := [([.str [109, 97, 120, 45, 97, 103, 101]], .bool true), ([.str [77, 65, 88, 45, 65, 71, 69]], .bool true), ([.str [110, 111, 45, 99, 97, 99, 104, 101]], .bool true), ([.str [109, 97, 120, 45, 115, 116, 97, 108, 101]], .bool true), ([.str [109, 105, 110, 45, 102, 114, 101, 115, 104]], .bool true), ([.str [115, 45, 109, 97, 120, 97, 103, 101]], .bool true), ([.str [115, 116, 97, 108, 101, 45, 119, 104, 105, 108, 101, 45, 114, 101, 118, 97, 108, 105, 100, 97, 116, 101]], .bool true), ([.str [115, 116, 97, 108, 101, 45, 105, 102, 45, 101, 114, 114, 111, 114]], .bool true), ([.str [112, 114, 105, 118, 97, 116, 101]], .bool true), ([.str [112, 117, 98, 108, 105, 99]], .bool true), ([.str [119, 104, 97, 116]], .bool true), ([.str [110, 111, 45, 115, 116, 111, 114, 101]], .bool true)]
theorem a2_66Ok : AnsOkG Tryz.prog G0 66 a2_66 := by
  intro e he
  simp only [a2_66, List.mem_cons, List.mem_nil_iff, or_false] at he
  rcases he with rfl | rfl | rfl | rfl | rfl | rfl | rfl | rfl | rfl | rfl | rfl | rfl
  · exact ⟨by kernel_rfl, by kernel_rfl, _, call1, callI_of_sev Vok q2_1_0⟩
  · exact ⟨by kernel_rfl, by kernel_rfl, _, call1, callI_of_sev Vok q2_1_2⟩
  · exact ⟨by kernel_rfl, by kernel_rfl, _, call1, callI_of_sev Vok q2_1_4⟩
  · exact ⟨by kernel_rfl, by kernel_rfl, _, call1, callI_of_sev Vok q2_1_6⟩
  · exact ⟨by kernel_rfl, by kernel_rfl, _, call1, callI_of_sev Vok q2_1_7⟩
  · exact ⟨by kernel_rfl, by kernel_rfl, _, call1, callI_of_sev Vok q2_1_9⟩
  · exact ⟨by kernel_rfl, by kernel_rfl, _, call1, callI_of_sev Vok q2_1_10⟩
  · exact ⟨by kernel_rfl, by kernel_rfl, _, call1, callI_of_sev Vok q2_1_12⟩
  · exact ⟨by kernel_rfl, by kernel_rfl, _, call1, callI_of_sev Vok q2_2_2⟩
  · exact ⟨by kernel_rfl, by kernel_rfl, _, call1, callI_of_sev Vok q2_2_3⟩
  · exact ⟨by kernel_rfl, by kernel_rfl, _, call1, callI_of_sev Vok q2_2_4⟩
  · exact ⟨by kernel_rfl, by kernel_rfl, _, call1, callI_of_sev Vok q2_2_9⟩
def a2_120 : Ans := [([.str [53]], .int .i64 (.ofNat 5)), ([.str [51]], .int .i64 (.ofNat 3)), ([.str [55]], .int .i64 (.ofNat 7)), ([.str [57, 57, 57, 57, 57, 57, 57, 57, 57, 57, 57]], .int .i64 (.ofNat 2147483648)), ([.str [49]], .int .i64 (.ofNat 1)), ([.str [48]], .int .i64 (.ofNat 0)), ([.str [57]], .int .i64 (.ofNat 9)), ([.str [50, 49, 52, 55, 52, 56, 51, 54, 52, 56]], .int .i64 (.ofNat 2147483648))]
theorem a2_120Ok : AnsOkG Tryz.prog G0 120 a2_120 := by
  intro e he
  simp only [a2_120, List.mem_cons, List.mem_nil_iff, or_false] at he
  rcases he with rfl | rfl | rfl | rfl | rfl | rfl | rfl | rfl
  · exact ⟨by kernel_rfl, by kernel_rfl, _, call1, callI_of_sev Vok q2_1_1⟩
  · exact ⟨by kernel_rfl, by kernel_rfl, _, call1, callI_of_sev Vok q2_1_3⟩
  · exact ⟨by kernel_rfl, by kernel_rfl, _, call1, callI_of_sev Vok q2_1_8⟩
  · exact ⟨by kernel_rfl, by kernel_rfl, _, call1, callI_of_sev Vok q2_1_11⟩
  · exact ⟨by kernel_rfl, by kernel_rfl, _, call1, callI_of_sev Vok q2_2_0⟩
  · exact ⟨by kernel_rfl, by kernel_rfl, _, call1, callI_of_sev Vok q2_2_1⟩
  · exact ⟨by kernel_rfl, by kernel_rfl, _, call1, callI_of_sev Vok q2_2_8⟩
  · exact ⟨by kernel_rfl, by kernel_rfl, _, call1, callI_of_sev Vok q2_2_11⟩
def a2_5 : Ans := [([], .bool true)]
theorem a2_5Ok : AnsOkG Tryz.prog G0 5 a2_5 := by
  intro e he
  simp only [a2_5, List.mem_cons, List.mem_nil_iff, or_false] at he
  rcases he with rfl
  · exact ⟨by kernel_rfl, by kernel_rfl, _, call1, callI_of_sev Vok q2_1_5⟩
def a2_9 : Ans := [([.agg [.int .i64 (.negSucc 0), .int .i64 (.negSucc 0), .int .i64 (.negSucc 0), .int .i64 (.negSucc 0), .int .i64 (.negSucc 0), .int .i64 (.negSucc 0), .bool false, .bool false, .bool false, .bool false, .bool false, .bool false, .bool false, .bool false, .bool false]], .str []), ([.agg [.int .i64 (.negSucc 0), .int .i64 (.ofNat 0), .int .i64 (.ofNat 2147483648), .int .i64 (.ofNat 7), .int .i64 (.ofNat 2147483648), .int .i64 (.ofNat 0), .bool false, .bool false, .bool false, .bool false, .bool false, .bool false, .bool false, .bool true, .bool true]], .str [115, 45, 109, 97, 120, 97, 103, 101, 61, 48, 44, 32, 109, 97, 120, 45, 115, 116, 97, 108, 101, 44, 32, 109, 105, 110, 45, 102, 114, 101, 115, 104, 61, 55, 44, 32, 115, 116, 97, 108, 101, 45, 119, 104, 105, 108, 101, 45, 114, 101, 118, 97, 108, 105, 100, 97, 116, 101, 61, 50, 49, 52, 55, 52, 56, 51, 54, 52, 56, 44, 32, 115, 116, 97, 108, 101, 45, 105, 102, 45, 101, 114, 114, 111, 114, 61, 48, 44, 32, 112, 117, 98, 108, 105, 99, 44, 32, 112, 114, 105, 118, 97, 116, 101]), ([.agg [.int .i64 (.negSucc 0), .int .i64 (.negSucc 0), .int .i64 (.negSucc 0), .int .i64 (.negSucc 0), .int .i64 (.negSucc 0), .int .i64 (.negSucc 0), .bool false, .bool true, .bool false, .bool false, .bool false, .bool false, .bool false, .bool false, .bool false]], .str [110, 111, 45, 115, 116, 111, 114, 101])]
theorem a2_9Ok : AnsOkG Tryz.prog G0 9 a2_9 := by
  intro e he
  simp only [a2_9, List.mem_cons, List.mem_nil_iff, or_false] at he
  rcases he with rfl | rfl | rfl
  · exact ⟨by kernel_rfl, by kernel_rfl, _, call1, callI_of_sev Vok q2_2_5⟩
  · exact ⟨by kernel_rfl, by kernel_rfl, _, call1, callI_of_sev Vok q2_2_6⟩
  · exact ⟨by kernel_rfl, by kernel_rfl, _, call1, callI_of_sev Vok q2_2_10⟩
def a2_10 : Ans := [([.agg [.int .i64 (.negSucc 0), .int .i64 (.ofNat 0), .int .i64 (.ofNat 2147483648), .int .i64 (.ofNat 7), .int .i64 (.ofNat 2147483648), .int .i64 (.ofNat 0), .bool false, .bool false, .bool false, .bool false, .bool false, .bool false, .bool false, .bool true, .bool true]], .int .i64 (.ofNat 0))]
theorem a2_10Ok : AnsOkG Tryz.prog G0 10 a2_10 := by
  intro e he
  simp only [a2_10, List.mem_cons, List.mem_nil_iff, or_false] at he
  rcases he with rfl
  · exact ⟨by kernel_rfl, by kernel_rfl, _, call1, callI_of_sev Vok q2_2_7⟩
def a2_12 : Ans := [([.agg [.int .i64 (.negSucc 0), .int .i64 (.ofNat 0), .int .i64 (.ofNat 2147483648), .int .i64 (.ofNat 7), .int .i64 (.ofNat 2147483648), .int .i64 (.ofNat 0), .bool false, .bool false, .bool false, .bool false, .bool false, .bool false, .bool false, .bool true, .bool true], .agg [.int .i64 (.negSucc 0), .int .i64 (.negSucc 0), .int .i64 (.negSucc 0), .int .i64 (.negSucc 0), .int .i64 (.negSucc 0), .int .i64 (.negSucc 0), .bool false, .bool true, .bool false, .bool false, .bool false, .bool false, .bool false, .bool false, .bool false]], .agg [.int .i64 (.negSucc 0), .int .i64 (.ofNat 0), .int .i64 (.ofNat 2147483648), .int .i64 (.ofNat 7), .int .i64 (.ofNat 2147483648), .int .i64 (.ofNat 0), .bool false, .bool true, .bool false, .bool false, .bool false, .bool false, .bool false, .bool true, .bool true])]
theorem a2_12Ok : AnsOkG Tryz.prog G0 12 a2_12 := by
  intro e he
  simp only [a2_12, List.mem_cons, List.mem_nil_iff, or_false] at he
  rcases he with rfl
  · exact ⟨by kernel_rfl, by kernel_rfl, _, call1, callI_of_sev Vok q2_3_0⟩
def T2 : List (Nat × Ans) := [(66, a2_66), (120, a2_120), (5, a2_5), (9, a2_9), (10, a2_10), (12, a2_12)]
theorem T2Ok : ∀ p ∈ T2, AnsOkG Tryz.prog G0 p.1 p.2 := by
  intro p hp
  simp only [T2, List.mem_cons, List.mem_nil_iff, or_false] at hp
  rcases hp with rfl | rfl | rfl | rfl | rfl | rfl
  · exact a2_66Ok
  · exact a2_120Ok
  · exact a2_5Ok
  · exact a2_9Ok
  · exact a2_10Ok
  · exact a2_12Ok
noncomputable def env2 : Env := ⟨Tryz.prog, orcG G0 T2 env1.orc⟩
theorem env2Ok : CallOk env2.P env2.orc := orcG_ok (by kernel_rfl) T2Ok env1Ok
theorem call2 : CallOk Tryz.prog (callI env2 V (evI env2 V 400)) := callI_all (E := env2) Vok names0 mixed0 env2Ok 400
end Go.Proofs.YtocmlealecehlaaGreatDoor.controlNames

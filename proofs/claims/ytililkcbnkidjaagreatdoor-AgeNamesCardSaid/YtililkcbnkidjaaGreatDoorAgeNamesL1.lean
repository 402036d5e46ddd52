/- The table of the calls reckoned (1). -/
import Derived.Test.YtililkcbnkidjaaGreatDoorAgeNamesMd
import Derived.Test.YtililkcbnkidjaaGreatDoorAgeNamesT1a
import Derived.Test.YtililkcbnkidjaaGreatDoorAgeNamesT1b
import Derived.Test.YtililkcbnkidjaaGreatDoorAgeNamesT1c
namespace Go.Proofs.YtililkcbnkidjaaGreatDoor.ageNames
open Go Go.Ve
set_option maxRecDepth 20000
def a1_66 : Ans := [([.str [68, 97, 116, 101]], .str [100, 97, 116, 101]), ([.str [65, 103, 101]], .str [97, 103, 101]), ([.str [69, 120, 112, 105, 114, 101, 115]], .str [101, 120, 112, 105, 114, 101, 115]), ([.str [67, 97, 99, 104, 101, 45, 67, 111, 110, 116, 114, 111, 108]], .str [99, 97, 99, 104, 101, 45, 99, 111, 110, 116, 114, 111, 108]), ([.str [109, 97, 120, 45, 97, 103, 101]], .str [109, 97, 120, 45, 97, 103, 101]), ([.str [76, 97, 115, 116, 45, 77, 111, 100, 105, 102, 105, 101, 100]], .str [108, 97, 115, 116, 45, 109, 111, 100, 105, 102, 105, 101, 100])]
theorem a1_66Ok : AnsOk Tryz.prog 66 a1_66 := by
  intro e he
  simp only [a1_66, List.mem_cons, List.mem_nil_iff, or_false] at he
  rcases he with rfl | rfl | rfl | rfl | rfl | rfl
  · exact ⟨by kernel_rfl, by kernel_rfl, _, call0, evCallM_of_sev Vok q1_1_0⟩
  · exact ⟨by kernel_rfl, by kernel_rfl, _, call0, evCallM_of_sev Vok q1_1_1⟩
  · exact ⟨by kernel_rfl, by kernel_rfl, _, call0, evCallM_of_sev Vok q1_1_2⟩
  · exact ⟨by kernel_rfl, by kernel_rfl, _, call0, evCallM_of_sev Vok q1_1_3⟩
  · exact ⟨by kernel_rfl, by kernel_rfl, _, call0, evCallM_of_sev Vok q1_3_0⟩
  · exact ⟨by kernel_rfl, by kernel_rfl, _, call0, evCallM_of_sev Vok q1_3_2⟩
def a1_124 : Ans := [([.str [48, 49, 50, 51, 52, 53, 54, 55, 56, 57]], .tuple [.agg [.bool false, .bool false, .bool false, .bool false, .bool false, .bool false, .bool false, .bool false, .bool false, .bool false, .bool false, .bool false, .bool false, .bool false, .bool false, .bool false, .bool false, .bool false, .bool false, .bool false, .bool false, .bool false, .bool false, .bool false, .bool false, .bool false, .bool false, .bool false, .bool false, .bool false, .bool false, .bool false, .bool false, .bool false, .bool false, .bool false, .bool false, .bool false, .bool false, .bool false, .bool false, .bool false, .bool false, .bool false, .bool false, .bool false, .bool false, .bool false, .bool true, .bool true, .bool true, .bool true, .bool true, .bool true, .bool true, .bool true, .bool true, .bool true, .bool false, .bool false, .bool false, .bool false, .bool false, .bool false, .bool false, .bool false, .bool false, .bool false, .bool false, .bool false, .bool false, .bool false, .bool false, .bool false, .bool false, .bool false, .bool false, .bool false, .bool false, .bool false, .bool false, .bool false, .bool false, .bool false, .bool false, .bool false, .bool false, .bool false, .bool false, .bool false, .bool false, .bool false, .bool false, .bool false, .bool false, .bool false, .bool false, .bool false, .bool false, .bool false, .bool false, .bool false, .bool false, .bool false, .bool false, .bool false, .bool false, .bool false, .bool false, .bool false, .bool false, .bool false, .bool false, .bool false, .bool false, .bool false, .bool false, .bool false, .bool false, .bool false, .bool false, .bool false, .bool false, .bool false, .bool false, .bool false, .bool false, .bool false, .bool false, .bool false, .bool false, .bool false, .bool false, .bool false, .bool false, .bool false, .bool false, .bool false, .bool false, .bool false, .bool false, .bool false, .bool false, .bool false, .bool false, .bool false, .bool false, .bool false, .bool false, .bool false, .bool false, .bool false, .bool false, .bool false, .bool false, .bool false, .bool false, .bool false, .bool false, .bool false, .bool false, .bool false, .bool false, .bool false, .bool false, .bool false, .bool false, .bool false, .bool false, .bool false, .bool false, .bool false, .bool false, .bool false, .bool false, .bool false, .bool false, .bool false, .bool false, .bool false, .bool false, .bool false, .bool false, .bool false, .bool false, .bool false, .bool false, .bool false, .bool false, .bool false, .bool false, .bool false, .bool false, .bool false, .bool false, .bool false, .bool false, .bool false, .bool false, .bool false, .bool false, .bool false, .bool false, .bool false, .bool false, .bool false, .bool false, .bool false, .bool false, .bool false, .bool false, .bool false, .bool false, .bool false, .bool false, .bool false, .bool false, .bool false, .bool false, .bool false, .bool false, .bool false, .bool false, .bool false, .bool false, .bool false, .bool false, .bool false, .bool false, .bool false, .bool false, .bool false, .bool false, .bool false, .bool false, .bool false, .bool false, .bool false, .bool false, .bool false, .bool false, .bool false, .bool false, .bool false, .bool false, .bool false, .bool false, .bool false, .bool false, .bool false, .bool false, .bool false, .bool false, .bool false, .bool false, .bool false], .bool true])]
theorem a1_124Ok : AnsOk Tryz.prog 124 a1_124 := by
  intro e he
  simp only [a1_124, List.mem_cons, List.mem_nil_iff, or_false] at he
  rcases he with rfl
  · exact ⟨by kernel_rfl, by kernel_rfl, _, call0, evCallM_of_sev Vok q1_1_4⟩
def a1_47 : Ans := [([.str [48, 49]], .tuple [.int .i64 (.ofNat 1), .int .i64 (.ofNat 0)]), ([.str [49, 57, 55, 48]], .tuple [.int .i64 (.ofNat 1970), .int .i64 (.ofNat 0)]), ([.str [48, 48]], .tuple [.int .i64 (.ofNat 0), .int .i64 (.ofNat 0)]), ([.str [52, 48]], .tuple [.int .i64 (.ofNat 40), .int .i64 (.ofNat 0)]), ([.str [57, 57, 57, 57, 57, 57, 57, 57, 57, 57]], .tuple [.int .i64 (.ofNat 9999999999), .int .i64 (.ofNat 0)]), ([.str [51]], .tuple [.int .i64 (.ofNat 3), .int .i64 (.ofNat 0)])]
theorem a1_47Ok : AnsOk Tryz.prog 47 a1_47 := by
  intro e he
  simp only [a1_47, List.mem_cons, List.mem_nil_iff, or_false] at he
  rcases he with rfl | rfl | rfl | rfl | rfl | rfl
  · exact ⟨by kernel_rfl, by kernel_rfl, _, call0, evCallM_of_sev Vok q1_1_5⟩
  · exact ⟨by kernel_rfl, by kernel_rfl, _, call0, evCallM_of_sev Vok q1_1_6⟩
  · exact ⟨by kernel_rfl, by kernel_rfl, _, call0, evCallM_of_sev Vok q1_1_7⟩
  · exact ⟨by kernel_rfl, by kernel_rfl, _, call0, evCallM_of_sev Vok q1_1_8⟩
  · exact ⟨by kernel_rfl, by kernel_rfl, _, call0, evCallM_of_sev Vok q1_1_9⟩
  · exact ⟨by kernel_rfl, by kernel_rfl, _, call0, evCallM_of_sev Vok q1_3_1⟩
def a1_64 : Ans := [([.str [109, 97, 120, 45, 97, 103, 101]], .bool true)]
theorem a1_64Ok : AnsOk Tryz.prog 64 a1_64 := by
  intro e he
  simp only [a1_64, List.mem_cons, List.mem_nil_iff, or_false] at he
  rcases he with rfl
  · exact ⟨by kernel_rfl, by kernel_rfl, _, call0, evCallM_of_sev Vok q1_2_0⟩
def T1 : List (Nat × Ans) := [(66, a1_66), (124, a1_124), (47, a1_47), (64, a1_64)]
theorem T1Ok : ∀ p ∈ T1, AnsOk Tryz.prog p.1 p.2 := by
  intro p hp
  simp only [T1, List.mem_cons, List.mem_nil_iff, or_false] at hp
  rcases hp with rfl | rfl | rfl | rfl
  · exact a1_66Ok
  · exact a1_124Ok
  · exact a1_47Ok
  · exact a1_64Ok
noncomputable def env1 : Env := ⟨Tryz.prog, orcP T1 env0.orc⟩
theorem env1Ok : CallOk env1.P env1.orc := orcP_ok T1Ok env0Ok
theorem call1 : CallOk Tryz.prog (evCallM env1 V (evM env1 V 400)) := callM_ok (E := env1) Vok names0 mixed0 env1Ok 400
end Go.Proofs.YtililkcbnkidjaaGreatDoor.ageNames

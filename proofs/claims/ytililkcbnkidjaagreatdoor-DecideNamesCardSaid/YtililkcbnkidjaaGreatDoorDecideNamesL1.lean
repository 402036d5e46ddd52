/- The table of the calls reckoned (1). -/
import Derived.Test.YtililkcbnkidjaaGreatDoorDecideNamesMd
import Derived.Test.YtililkcbnkidjaaGreatDoorDecideNamesT1a
import Derived.Test.YtililkcbnkidjaaGreatDoorDecideNamesT1b
import Derived.Test.YtililkcbnkidjaaGreatDoorDecideNamesT1c
namespace Go.Proofs.YtililkcbnkidjaaGreatDoor.decideNames
open Go Go.Ve
set_option maxRecDepth 20000
def a1_19 : Ans := [([.agg [.int .i64 (.ofNat 0), .int .i64 (.ofNat 0), .int .i64 (.ofNat 0), .int .i64 (.ofNat 0)], .int .i64 (.ofNat 9)], .int .i64 (.ofNat 9)), ([.agg [.int .i64 (.ofNat 0), .int .i64 (.ofNat 0), .int .i64 (.ofNat 0), .int .i64 (.ofNat 0)], .int .i64 (.ofNat 10)], .int .i64 (.ofNat 10)), ([.agg [.int .i64 (.ofNat 0), .int .i64 (.ofNat 0), .int .i64 (.ofNat 0), .int .i64 (.ofNat 0)], .int .i64 (.ofNat 5)], .int .i64 (.ofNat 5)), ([.agg [.int .i64 (.ofNat 0), .int .i64 (.ofNat 0), .int .i64 (.ofNat 0), .int .i64 (.ofNat 0)], .int .i64 (.ofNat 15)], .int .i64 (.ofNat 15)), ([.agg [.int .i64 (.ofNat 0), .int .i64 (.ofNat 0), .int .i64 (.ofNat 0), .int .i64 (.ofNat 0)], .int .i64 (.ofNat 13)], .int .i64 (.ofNat 13)), ([.agg [.int .i64 (.ofNat 0), .int .i64 (.ofNat 0), .int .i64 (.ofNat 0), .int .i64 (.ofNat 0)], .int .i64 (.ofNat 14)], .int .i64 (.ofNat 14)), ([.agg [.int .i64 (.ofNat 0), .int .i64 (.ofNat 0), .int .i64 (.ofNat 0), .int .i64 (.ofNat 0)], .int .i64 (.ofNat 12)], .int .i64 (.ofNat 12)), ([.agg [.int .i64 (.ofNat 0), .int .i64 (.ofNat 0), .int .i64 (.ofNat 0), .int .i64 (.ofNat 0)], .int .i64 (.ofNat 4)], .int .i64 (.ofNat 4)), ([.agg [.int .i64 (.ofNat 0), .int .i64 (.ofNat 0), .int .i64 (.ofNat 0), .int .i64 (.ofNat 0)], .int .i64 (.ofNat 6)], .int .i64 (.ofNat 6)), ([.agg [.int .i64 (.ofNat 0), .int .i64 (.ofNat 0), .int .i64 (.ofNat 0), .int .i64 (.ofNat 0)], .int .i64 (.ofNat 19)], .int .i64 (.ofNat 19)), ([.agg [.int .i64 (.ofNat 0), .int .i64 (.ofNat 0), .int .i64 (.ofNat 0), .int .i64 (.ofNat 0)], .int .i64 (.ofNat 20)], .int .i64 (.ofNat 20)), ([.agg [.int .i64 (.ofNat 0), .int .i64 (.ofNat 0), .int .i64 (.ofNat 0), .int .i64 (.ofNat 0)], .int .i64 (.ofNat 3)], .int .i64 (.ofNat 3))]
theorem a1_19Ok : AnsOk Tryz.prog 19 a1_19 := by
  intro e he
  simp only [a1_19, List.mem_cons, List.mem_nil_iff, or_false] at he
  rcases he with rfl | rfl | rfl | rfl | rfl | rfl | rfl | rfl | rfl | rfl | rfl | rfl
  · exact ⟨by kernel_rfl, by kernel_rfl, _, call0, evCallM_of_sev Vok q1_1_0⟩
  · exact ⟨by kernel_rfl, by kernel_rfl, _, call0, evCallM_of_sev Vok q1_1_1⟩
  · exact ⟨by kernel_rfl, by kernel_rfl, _, call0, evCallM_of_sev Vok q1_3_4⟩
  · exact ⟨by kernel_rfl, by kernel_rfl, _, call0, evCallM_of_sev Vok q1_3_5⟩
  · exact ⟨by kernel_rfl, by kernel_rfl, _, call0, evCallM_of_sev Vok q1_3_6⟩
  · exact ⟨by kernel_rfl, by kernel_rfl, _, call0, evCallM_of_sev Vok q1_3_7⟩
  · exact ⟨by kernel_rfl, by kernel_rfl, _, call0, evCallM_of_sev Vok q1_3_8⟩
  · exact ⟨by kernel_rfl, by kernel_rfl, _, call0, evCallM_of_sev Vok q1_3_9⟩
  · exact ⟨by kernel_rfl, by kernel_rfl, _, call0, evCallM_of_sev Vok q1_3_10⟩
  · exact ⟨by kernel_rfl, by kernel_rfl, _, call0, evCallM_of_sev Vok q1_3_11⟩
  · exact ⟨by kernel_rfl, by kernel_rfl, _, call0, evCallM_of_sev Vok q1_3_12⟩
  · exact ⟨by kernel_rfl, by kernel_rfl, _, call0, evCallM_of_sev Vok q1_3_13⟩
def a1_66 : Ans := [([.str [67, 97, 99, 104, 101, 45, 67, 111, 110, 116, 114, 111, 108]], .str [99, 97, 99, 104, 101, 45, 99, 111, 110, 116, 114, 111, 108]), ([.str [69, 84, 97, 103]], .str [101, 116, 97, 103]), ([.str [109, 97, 120, 45, 97, 103, 101]], .str [109, 97, 120, 45, 97, 103, 101]), ([.str [68, 97, 116, 101]], .str [100, 97, 116, 101]), ([.str [69, 120, 112, 105, 114, 101, 115]], .str [101, 120, 112, 105, 114, 101, 115]), ([.str [76, 97, 115, 116, 45, 77, 111, 100, 105, 102, 105, 101, 100]], .str [108, 97, 115, 116, 45, 109, 111, 100, 105, 102, 105, 101, 100])]
theorem a1_66Ok : AnsOk Tryz.prog 66 a1_66 := by
  intro e he
  simp only [a1_66, List.mem_cons, List.mem_nil_iff, or_false] at he
  rcases he with rfl | rfl | rfl | rfl | rfl | rfl
  · exact ⟨by kernel_rfl, by kernel_rfl, _, call0, evCallM_of_sev Vok q1_1_2⟩
  · exact ⟨by kernel_rfl, by kernel_rfl, _, call0, evCallM_of_sev Vok q1_1_3⟩
  · exact ⟨by kernel_rfl, by kernel_rfl, _, call0, evCallM_of_sev Vok q1_3_0⟩
  · exact ⟨by kernel_rfl, by kernel_rfl, _, call0, evCallM_of_sev Vok q1_3_1⟩
  · exact ⟨by kernel_rfl, by kernel_rfl, _, call0, evCallM_of_sev Vok q1_3_2⟩
  · exact ⟨by kernel_rfl, by kernel_rfl, _, call0, evCallM_of_sev Vok q1_3_3⟩
def a1_64 : Ans := [([.str [109, 97, 120, 45, 97, 103, 101]], .bool true)]
theorem a1_64Ok : AnsOk Tryz.prog 64 a1_64 := by
  intro e he
  simp only [a1_64, List.mem_cons, List.mem_nil_iff, or_false] at he
  rcases he with rfl
  · exact ⟨by kernel_rfl, by kernel_rfl, _, call0, evCallM_of_sev Vok q1_2_0⟩
def T1 : List (Nat × Ans) := [(19, a1_19), (66, a1_66), (64, a1_64)]
theorem T1Ok : ∀ p ∈ T1, AnsOk Tryz.prog p.1 p.2 := by
  intro p hp
  simp only [T1, List.mem_cons, List.mem_nil_iff, or_false] at hp
  rcases hp with rfl | rfl | rfl
  · exact a1_19Ok
  · exact a1_66Ok
  · exact a1_64Ok
noncomputable def env1 : Env := ⟨Tryz.prog, orcP T1 env0.orc⟩
theorem env1Ok : CallOk env1.P env1.orc := orcP_ok T1Ok env0Ok
theorem call1 : CallOk Tryz.prog (evCallM env1 V (evM env1 V 400)) := callM_ok (E := env1) Vok names0 mixed0 env1Ok 400
end Go.Proofs.YtililkcbnkidjaaGreatDoor.decideNames

/- The table of the calls reckoned (2). -/
import Derived.Test.YtililkcbnkidjaaGreatDoorAgeNamesL1
import Derived.Test.YtililkcbnkidjaaGreatDoorAgeNamesT2a
namespace Go.Proofs.YtililkcbnkidjaaGreatDoor.ageNames
open Go Go.Ve
set_option maxRecDepth 20000
def a2_88 : Ans := [([.str [84, 104, 117, 44, 32, 48, 49, 32, 74, 97, 110, 32, 49, 57, 55, 48, 32, 48, 48, 58, 48, 49, 58, 52, 48, 32, 71, 77, 84], .int .i64 (.ofNat 2)], .tuple [.int .i64 (.ofNat 100), .int .i64 (.ofNat 0)]), ([.str [48], .int .i64 (.ofNat 2)], .tuple [.int .i64 (.ofNat 0), .int .i64 (.ofNat 4)])]
theorem a2_88Ok : AnsOk Tryz.prog 88 a2_88 := by
  intro e he
  simp only [a2_88, List.mem_cons, List.mem_nil_iff, or_false] at he
  rcases he with rfl | rfl
  · exact ⟨by kernel_rfl, by kernel_rfl, _, call1, evCallM_of_sev Vok q2_1_0⟩
  · exact ⟨by kernel_rfl, by kernel_rfl, _, call1, evCallM_of_sev Vok q2_1_1⟩
def T2 : List (Nat × Ans) := [(88, a2_88)]
theorem T2Ok : ∀ p ∈ T2, AnsOk Tryz.prog p.1 p.2 := by
  intro p hp
  simp only [T2, List.mem_cons, List.mem_nil_iff, or_false] at hp
  rcases hp with rfl
  · exact a2_88Ok
noncomputable def env2 : Env := ⟨Tryz.prog, orcP T2 env1.orc⟩
theorem env2Ok : CallOk env2.P env2.orc := orcP_ok T2Ok env1Ok
theorem call2 : CallOk Tryz.prog (evCallM env2 V (evM env2 V 400)) := callM_ok (E := env2) Vok names0 mixed0 env2Ok 400
end Go.Proofs.YtililkcbnkidjaaGreatDoor.ageNames

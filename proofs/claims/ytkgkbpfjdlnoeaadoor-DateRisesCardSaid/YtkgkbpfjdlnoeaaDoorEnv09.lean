/- The environment: the example of the chapter is answered. -/
import Derived.Test.YtkgkbpfjdlnoeaaDoorLivesRun
import Derived.Test.YtkgkbpfjdlnoeaaDoorVe14
namespace Go.Proofs.YtkgkbpfjdlnoeaaDoor
open Go Go.Ve
set_option maxRecDepth 20000
def livesT : List (Nat × Ans) := [(4, [([], .bool true)])]
set_option maxRecDepth 20000 in
theorem livesTOk : ∀ p ∈ livesT, AnsOk Tryd.prog p.1 p.2 := by
  intro p hp
  simp only [livesT, List.mem_cons, List.mem_nil_iff, or_false] at hp
  subst hp
  intro e he
  simp only [List.mem_cons, List.mem_nil_iff, or_false] at he
  subst he
  exact ⟨by kernel_rfl, by kernel_rfl, _, lives.call1, callI_of_sev lives.Vok lives.runs⟩
noncomputable def env : Env := ⟨Tryd.prog, orcP livesT fun _ _ _ => none⟩
theorem envOk : CallOk env.P env.orc := orcP_ok livesTOk fun f args H v ch h => by cases h
theorem lives_ok (H : AH) : CW env 4 [] H fun v ch => v = .bool true ∧ ch = none := CW.orc rfl ⟨rfl, rfl⟩
end Go.Proofs.YtkgkbpfjdlnoeaaDoor

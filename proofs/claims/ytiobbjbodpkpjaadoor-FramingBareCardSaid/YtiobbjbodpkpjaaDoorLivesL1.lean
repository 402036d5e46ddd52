/- The table of the calls reckoned (1). -/
import Derived.Test.YtiobbjbodpkpjaaDoorLivesMd
set_option linter.unusedSimpArgs false
set_option linter.unusedVariables false
namespace Go.Proofs.YtiobbjbodpkpjaaDoor.lives
open Go Go.Ve
set_option maxRecDepth 20000
def T1 : List (Nat × Ans) := []
theorem T1Ok : ∀ p ∈ T1, AnsOk Tryd.prog p.1 p.2 := by
  intro p hp
  exact absurd hp (by simp [T1])
noncomputable def env1 : Env := ⟨Tryd.prog, orcP T1 env0.orc⟩
theorem env1Ok : CallOk env1.P env1.orc := orcP_ok T1Ok env0Ok
theorem call1 : CallOk Tryd.prog (callI env1 V (evI env1 V 400)) := callI_all (E := env1) Vok names0 mixed0 env1Ok 400
end Go.Proofs.YtiobbjbodpkpjaaDoor.lives

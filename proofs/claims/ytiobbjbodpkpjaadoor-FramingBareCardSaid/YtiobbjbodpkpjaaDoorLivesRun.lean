/- The law lives, reckoned over the tables. -/
import Derived.Test.YtiobbjbodpkpjaaDoorLivesL1
set_option linter.unusedSimpArgs false
set_option linter.unusedVariables false
namespace Go.Proofs.YtiobbjbodpkpjaaDoor.lives
open Go Go.Ve
set_option maxRecDepth 20000
theorem runs : callS env1 V (sevI env1 V 400) 6 [] [] = some (.bool true, none) := by kernel_rfl
noncomputable def env : Env := ⟨Tryd.prog, callI env1 V (evI env1 V 400)⟩
theorem envOk : CallOk env.P env.orc := call1
theorem answers : evCall env (ev env 1) 6 [] [] = some (.bool true, none) := evCall_of_orc (callI_of_sev Vok runs)
end Go.Proofs.YtiobbjbodpkpjaaDoor.lives

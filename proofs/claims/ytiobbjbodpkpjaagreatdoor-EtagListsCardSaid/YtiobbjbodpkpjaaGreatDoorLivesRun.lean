/- The law lives, reckoned over the tables. -/
import Derived.Test.YtiobbjbodpkpjaaGreatDoorLivesL1
namespace Go.Proofs.YtiobbjbodpkpjaaGreatDoor.lives
open Go Go.Ve
set_option maxRecDepth 20000
theorem runs : callS env1 V (sevI env1 V 400) 4 [] [] = some (.bool true, none) := by kernel_rfl
noncomputable def env : Env := ⟨Tryz.prog, callI env1 V (evI env1 V 400)⟩
theorem envOk : CallOk env.P env.orc := call1
theorem answers : evCall env (ev env 1) 4 [] [] = some (.bool true, none) := evCall_of_orc (callI_of_sev Vok runs)
end Go.Proofs.YtiobbjbodpkpjaaGreatDoor.lives

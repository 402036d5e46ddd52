/- The law DecideNames, reckoned over the tables. -/
import Derived.Test.YtililkcbnkidjaaGreatDoorDecideNamesL2
namespace Go.Proofs.YtililkcbnkidjaaGreatDoor.decideNames
open Go Go.Ve
set_option maxRecDepth 20000
theorem runs : sCall env2 V (sev env2 V 400) 5 [] [] = some (.bool true, none) := by kernel_rfl
noncomputable def env : Env := ⟨Tryz.prog, evCallM env2 V (evM env2 V 400)⟩
theorem envOk : CallOk env.P env.orc := call2
theorem answers : evCall env (ev env 1) 5 [] [] = some (.bool true, none) := evCall_of_orc (evCallM_of_sev Vok runs)
end Go.Proofs.YtililkcbnkidjaaGreatDoor.decideNames

/- The law ControlNames, reckoned over the tables. -/
import Derived.Test.YtocmlealecehlaaGreatDoorControlNamesL2
namespace Go.Proofs.YtocmlealecehlaaGreatDoor.controlNames
open Go Go.Ve
set_option maxRecDepth 20000
theorem runs : callS env2 V (sevI env2 V 400) 3 [] [.glob 0 [.int .u64 1, .int .u64 10, .int .u64 100, .int .u64 1000, .int .u64 10000, .int .u64 100000, .int .u64 1000000, .int .u64 10000000, .int .u64 100000000, .int .u64 1000000000, .int .u64 10000000000, .int .u64 100000000000, .int .u64 1000000000000, .int .u64 10000000000000, .int .u64 100000000000000, .int .u64 1000000000000000, .int .u64 10000000000000000, .int .u64 100000000000000000, .int .u64 1000000000000000000, .int .u64 10000000000000000000]] = some (.bool true, none) := by kernel_rfl
noncomputable def env : Env := ⟨Tryz.prog, callI env2 V (evI env2 V 400)⟩
theorem envOk : CallOk env.P env.orc := call2
theorem answers : evCall env (ev env 1) 3 [] ([.glob 0 [.int .u64 1, .int .u64 10, .int .u64 100, .int .u64 1000, .int .u64 10000, .int .u64 100000, .int .u64 1000000, .int .u64 10000000, .int .u64 100000000, .int .u64 1000000000, .int .u64 10000000000, .int .u64 100000000000, .int .u64 1000000000000, .int .u64 10000000000000, .int .u64 100000000000000, .int .u64 1000000000000000, .int .u64 10000000000000000, .int .u64 100000000000000000, .int .u64 1000000000000000000, .int .u64 10000000000000000000]] ++ []) = some (.bool true, none) := evCall_of_orc (callI_of_sev Vok runs)
end Go.Proofs.YtocmlealecehlaaGreatDoor.controlNames

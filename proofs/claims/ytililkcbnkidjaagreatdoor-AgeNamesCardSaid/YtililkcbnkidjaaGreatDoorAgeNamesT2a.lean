/- Calls that the law AgeNames makes, reckoned (2.1). -/
import Derived.Test.YtililkcbnkidjaaGreatDoorAgeNamesL1
namespace Go.Proofs.YtililkcbnkidjaaGreatDoor.ageNames
open Go Go.Ve
set_option maxRecDepth 20000
theorem q2_1_0 : sCall env1 V (sev env1 V 400) 88 [.str [84, 104, 117, 44, 32, 48, 49, 32, 74, 97, 110, 32, 49, 57, 55, 48, 32, 48, 48, 58, 48, 49, 58, 52, 48, 32, 71, 77, 84], .int .i64 (.ofNat 2)] [] = some (.tuple [.int .i64 (.ofNat 100), .int .i64 (.ofNat 0)], none) := by kernel_rfl
theorem q2_1_1 : sCall env1 V (sev env1 V 400) 88 [.str [48], .int .i64 (.ofNat 2)] [] = some (.tuple [.int .i64 (.ofNat 0), .int .i64 (.ofNat 4)], none) := by kernel_rfl
end Go.Proofs.YtililkcbnkidjaaGreatDoor.ageNames

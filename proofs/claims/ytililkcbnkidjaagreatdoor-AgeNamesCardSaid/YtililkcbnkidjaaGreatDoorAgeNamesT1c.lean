/- Calls that the law AgeNames makes, reckoned (1.3). -/
import Derived.Test.YtililkcbnkidjaaGreatDoorAgeNamesMd
namespace Go.Proofs.YtililkcbnkidjaaGreatDoor.ageNames
open Go Go.Ve
set_option maxRecDepth 20000
theorem q1_3_0 : sCall env0 V (sev env0 V 400) 66 [.str [109, 97, 120, 45, 97, 103, 101]] [] = some (.str [109, 97, 120, 45, 97, 103, 101], none) := by kernel_rfl
theorem q1_3_1 : sCall env0 V (sev env0 V 400) 47 [.str [51]] [] = some (.tuple [.int .i64 (.ofNat 3), .int .i64 (.ofNat 0)], none) := by kernel_rfl
theorem q1_3_2 : sCall env0 V (sev env0 V 400) 66 [.str [76, 97, 115, 116, 45, 77, 111, 100, 105, 102, 105, 101, 100]] [] = some (.str [108, 97, 115, 116, 45, 109, 111, 100, 105, 102, 105, 101, 100], none) := by kernel_rfl
end Go.Proofs.YtililkcbnkidjaaGreatDoor.ageNames

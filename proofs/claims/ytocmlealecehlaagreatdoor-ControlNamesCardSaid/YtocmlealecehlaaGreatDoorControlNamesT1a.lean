/- Calls that the law ControlNames makes, reckoned (1.1). -/
import Derived.Test.YtocmlealecehlaaGreatDoorControlNamesMd
namespace Go.Proofs.YtocmlealecehlaaGreatDoor.controlNames
open Go Go.Ve
set_option maxRecDepth 20000
theorem q1_1_0 : callS env0 V (sevI env0 V 400) 164 [.str [109, 97, 120, 45, 97, 103, 101, 61, 53], .str [32, 9]] [] = some (.str [109, 97, 120, 45, 97, 103, 101, 61, 53], none) := by kernel_rfl
theorem q1_1_1 : callS env0 V (sevI env0 V 400) 164 [.str [32, 77, 65, 88, 45, 65, 71, 69, 61, 51], .str [32, 9]] [] = some (.str [77, 65, 88, 45, 65, 71, 69, 61, 51], none) := by kernel_rfl
theorem q1_1_2 : callS env0 V (sevI env0 V 400) 65 [.str [109, 97, 120, 45, 97, 103, 101, 61, 53], .str [61]] [] = some (.tuple [.str [109, 97, 120, 45, 97, 103, 101], .str [53], .bool true], none) := by kernel_rfl
end Go.Proofs.YtocmlealecehlaaGreatDoor.controlNames

/- Calls that the law ControlNames makes, reckoned (1.4). -/
import Derived.Test.YtocmlealecehlaaGreatDoorControlNamesMd
namespace Go.Proofs.YtocmlealecehlaaGreatDoor.controlNames
open Go Go.Ve
set_option maxRecDepth 20000
theorem q1_4_0 : callS env0 V (sevI env0 V 400) 65 [.str [61, 99], .str [61]] [] = some (.tuple [.str [], .str [99], .bool true], none) := by kernel_rfl
theorem q1_4_1 : callS env0 V (sevI env0 V 400) 65 [.str [100, 61], .str [61]] [] = some (.tuple [.str [100], .str [], .bool true], none) := by kernel_rfl
theorem q1_4_2 : callS env0 V (sevI env0 V 400) 164 [.str [109, 97, 120, 45, 115, 116, 97, 108, 101, 61, 53], .str [32, 9]] [] = some (.str [109, 97, 120, 45, 115, 116, 97, 108, 101, 61, 53], none) := by kernel_rfl
theorem q1_4_3 : callS env0 V (sevI env0 V 400) 164 [.str [32, 109, 97, 120, 45, 115, 116, 97, 108, 101, 61, 57], .str [32, 9]] [] = some (.str [109, 97, 120, 45, 115, 116, 97, 108, 101, 61, 57], none) := by kernel_rfl
theorem q1_4_4 : callS env0 V (sevI env0 V 400) 65 [.str [109, 97, 120, 45, 115, 116, 97, 108, 101, 61, 53], .str [61]] [] = some (.tuple [.str [109, 97, 120, 45, 115, 116, 97, 108, 101], .str [53], .bool true], none) := by kernel_rfl
theorem q1_4_5 : callS env0 V (sevI env0 V 400) 65 [.str [109, 97, 120, 45, 115, 116, 97, 108, 101, 61, 57], .str [61]] [] = some (.tuple [.str [109, 97, 120, 45, 115, 116, 97, 108, 101], .str [57], .bool true], none) := by kernel_rfl
theorem q1_4_6 : callS env0 V (sevI env0 V 400) 164 [.str [57], .str [48, 49, 50, 51, 52, 53, 54, 55, 56, 57]] [] = some (.str [], none) := by kernel_rfl
theorem q1_4_7 : callS env0 V (sevI env0 V 400) 164 [.str [110, 111, 45, 115, 116, 111, 114, 101], .str [32, 9]] [] = some (.str [110, 111, 45, 115, 116, 111, 114, 101], none) := by kernel_rfl
theorem q1_4_8 : callS env0 V (sevI env0 V 400) 68 [.str [110, 111, 45, 115, 116, 111, 114, 101]] [] = some (.str [110, 111, 45, 115, 116, 111, 114, 101], none) := by kernel_rfl
theorem q1_4_9 : callS env0 V (sevI env0 V 400) 164 [.str [115, 45, 109, 97, 120, 97, 103, 101, 61, 48], .str [32, 9]] [] = some (.str [115, 45, 109, 97, 120, 97, 103, 101, 61, 48], none) := by kernel_rfl
theorem q1_4_10 : callS env0 V (sevI env0 V 400) 164 [.str [32, 109, 97, 120, 45, 115, 116, 97, 108, 101], .str [32, 9]] [] = some (.str [109, 97, 120, 45, 115, 116, 97, 108, 101], none) := by kernel_rfl
theorem q1_4_11 : callS env0 V (sevI env0 V 400) 164 [.str [32, 109, 105, 110, 45, 102, 114, 101, 115, 104, 61, 55], .str [32, 9]] [] = some (.str [109, 105, 110, 45, 102, 114, 101, 115, 104, 61, 55], none) := by kernel_rfl
theorem q1_4_12 : callS env0 V (sevI env0 V 400) 164 [.str [32, 115, 116, 97, 108, 101, 45, 119, 104, 105, 108, 101, 45, 114, 101, 118, 97, 108, 105, 100, 97, 116, 101, 61, 50, 49, 52, 55, 52, 56, 51, 54, 52, 56], .str [32, 9]] [] = some (.str [115, 116, 97, 108, 101, 45, 119, 104, 105, 108, 101, 45, 114, 101, 118, 97, 108, 105, 100, 97, 116, 101, 61, 50, 49, 52, 55, 52, 56, 51, 54, 52, 56], none) := by kernel_rfl
theorem q1_4_13 : callS env0 V (sevI env0 V 400) 164 [.str [32, 112, 117, 98, 108, 105, 99], .str [32, 9]] [] = some (.str [112, 117, 98, 108, 105, 99], none) := by kernel_rfl
theorem q1_4_14 : callS env0 V (sevI env0 V 400) 65 [.str [115, 45, 109, 97, 120, 97, 103, 101, 61, 48], .str [61]] [] = some (.tuple [.str [115, 45, 109, 97, 120, 97, 103, 101], .str [48], .bool true], none) := by kernel_rfl
theorem q1_4_15 : callS env0 V (sevI env0 V 400) 65 [.str [109, 105, 110, 45, 102, 114, 101, 115, 104, 61, 55], .str [61]] [] = some (.tuple [.str [109, 105, 110, 45, 102, 114, 101, 115, 104], .str [55], .bool true], none) := by kernel_rfl
theorem q1_4_16 : callS env0 V (sevI env0 V 400) 65 [.str [115, 116, 97, 108, 101, 45, 119, 104, 105, 108, 101, 45, 114, 101, 118, 97, 108, 105, 100, 97, 116, 101, 61, 50, 49, 52, 55, 52, 56, 51, 54, 52, 56], .str [61]] [] = some (.tuple [.str [115, 116, 97, 108, 101, 45, 119, 104, 105, 108, 101, 45, 114, 101, 118, 97, 108, 105, 100, 97, 116, 101], .str [50, 49, 52, 55, 52, 56, 51, 54, 52, 56], .bool true], none) := by kernel_rfl
theorem q1_4_17 : callS env0 V (sevI env0 V 400) 164 [.str [50, 49, 52, 55, 52, 56, 51, 54, 52, 56], .str [48, 49, 50, 51, 52, 53, 54, 55, 56, 57]] [] = some (.str [], none) := by kernel_rfl
theorem q1_4_18 : callS env0 V (sevI env0 V 400) 164 [.str [109, 105, 110, 45, 102, 114, 101, 115, 104], .str [32, 9]] [] = some (.str [109, 105, 110, 45, 102, 114, 101, 115, 104], none) := by kernel_rfl
end Go.Proofs.YtocmlealecehlaaGreatDoor.controlNames

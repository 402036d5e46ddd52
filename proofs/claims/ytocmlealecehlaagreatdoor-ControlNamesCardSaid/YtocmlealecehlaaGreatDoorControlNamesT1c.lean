/- Calls that the law ControlNames makes, reckoned (1.3). -/
import Derived.Test.YtocmlealecehlaaGreatDoorControlNamesMd
namespace Go.Proofs.YtocmlealecehlaaGreatDoor.controlNames
open Go Go.Ve
set_option maxRecDepth 20000
theorem q1_3_0 : callS env0 V (sevI env0 V 400) 68 [.str [109, 97, 120, 45, 97, 103, 101]] [] = some (.str [109, 97, 120, 45, 97, 103, 101], none) := by kernel_rfl
theorem q1_3_1 : callS env0 V (sevI env0 V 400) 164 [.str [53], .str [48, 49, 50, 51, 52, 53, 54, 55, 56, 57]] [] = some (.str [], none) := by kernel_rfl
theorem q1_3_2 : callS env0 V (sevI env0 V 400) 65 [.str [77, 65, 88, 45, 65, 71, 69, 61, 51], .str [61]] [] = some (.tuple [.str [77, 65, 88, 45, 65, 71, 69], .str [51], .bool true], none) := by kernel_rfl
theorem q1_3_3 : callS env0 V (sevI env0 V 400) 68 [.str [77, 65, 88, 45, 65, 71, 69]] [] = some (.str [109, 97, 120, 45, 97, 103, 101], none) := by kernel_rfl
theorem q1_3_4 : callS env0 V (sevI env0 V 400) 164 [.str [51], .str [48, 49, 50, 51, 52, 53, 54, 55, 56, 57]] [] = some (.str [], none) := by kernel_rfl
theorem q1_3_5 : callS env0 V (sevI env0 V 400) 164 [.str [110, 111, 45, 99, 97, 99, 104, 101, 61, 34, 120, 34], .str [32, 9]] [] = some (.str [110, 111, 45, 99, 97, 99, 104, 101, 61, 34, 120, 34], none) := by kernel_rfl
theorem q1_3_6 : callS env0 V (sevI env0 V 400) 65 [.str [110, 111, 45, 99, 97, 99, 104, 101, 61, 34, 120, 34], .str [61]] [] = some (.tuple [.str [110, 111, 45, 99, 97, 99, 104, 101], .str [34, 120, 34], .bool true], none) := by kernel_rfl
theorem q1_3_7 : callS env0 V (sevI env0 V 400) 68 [.str [110, 111, 45, 99, 97, 99, 104, 101]] [] = some (.str [110, 111, 45, 99, 97, 99, 104, 101], none) := by kernel_rfl
theorem q1_3_8 : callS env0 V (sevI env0 V 400) 164 [.str [109, 97, 120, 45, 115, 116, 97, 108, 101], .str [32, 9]] [] = some (.str [109, 97, 120, 45, 115, 116, 97, 108, 101], none) := by kernel_rfl
theorem q1_3_9 : callS env0 V (sevI env0 V 400) 164 [.str [32, 109, 105, 110, 45, 102, 114, 101, 115, 104, 61, 34, 55, 34], .str [32, 9]] [] = some (.str [109, 105, 110, 45, 102, 114, 101, 115, 104, 61, 34, 55, 34], none) := by kernel_rfl
theorem q1_3_10 : callS env0 V (sevI env0 V 400) 164 [.str [32, 115, 45, 109, 97, 120, 97, 103, 101, 61, 120], .str [32, 9]] [] = some (.str [115, 45, 109, 97, 120, 97, 103, 101, 61, 120], none) := by kernel_rfl
theorem q1_3_11 : callS env0 V (sevI env0 V 400) 68 [.str [109, 97, 120, 45, 115, 116, 97, 108, 101]] [] = some (.str [109, 97, 120, 45, 115, 116, 97, 108, 101], none) := by kernel_rfl
theorem q1_3_12 : callS env0 V (sevI env0 V 400) 65 [.str [109, 105, 110, 45, 102, 114, 101, 115, 104, 61, 34, 55, 34], .str [61]] [] = some (.tuple [.str [109, 105, 110, 45, 102, 114, 101, 115, 104], .str [34, 55, 34], .bool true], none) := by kernel_rfl
theorem q1_3_13 : callS env0 V (sevI env0 V 400) 68 [.str [109, 105, 110, 45, 102, 114, 101, 115, 104]] [] = some (.str [109, 105, 110, 45, 102, 114, 101, 115, 104], none) := by kernel_rfl
theorem q1_3_14 : callS env0 V (sevI env0 V 400) 164 [.str [55], .str [48, 49, 50, 51, 52, 53, 54, 55, 56, 57]] [] = some (.str [], none) := by kernel_rfl
theorem q1_3_15 : callS env0 V (sevI env0 V 400) 65 [.str [115, 45, 109, 97, 120, 97, 103, 101, 61, 120], .str [61]] [] = some (.tuple [.str [115, 45, 109, 97, 120, 97, 103, 101], .str [120], .bool true], none) := by kernel_rfl
theorem q1_3_16 : callS env0 V (sevI env0 V 400) 68 [.str [115, 45, 109, 97, 120, 97, 103, 101]] [] = some (.str [115, 45, 109, 97, 120, 97, 103, 101], none) := by kernel_rfl
theorem q1_3_17 : callS env0 V (sevI env0 V 400) 164 [.str [120], .str [48, 49, 50, 51, 52, 53, 54, 55, 56, 57]] [] = some (.str [120], none) := by kernel_rfl
theorem q1_3_18 : callS env0 V (sevI env0 V 400) 164 [.str [115, 116, 97, 108, 101, 45, 119, 104, 105, 108, 101, 45, 114, 101, 118, 97, 108, 105, 100, 97, 116, 101, 61, 57, 57, 57, 57, 57, 57, 57, 57, 57, 57, 57], .str [32, 9]] [] = some (.str [115, 116, 97, 108, 101, 45, 119, 104, 105, 108, 101, 45, 114, 101, 118, 97, 108, 105, 100, 97, 116, 101, 61, 57, 57, 57, 57, 57, 57, 57, 57, 57, 57, 57], none) := by kernel_rfl
theorem q1_3_19 : callS env0 V (sevI env0 V 400) 164 [.str [32, 115, 116, 97, 108, 101, 45, 105, 102, 45, 101, 114, 114, 111, 114, 61, 49], .str [32, 9]] [] = some (.str [115, 116, 97, 108, 101, 45, 105, 102, 45, 101, 114, 114, 111, 114, 61, 49], none) := by kernel_rfl
theorem q1_3_20 : callS env0 V (sevI env0 V 400) 164 [.str [32, 115, 116, 97, 108, 101, 45, 105, 102, 45, 101, 114, 114, 111, 114, 61, 48], .str [32, 9]] [] = some (.str [115, 116, 97, 108, 101, 45, 105, 102, 45, 101, 114, 114, 111, 114, 61, 48], none) := by kernel_rfl
theorem q1_3_21 : callS env0 V (sevI env0 V 400) 164 [.str [32, 112, 114, 105, 118, 97, 116, 101], .str [32, 9]] [] = some (.str [112, 114, 105, 118, 97, 116, 101], none) := by kernel_rfl
theorem q1_3_22 : callS env0 V (sevI env0 V 400) 164 [.str [32, 112, 117, 98, 108, 105, 99, 61, 49], .str [32, 9]] [] = some (.str [112, 117, 98, 108, 105, 99, 61, 49], none) := by kernel_rfl
theorem q1_3_23 : callS env0 V (sevI env0 V 400) 164 [.str [32, 119, 104, 97, 116], .str [32, 9]] [] = some (.str [119, 104, 97, 116], none) := by kernel_rfl
theorem q1_3_24 : callS env0 V (sevI env0 V 400) 164 [.str [32, 97, 32, 98], .str [32, 9]] [] = some (.str [97, 32, 98], none) := by kernel_rfl
theorem q1_3_25 : callS env0 V (sevI env0 V 400) 65 [.str [115, 116, 97, 108, 101, 45, 119, 104, 105, 108, 101, 45, 114, 101, 118, 97, 108, 105, 100, 97, 116, 101, 61, 57, 57, 57, 57, 57, 57, 57, 57, 57, 57, 57], .str [61]] [] = some (.tuple [.str [115, 116, 97, 108, 101, 45, 119, 104, 105, 108, 101, 45, 114, 101, 118, 97, 108, 105, 100, 97, 116, 101], .str [57, 57, 57, 57, 57, 57, 57, 57, 57, 57, 57], .bool true], none) := by kernel_rfl
theorem q1_3_26 : callS env0 V (sevI env0 V 400) 68 [.str [115, 116, 97, 108, 101, 45, 119, 104, 105, 108, 101, 45, 114, 101, 118, 97, 108, 105, 100, 97, 116, 101]] [] = some (.str [115, 116, 97, 108, 101, 45, 119, 104, 105, 108, 101, 45, 114, 101, 118, 97, 108, 105, 100, 97, 116, 101], none) := by kernel_rfl
theorem q1_3_27 : callS env0 V (sevI env0 V 400) 164 [.str [57, 57, 57, 57, 57, 57, 57, 57, 57, 57, 57], .str [48, 49, 50, 51, 52, 53, 54, 55, 56, 57]] [] = some (.str [], none) := by kernel_rfl
theorem q1_3_28 : callS env0 V (sevI env0 V 400) 65 [.str [115, 116, 97, 108, 101, 45, 105, 102, 45, 101, 114, 114, 111, 114, 61, 49], .str [61]] [] = some (.tuple [.str [115, 116, 97, 108, 101, 45, 105, 102, 45, 101, 114, 114, 111, 114], .str [49], .bool true], none) := by kernel_rfl
theorem q1_3_29 : callS env0 V (sevI env0 V 400) 68 [.str [115, 116, 97, 108, 101, 45, 105, 102, 45, 101, 114, 114, 111, 114]] [] = some (.str [115, 116, 97, 108, 101, 45, 105, 102, 45, 101, 114, 114, 111, 114], none) := by kernel_rfl
theorem q1_3_30 : callS env0 V (sevI env0 V 400) 164 [.str [49], .str [48, 49, 50, 51, 52, 53, 54, 55, 56, 57]] [] = some (.str [], none) := by kernel_rfl
theorem q1_3_31 : callS env0 V (sevI env0 V 400) 65 [.str [115, 116, 97, 108, 101, 45, 105, 102, 45, 101, 114, 114, 111, 114, 61, 48], .str [61]] [] = some (.tuple [.str [115, 116, 97, 108, 101, 45, 105, 102, 45, 101, 114, 114, 111, 114], .str [48], .bool true], none) := by kernel_rfl
theorem q1_3_32 : callS env0 V (sevI env0 V 400) 164 [.str [48], .str [48, 49, 50, 51, 52, 53, 54, 55, 56, 57]] [] = some (.str [], none) := by kernel_rfl
theorem q1_3_33 : callS env0 V (sevI env0 V 400) 68 [.str [112, 114, 105, 118, 97, 116, 101]] [] = some (.str [112, 114, 105, 118, 97, 116, 101], none) := by kernel_rfl
theorem q1_3_34 : callS env0 V (sevI env0 V 400) 65 [.str [112, 117, 98, 108, 105, 99, 61, 49], .str [61]] [] = some (.tuple [.str [112, 117, 98, 108, 105, 99], .str [49], .bool true], none) := by kernel_rfl
theorem q1_3_35 : callS env0 V (sevI env0 V 400) 68 [.str [112, 117, 98, 108, 105, 99]] [] = some (.str [112, 117, 98, 108, 105, 99], none) := by kernel_rfl
theorem q1_3_36 : callS env0 V (sevI env0 V 400) 68 [.str [119, 104, 97, 116]] [] = some (.str [119, 104, 97, 116], none) := by kernel_rfl
theorem q1_3_37 : callS env0 V (sevI env0 V 400) 164 [.str [65, 61, 34, 120, 32, 121, 34], .str [32, 9]] [] = some (.str [65, 61, 34, 120, 32, 121, 34], none) := by kernel_rfl
theorem q1_3_38 : callS env0 V (sevI env0 V 400) 164 [.str [32, 98], .str [32, 9]] [] = some (.str [98], none) := by kernel_rfl
theorem q1_3_39 : callS env0 V (sevI env0 V 400) 164 [.str [32, 61, 99], .str [32, 9]] [] = some (.str [61, 99], none) := by kernel_rfl
theorem q1_3_40 : callS env0 V (sevI env0 V 400) 164 [.str [32, 100, 61], .str [32, 9]] [] = some (.str [100, 61], none) := by kernel_rfl
theorem q1_3_41 : callS env0 V (sevI env0 V 400) 65 [.str [65, 61, 34, 120, 32, 121, 34], .str [61]] [] = some (.tuple [.str [65], .str [34, 120, 32, 121, 34], .bool true], none) := by kernel_rfl
end Go.Proofs.YtocmlealecehlaaGreatDoor.controlNames

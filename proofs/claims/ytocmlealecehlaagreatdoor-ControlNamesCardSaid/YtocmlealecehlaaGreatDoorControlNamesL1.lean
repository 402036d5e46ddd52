/- The table of the calls reckoned (1). -/
import Derived.Test.YtocmlealecehlaaGreatDoorControlNamesMd
import Derived.Test.YtocmlealecehlaaGreatDoorControlNamesT1a
import Derived.Test.YtocmlealecehlaaGreatDoorControlNamesT1b
import Derived.Test.YtocmlealecehlaaGreatDoorControlNamesT1c
import Derived.Test.YtocmlealecehlaaGreatDoorControlNamesT1d
namespace Go.Proofs.YtocmlealecehlaaGreatDoor.controlNames
open Go Go.Ve
set_option maxRecDepth 20000
def a1_164 : Ans := [([.str [109, 97, 120, 45, 97, 103, 101, 61, 53], .str [32, 9]], .str [109, 97, 120, 45, 97, 103, 101, 61, 53]), ([.str [32, 77, 65, 88, 45, 65, 71, 69, 61, 51], .str [32, 9]], .str [77, 65, 88, 45, 65, 71, 69, 61, 51]), ([.str [53], .str [48, 49, 50, 51, 52, 53, 54, 55, 56, 57]], .str []), ([.str [51], .str [48, 49, 50, 51, 52, 53, 54, 55, 56, 57]], .str []), ([.str [110, 111, 45, 99, 97, 99, 104, 101, 61, 34, 120, 34], .str [32, 9]], .str [110, 111, 45, 99, 97, 99, 104, 101, 61, 34, 120, 34]), ([.str [109, 97, 120, 45, 115, 116, 97, 108, 101], .str [32, 9]], .str [109, 97, 120, 45, 115, 116, 97, 108, 101]), ([.str [32, 109, 105, 110, 45, 102, 114, 101, 115, 104, 61, 34, 55, 34], .str [32, 9]], .str [109, 105, 110, 45, 102, 114, 101, 115, 104, 61, 34, 55, 34]), ([.str [32, 115, 45, 109, 97, 120, 97, 103, 101, 61, 120], .str [32, 9]], .str [115, 45, 109, 97, 120, 97, 103, 101, 61, 120]), ([.str [55], .str [48, 49, 50, 51, 52, 53, 54, 55, 56, 57]], .str []), ([.str [120], .str [48, 49, 50, 51, 52, 53, 54, 55, 56, 57]], .str [120]), ([.str [115, 116, 97, 108, 101, 45, 119, 104, 105, 108, 101, 45, 114, 101, 118, 97, 108, 105, 100, 97, 116, 101, 61, 57, 57, 57, 57, 57, 57, 57, 57, 57, 57, 57], .str [32, 9]], .str [115, 116, 97, 108, 101, 45, 119, 104, 105, 108, 101, 45, 114, 101, 118, 97, 108, 105, 100, 97, 116, 101, 61, 57, 57, 57, 57, 57, 57, 57, 57, 57, 57, 57]), ([.str [32, 115, 116, 97, 108, 101, 45, 105, 102, 45, 101, 114, 114, 111, 114, 61, 49], .str [32, 9]], .str [115, 116, 97, 108, 101, 45, 105, 102, 45, 101, 114, 114, 111, 114, 61, 49]), ([.str [32, 115, 116, 97, 108, 101, 45, 105, 102, 45, 101, 114, 114, 111, 114, 61, 48], .str [32, 9]], .str [115, 116, 97, 108, 101, 45, 105, 102, 45, 101, 114, 114, 111, 114, 61, 48]), ([.str [32, 112, 114, 105, 118, 97, 116, 101], .str [32, 9]], .str [112, 114, 105, 118, 97, 116, 101]), ([.str [32, 112, 117, 98, 108, 105, 99, 61, 49], .str [32, 9]], .str [112, 117, 98, 108, 105, 99, 61, 49]), ([.str [32, 119, 104, 97, 116], .str [32, 9]], .str [119, 104, 97, 116]), ([.str [32, 97, 32, 98], .str [32, 9]], .str [97, 32, 98]), ([.str [57, 57, 57, 57, 57, 57, 57, 57, 57, 57, 57], .str [48, 49, 50, 51, 52, 53, 54, 55, 56, 57]], .str []), ([.str [49], .str [48, 49, 50, 51, 52, 53, 54, 55, 56, 57]], .str []), ([.str [48], .str [48, 49, 50, 51, 52, 53, 54, 55, 56, 57]], .str []), ([.str [65, 61, 34, 120, 32, 121, 34], .str [32, 9]], .str [65, 61, 34, 120, 32, 121, 34]), ([.str [32, 98], .str [32, 9]], .str [98]), ([.str [32, 61, 99], .str [32, 9]], .str [61, 99]), ([.str [32, 100, 61], .str [32, 9]], .str [100, 61]), ([.str [109, 97, 120, 45, 115, 116, 97, 108, 101, 61, 53], .str [32, 9]], .str [109, 97, 120, 45, 115, 116, 97, 108, 101, 61, 53]), ([.str [32, 109, 97, 120, 45, 115, 116, 97, 108, 101, 61, 57], .str [32, 9]], .str [109, 97, 120, 45, 115, 116, 97, 108, 101, 61, 57]), ([.str [57], .str [48, 49, 50, 51, 52, 53, 54, 55, 56, 57]], .str []), ([.str [110, 111, 45, 115, 116, 111, 114, 101], .str [32, 9]], .str [110, 111, 45, 115, 116, 111, 114, 101]), ([.str [115, 45, 109, 97, 120, 97, 103, 101, 61, 48], .str [32, 9]], .str [115, 45, 109, 97, 120, 97, 103, 101, 61, 48]), ([.str [32, 109, 97, 120, 45, 115, 116, 97, 108, 101], .str [32, 9]], .str [109, 97, 120, 45, 115, 116, 97, 108, 101]), ([.str [32, 109, 105, 110, 45, 102, 114, 101, 115, 104, 61, 55], .str [32, 9]], .str [109, 105, 110, 45, 102, 114, 101, 115, 104, 61, 55]), ([.str [32, 115, 116, 97, 108, 101, 45, 119, 104, 105, 108, 101, 45, 114, 101, 118, 97, 108, 105, 100, 97, 116, 101, 61, 50, 49, 52, 55, 52, 56, 51, 54, 52, 56], .str [32, 9]], .str [115, 116, 97, 108, 101, 45, 119, 104, 105, 108, 101, 45, 114, 101, 118, 97, 108, 105, 100, 97, 116, 101, 61, 50, 49, 52, 55, 52, 56, 51, 54, 52, 56]), ([.str [32, 112, 117, 98, 108, 105, 99], .str [32, 9]], .str [112, 117, 98, 108, 105, 99]), ([.str [50, 49, 52, 55, 52, 56, 51, 54, 52, 56], .str [48, 49, 50, 51, 52, 53, 54, 55, 56, 57]], .str []), ([.str [109, 105, 110, 45, 102, 114, 101, 115, 104], .str [32, 9]], .str [109, 105, 110, 45, 102, 114, 101, 115, 104])]
theorem a1_164Ok : AnsOk Tryz.prog 164 a1_164 := by
  intro e he
  simp only [a1_164, List.mem_cons, List.mem_nil_iff, or_false] at he
  rcases he with rfl | rfl | rfl | rfl | rfl | rfl | rfl | rfl | rfl | rfl | rfl | rfl | rfl | rfl | rfl | rfl | rfl | rfl | rfl | rfl | rfl | rfl | rfl | rfl | rfl | rfl | rfl | rfl | rfl | rfl | rfl | rfl | rfl | rfl | rfl
  · exact ⟨by kernel_rfl, by kernel_rfl, _, call0, callI_of_sev Vok q1_1_0⟩
  · exact ⟨by kernel_rfl, by kernel_rfl, _, call0, callI_of_sev Vok q1_1_1⟩
  · exact ⟨by kernel_rfl, by kernel_rfl, _, call0, callI_of_sev Vok q1_3_1⟩
  · exact ⟨by kernel_rfl, by kernel_rfl, _, call0, callI_of_sev Vok q1_3_4⟩
  · exact ⟨by kernel_rfl, by kernel_rfl, _, call0, callI_of_sev Vok q1_3_5⟩
  · exact ⟨by kernel_rfl, by kernel_rfl, _, call0, callI_of_sev Vok q1_3_8⟩
  · exact ⟨by kernel_rfl, by kernel_rfl, _, call0, callI_of_sev Vok q1_3_9⟩
  · exact ⟨by kernel_rfl, by kernel_rfl, _, call0, callI_of_sev Vok q1_3_10⟩
  · exact ⟨by kernel_rfl, by kernel_rfl, _, call0, callI_of_sev Vok q1_3_14⟩
  · exact ⟨by kernel_rfl, by kernel_rfl, _, call0, callI_of_sev Vok q1_3_17⟩
  · exact ⟨by kernel_rfl, by kernel_rfl, _, call0, callI_of_sev Vok q1_3_18⟩
  · exact ⟨by kernel_rfl, by kernel_rfl, _, call0, callI_of_sev Vok q1_3_19⟩
  · exact ⟨by kernel_rfl, by kernel_rfl, _, call0, callI_of_sev Vok q1_3_20⟩
  · exact ⟨by kernel_rfl, by kernel_rfl, _, call0, callI_of_sev Vok q1_3_21⟩
  · exact ⟨by kernel_rfl, by kernel_rfl, _, call0, callI_of_sev Vok q1_3_22⟩
  · exact ⟨by kernel_rfl, by kernel_rfl, _, call0, callI_of_sev Vok q1_3_23⟩
  · exact ⟨by kernel_rfl, by kernel_rfl, _, call0, callI_of_sev Vok q1_3_24⟩
  · exact ⟨by kernel_rfl, by kernel_rfl, _, call0, callI_of_sev Vok q1_3_27⟩
  · exact ⟨by kernel_rfl, by kernel_rfl, _, call0, callI_of_sev Vok q1_3_30⟩
  · exact ⟨by kernel_rfl, by kernel_rfl, _, call0, callI_of_sev Vok q1_3_32⟩
  · exact ⟨by kernel_rfl, by kernel_rfl, _, call0, callI_of_sev Vok q1_3_37⟩
  · exact ⟨by kernel_rfl, by kernel_rfl, _, call0, callI_of_sev Vok q1_3_38⟩
  · exact ⟨by kernel_rfl, by kernel_rfl, _, call0, callI_of_sev Vok q1_3_39⟩
  · exact ⟨by kernel_rfl, by kernel_rfl, _, call0, callI_of_sev Vok q1_3_40⟩
  · exact ⟨by kernel_rfl, by kernel_rfl, _, call0, callI_of_sev Vok q1_4_2⟩
  · exact ⟨by kernel_rfl, by kernel_rfl, _, call0, callI_of_sev Vok q1_4_3⟩
  · exact ⟨by kernel_rfl, by kernel_rfl, _, call0, callI_of_sev Vok q1_4_6⟩
  · exact ⟨by kernel_rfl, by kernel_rfl, _, call0, callI_of_sev Vok q1_4_7⟩
  · exact ⟨by kernel_rfl, by kernel_rfl, _, call0, callI_of_sev Vok q1_4_9⟩
  · exact ⟨by kernel_rfl, by kernel_rfl, _, call0, callI_of_sev Vok q1_4_10⟩
  · exact ⟨by kernel_rfl, by kernel_rfl, _, call0, callI_of_sev Vok q1_4_11⟩
  · exact ⟨by kernel_rfl, by kernel_rfl, _, call0, callI_of_sev Vok q1_4_12⟩
  · exact ⟨by kernel_rfl, by kernel_rfl, _, call0, callI_of_sev Vok q1_4_13⟩
  · exact ⟨by kernel_rfl, by kernel_rfl, _, call0, callI_of_sev Vok q1_4_17⟩
  · exact ⟨by kernel_rfl, by kernel_rfl, _, call0, callI_of_sev Vok q1_4_18⟩
def a1_65 : Ans := [([.str [109, 97, 120, 45, 97, 103, 101, 61, 53], .str [61]], .tuple [.str [109, 97, 120, 45, 97, 103, 101], .str [53], .bool true]), ([.str [77, 65, 88, 45, 65, 71, 69, 61, 51], .str [61]], .tuple [.str [77, 65, 88, 45, 65, 71, 69], .str [51], .bool true]), ([.str [110, 111, 45, 99, 97, 99, 104, 101, 61, 34, 120, 34], .str [61]], .tuple [.str [110, 111, 45, 99, 97, 99, 104, 101], .str [34, 120, 34], .bool true]), ([.str [109, 105, 110, 45, 102, 114, 101, 115, 104, 61, 34, 55, 34], .str [61]], .tuple [.str [109, 105, 110, 45, 102, 114, 101, 115, 104], .str [34, 55, 34], .bool true]), ([.str [115, 45, 109, 97, 120, 97, 103, 101, 61, 120], .str [61]], .tuple [.str [115, 45, 109, 97, 120, 97, 103, 101], .str [120], .bool true]), ([.str [115, 116, 97, 108, 101, 45, 119, 104, 105, 108, 101, 45, 114, 101, 118, 97, 108, 105, 100, 97, 116, 101, 61, 57, 57, 57, 57, 57, 57, 57, 57, 57, 57, 57], .str [61]], .tuple [.str [115, 116, 97, 108, 101, 45, 119, 104, 105, 108, 101, 45, 114, 101, 118, 97, 108, 105, 100, 97, 116, 101], .str [57, 57, 57, 57, 57, 57, 57, 57, 57, 57, 57], .bool true]), ([.str [115, 116, 97, 108, 101, 45, 105, 102, 45, 101, 114, 114, 111, 114, 61, 49], .str [61]], .tuple [.str [115, 116, 97, 108, 101, 45, 105, 102, 45, 101, 114, 114, 111, 114], .str [49], .bool true]), ([.str [115, 116, 97, 108, 101, 45, 105, 102, 45, 101, 114, 114, 111, 114, 61, 48], .str [61]], .tuple [.str [115, 116, 97, 108, 101, 45, 105, 102, 45, 101, 114, 114, 111, 114], .str [48], .bool true]), ([.str [112, 117, 98, 108, 105, 99, 61, 49], .str [61]], .tuple [.str [112, 117, 98, 108, 105, 99], .str [49], .bool true]), ([.str [65, 61, 34, 120, 32, 121, 34], .str [61]], .tuple [.str [65], .str [34, 120, 32, 121, 34], .bool true]), ([.str [61, 99], .str [61]], .tuple [.str [], .str [99], .bool true]), ([.str [100, 61], .str [61]], .tuple [.str [100], .str [], .bool true]), ([.str [109, 97, 120, 45, 115, 116, 97, 108, 101, 61, 53], .str [61]], .tuple [.str [109, 97, 120, 45, 115, 116, 97, 108, 101], .str [53], .bool true]), ([.str [109, 97, 120, 45, 115, 116, 97, 108, 101, 61, 57], .str [61]], .tuple [.str [109, 97, 120, 45, 115, 116, 97, 108, 101], .str [57], .bool true]), ([.str [115, 45, 109, 97, 120, 97, 103, 101, 61, 48], .str [61]], .tuple [.str [115, 45, 109, 97, 120, 97, 103, 101], .str [48], .bool true]), ([.str [109, 105, 110, 45, 102, 114, 101, 115, 104, 61, 55], .str [61]], .tuple [.str [109, 105, 110, 45, 102, 114, 101, 115, 104], .str [55], .bool true]), ([.str [115, 116, 97, 108, 101, 45, 119, 104, 105, 108, 101, 45, 114, 101, 118, 97, 108, 105, 100, 97, 116, 101, 61, 50, 49, 52, 55, 52, 56, 51, 54, 52, 56], .str [61]], .tuple [.str [115, 116, 97, 108, 101, 45, 119, 104, 105, 108, 101, 45, 114, 101, 118, 97, 108, 105, 100, 97, 116, 101], .str [50, 49, 52, 55, 52, 56, 51, 54, 52, 56], .bool true])]
theorem a1_65Ok : AnsOk Tryz.prog 65 a1_65 := by
  intro e he
  simp only [a1_65, List.mem_cons, List.mem_nil_iff, or_false] at he
  rcases he with rfl | rfl | rfl | rfl | rfl | rfl | rfl | rfl | rfl | rfl | rfl | rfl | rfl | rfl | rfl | rfl | rfl
  · exact ⟨by kernel_rfl, by kernel_rfl, _, call0, callI_of_sev Vok q1_1_2⟩
  · exact ⟨by kernel_rfl, by kernel_rfl, _, call0, callI_of_sev Vok q1_3_2⟩
  · exact ⟨by kernel_rfl, by kernel_rfl, _, call0, callI_of_sev Vok q1_3_6⟩
  · exact ⟨by kernel_rfl, by kernel_rfl, _, call0, callI_of_sev Vok q1_3_12⟩
  · exact ⟨by kernel_rfl, by kernel_rfl, _, call0, callI_of_sev Vok q1_3_15⟩
  · exact ⟨by kernel_rfl, by kernel_rfl, _, call0, callI_of_sev Vok q1_3_25⟩
  · exact ⟨by kernel_rfl, by kernel_rfl, _, call0, callI_of_sev Vok q1_3_28⟩
  · exact ⟨by kernel_rfl, by kernel_rfl, _, call0, callI_of_sev Vok q1_3_31⟩
  · exact ⟨by kernel_rfl, by kernel_rfl, _, call0, callI_of_sev Vok q1_3_34⟩
  · exact ⟨by kernel_rfl, by kernel_rfl, _, call0, callI_of_sev Vok q1_3_41⟩
  · exact ⟨by kernel_rfl, by kernel_rfl, _, call0, callI_of_sev Vok q1_4_0⟩
  · exact ⟨by kernel_rfl, by kernel_rfl, _, call0, callI_of_sev Vok q1_4_1⟩
  · exact ⟨by kernel_rfl, by kernel_rfl, _, call0, callI_of_sev Vok q1_4_4⟩
  · exact ⟨by kernel_rfl, by kernel_rfl, _, call0, callI_of_sev Vok q1_4_5⟩
  · exact ⟨by kernel_rfl, by kernel_rfl, _, call0, callI_of_sev Vok q1_4_14⟩
  · exact ⟨by kernel_rfl, by kernel_rfl, _, call0, callI_of_sev Vok q1_4_15⟩
  · exact ⟨by kernel_rfl, by kernel_rfl, _, call0, callI_of_sev Vok q1_4_16⟩
def a1_166 : Ans := [([], .agg [.int .u8 (.ofNat 0), .int .u8 (.ofNat 0), .int .u8 (.ofNat 0), .int .u8 (.ofNat 0), .int .u8 (.ofNat 0), .int .u8 (.ofNat 0), .int .u8 (.ofNat 0), .int .u8 (.ofNat 0), .int .u8 (.ofNat 0), .int .u8 (.ofNat 2), .int .u8 (.ofNat 0), .int .u8 (.ofNat 0), .int .u8 (.ofNat 0), .int .u8 (.ofNat 0), .int .u8 (.ofNat 0), .int .u8 (.ofNat 0), .int .u8 (.ofNat 0), .int .u8 (.ofNat 0), .int .u8 (.ofNat 0), .int .u8 (.ofNat 0), .int .u8 (.ofNat 0), .int .u8 (.ofNat 0), .int .u8 (.ofNat 0), .int .u8 (.ofNat 0), .int .u8 (.ofNat 0), .int .u8 (.ofNat 0), .int .u8 (.ofNat 0), .int .u8 (.ofNat 0), .int .u8 (.ofNat 0), .int .u8 (.ofNat 0), .int .u8 (.ofNat 0), .int .u8 (.ofNat 0), .int .u8 (.ofNat 2), .int .u8 (.ofNat 3), .int .u8 (.ofNat 2), .int .u8 (.ofNat 3), .int .u8 (.ofNat 3), .int .u8 (.ofNat 3), .int .u8 (.ofNat 3), .int .u8 (.ofNat 3), .int .u8 (.ofNat 2), .int .u8 (.ofNat 2), .int .u8 (.ofNat 3), .int .u8 (.ofNat 3), .int .u8 (.ofNat 2), .int .u8 (.ofNat 3), .int .u8 (.ofNat 3), .int .u8 (.ofNat 2), .int .u8 (.ofNat 3), .int .u8 (.ofNat 3), .int .u8 (.ofNat 3), .int .u8 (.ofNat 3), .int .u8 (.ofNat 3), .int .u8 (.ofNat 3), .int .u8 (.ofNat 3), .int .u8 (.ofNat 3), .int .u8 (.ofNat 3), .int .u8 (.ofNat 3), .int .u8 (.ofNat 2), .int .u8 (.ofNat 2), .int .u8 (.ofNat 2), .int .u8 (.ofNat 2), .int .u8 (.ofNat 2), .int .u8 (.ofNat 2), .int .u8 (.ofNat 2), .int .u8 (.ofNat 3), .int .u8 (.ofNat 3), .int .u8 (.ofNat 3), .int .u8 (.ofNat 3), .int .u8 (.ofNat 3), .int .u8 (.ofNat 3), .int .u8 (.ofNat 3), .int .u8 (.ofNat 3), .int .u8 (.ofNat 3), .int .u8 (.ofNat 3), .int .u8 (.ofNat 3), .int .u8 (.ofNat 3), .int .u8 (.ofNat 3), .int .u8 (.ofNat 3), .int .u8 (.ofNat 3), .int .u8 (.ofNat 3), .int .u8 (.ofNat 3), .int .u8 (.ofNat 3), .int .u8 (.ofNat 3), .int .u8 (.ofNat 3), .int .u8 (.ofNat 3), .int .u8 (.ofNat 3), .int .u8 (.ofNat 3), .int .u8 (.ofNat 3), .int .u8 (.ofNat 3), .int .u8 (.ofNat 3), .int .u8 (.ofNat 2), .int .u8 (.ofNat 2), .int .u8 (.ofNat 2), .int .u8 (.ofNat 3), .int .u8 (.ofNat 3), .int .u8 (.ofNat 3), .int .u8 (.ofNat 3), .int .u8 (.ofNat 3), .int .u8 (.ofNat 3), .int .u8 (.ofNat 3), .int .u8 (.ofNat 3), .int .u8 (.ofNat 3), .int .u8 (.ofNat 3), .int .u8 (.ofNat 3), .int .u8 (.ofNat 3), .int .u8 (.ofNat 3), .int .u8 (.ofNat 3), .int .u8 (.ofNat 3), .int .u8 (.ofNat 3), .int .u8 (.ofNat 3), .int .u8 (.ofNat 3), .int .u8 (.ofNat 3), .int .u8 (.ofNat 3), .int .u8 (.ofNat 3), .int .u8 (.ofNat 3), .int .u8 (.ofNat 3), .int .u8 (.ofNat 3), .int .u8 (.ofNat 3), .int .u8 (.ofNat 3), .int .u8 (.ofNat 3), .int .u8 (.ofNat 3), .int .u8 (.ofNat 3), .int .u8 (.ofNat 2), .int .u8 (.ofNat 3), .int .u8 (.ofNat 2), .int .u8 (.ofNat 3), .int .u8 (.ofNat 0), .int .u8 (.ofNat 2), .int .u8 (.ofNat 2), .int .u8 (.ofNat 2), .int .u8 (.ofNat 2), .int .u8 (.ofNat 2), .int .u8 (.ofNat 2), .int .u8 (.ofNat 2), .int .u8 (.ofNat 2), .int .u8 (.ofNat 2), .int .u8 (.ofNat 2), .int .u8 (.ofNat 2), .int .u8 (.ofNat 2), .int .u8 (.ofNat 2), .int .u8 (.ofNat 2), .int .u8 (.ofNat 2), .int .u8 (.ofNat 2), .int .u8 (.ofNat 2), .int .u8 (.ofNat 2), .int .u8 (.ofNat 2), .int .u8 (.ofNat 2), .int .u8 (.ofNat 2), .int .u8 (.ofNat 2), .int .u8 (.ofNat 2), .int .u8 (.ofNat 2), .int .u8 (.ofNat 2), .int .u8 (.ofNat 2), .int .u8 (.ofNat 2), .int .u8 (.ofNat 2), .int .u8 (.ofNat 2), .int .u8 (.ofNat 2), .int .u8 (.ofNat 2), .int .u8 (.ofNat 2), .int .u8 (.ofNat 2), .int .u8 (.ofNat 2), .int .u8 (.ofNat 2), .int .u8 (.ofNat 2), .int .u8 (.ofNat 2), .int .u8 (.ofNat 2), .int .u8 (.ofNat 2), .int .u8 (.ofNat 2), .int .u8 (.ofNat 2), .int .u8 (.ofNat 2), .int .u8 (.ofNat 2), .int .u8 (.ofNat 2), .int .u8 (.ofNat 2), .int .u8 (.ofNat 2), .int .u8 (.ofNat 2), .int .u8 (.ofNat 2), .int .u8 (.ofNat 2), .int .u8 (.ofNat 2), .int .u8 (.ofNat 2), .int .u8 (.ofNat 2), .int .u8 (.ofNat 2), .int .u8 (.ofNat 2), .int .u8 (.ofNat 2), .int .u8 (.ofNat 2), .int .u8 (.ofNat 2), .int .u8 (.ofNat 2), .int .u8 (.ofNat 2), .int .u8 (.ofNat 2), .int .u8 (.ofNat 2), .int .u8 (.ofNat 2), .int .u8 (.ofNat 2), .int .u8 (.ofNat 2), .int .u8 (.ofNat 2), .int .u8 (.ofNat 2), .int .u8 (.ofNat 2), .int .u8 (.ofNat 2), .int .u8 (.ofNat 2), .int .u8 (.ofNat 2), .int .u8 (.ofNat 2), .int .u8 (.ofNat 2), .int .u8 (.ofNat 2), .int .u8 (.ofNat 2), .int .u8 (.ofNat 2), .int .u8 (.ofNat 2), .int .u8 (.ofNat 2), .int .u8 (.ofNat 2), .int .u8 (.ofNat 2), .int .u8 (.ofNat 2), .int .u8 (.ofNat 2), .int .u8 (.ofNat 2), .int .u8 (.ofNat 2), .int .u8 (.ofNat 2), .int .u8 (.ofNat 2), .int .u8 (.ofNat 2), .int .u8 (.ofNat 2), .int .u8 (.ofNat 2), .int .u8 (.ofNat 2), .int .u8 (.ofNat 2), .int .u8 (.ofNat 2), .int .u8 (.ofNat 2), .int .u8 (.ofNat 2), .int .u8 (.ofNat 2), .int .u8 (.ofNat 2), .int .u8 (.ofNat 2), .int .u8 (.ofNat 2), .int .u8 (.ofNat 2), .int .u8 (.ofNat 2), .int .u8 (.ofNat 2), .int .u8 (.ofNat 2), .int .u8 (.ofNat 2), .int .u8 (.ofNat 2), .int .u8 (.ofNat 2), .int .u8 (.ofNat 2), .int .u8 (.ofNat 2), .int .u8 (.ofNat 2), .int .u8 (.ofNat 2), .int .u8 (.ofNat 2), .int .u8 (.ofNat 2), .int .u8 (.ofNat 2), .int .u8 (.ofNat 2), .int .u8 (.ofNat 2), .int .u8 (.ofNat 2), .int .u8 (.ofNat 2), .int .u8 (.ofNat 2), .int .u8 (.ofNat 2), .int .u8 (.ofNat 2), .int .u8 (.ofNat 2), .int .u8 (.ofNat 2), .int .u8 (.ofNat 2), .int .u8 (.ofNat 2), .int .u8 (.ofNat 2), .int .u8 (.ofNat 2), .int .u8 (.ofNat 2), .int .u8 (.ofNat 2), .int .u8 (.ofNat 2), .int .u8 (.ofNat 2)])]
theorem a1_166Ok : AnsOk Tryz.prog 166 a1_166 := by
  intro e he
  simp only [a1_166, List.mem_cons, List.mem_nil_iff, or_false] at he
  rcases he with rfl
  · exact ⟨by kernel_rfl, by kernel_rfl, _, call0, callI_of_sev Vok q1_2_0⟩
def a1_68 : Ans := [([.str [109, 97, 120, 45, 97, 103, 101]], .str [109, 97, 120, 45, 97, 103, 101]), ([.str [77, 65, 88, 45, 65, 71, 69]], .str [109, 97, 120, 45, 97, 103, 101]), ([.str [110, 111, 45, 99, 97, 99, 104, 101]], .str [110, 111, 45, 99, 97, 99, 104, 101]), ([.str [109, 97, 120, 45, 115, 116, 97, 108, 101]], .str [109, 97, 120, 45, 115, 116, 97, 108, 101]), ([.str [109, 105, 110, 45, 102, 114, 101, 115, 104]], .str [109, 105, 110, 45, 102, 114, 101, 115, 104]), ([.str [115, 45, 109, 97, 120, 97, 103, 101]], .str [115, 45, 109, 97, 120, 97, 103, 101]), ([.str [115, 116, 97, 108, 101, 45, 119, 104, 105, 108, 101, 45, 114, 101, 118, 97, 108, 105, 100, 97, 116, 101]], .str [115, 116, 97, 108, 101, 45, 119, 104, 105, 108, 101, 45, 114, 101, 118, 97, 108, 105, 100, 97, 116, 101]), ([.str [115, 116, 97, 108, 101, 45, 105, 102, 45, 101, 114, 114, 111, 114]], .str [115, 116, 97, 108, 101, 45, 105, 102, 45, 101, 114, 114, 111, 114]), ([.str [112, 114, 105, 118, 97, 116, 101]], .str [112, 114, 105, 118, 97, 116, 101]), ([.str [112, 117, 98, 108, 105, 99]], .str [112, 117, 98, 108, 105, 99]), ([.str [119, 104, 97, 116]], .str [119, 104, 97, 116]), ([.str [110, 111, 45, 115, 116, 111, 114, 101]], .str [110, 111, 45, 115, 116, 111, 114, 101])]
theorem a1_68Ok : AnsOk Tryz.prog 68 a1_68 := by
  intro e he
  simp only [a1_68, List.mem_cons, List.mem_nil_iff, or_false] at he
  rcases he with rfl | rfl | rfl | rfl | rfl | rfl | rfl | rfl | rfl | rfl | rfl | rfl
  · exact ⟨by kernel_rfl, by kernel_rfl, _, call0, callI_of_sev Vok q1_3_0⟩
  · exact ⟨by kernel_rfl, by kernel_rfl, _, call0, callI_of_sev Vok q1_3_3⟩
  · exact ⟨by kernel_rfl, by kernel_rfl, _, call0, callI_of_sev Vok q1_3_7⟩
  · exact ⟨by kernel_rfl, by kernel_rfl, _, call0, callI_of_sev Vok q1_3_11⟩
  · exact ⟨by kernel_rfl, by kernel_rfl, _, call0, callI_of_sev Vok q1_3_13⟩
  · exact ⟨by kernel_rfl, by kernel_rfl, _, call0, callI_of_sev Vok q1_3_16⟩
  · exact ⟨by kernel_rfl, by kernel_rfl, _, call0, callI_of_sev Vok q1_3_26⟩
  · exact ⟨by kernel_rfl, by kernel_rfl, _, call0, callI_of_sev Vok q1_3_29⟩
  · exact ⟨by kernel_rfl, by kernel_rfl, _, call0, callI_of_sev Vok q1_3_33⟩
  · exact ⟨by kernel_rfl, by kernel_rfl, _, call0, callI_of_sev Vok q1_3_35⟩
  · exact ⟨by kernel_rfl, by kernel_rfl, _, call0, callI_of_sev Vok q1_3_36⟩
  · exact ⟨by kernel_rfl, by kernel_rfl, _, call0, callI_of_sev Vok q1_4_8⟩
def T1 : List (Nat × Ans) := [(164, a1_164), (65, a1_65), (166, a1_166), (68, a1_68)]
theorem T1Ok : ∀ p ∈ T1, AnsOk Tryz.prog p.1 p.2 := by
  intro p hp
  simp only [T1, List.mem_cons, List.mem_nil_iff, or_false] at hp
  rcases hp with rfl | rfl | rfl | rfl
  · exact a1_164Ok
  · exact a1_65Ok
  · exact a1_166Ok
  · exact a1_68Ok
noncomputable def env1 : Env := ⟨Tryz.prog, orcP T1 env0.orc⟩
theorem env1Ok : CallOk env1.P env1.orc := orcP_ok T1Ok env0Ok
theorem call1 : CallOk Tryz.prog (callI env1 V (evI env1 V 400)) := callI_all (E := env1) Vok names0 mixed0 env1Ok 400
end Go.Proofs.YtocmlealecehlaaGreatDoor.controlNames

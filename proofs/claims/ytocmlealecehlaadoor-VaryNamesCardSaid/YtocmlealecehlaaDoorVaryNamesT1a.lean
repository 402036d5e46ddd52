/- Calls that the law VaryNames makes, reckoned (1.1). -/
import Derived.Test.YtocmlealecehlaaDoorVaryNamesMd
namespace Go.Proofs.YtocmlealecehlaaDoor.varyNames
open Go Go.Ve
set_option maxRecDepth 20000
theorem q1_1_0 : callS env0 V (sevI env0 V 400) 57 [.str [118, 97, 114, 121], .str [86, 97, 114, 121]] [] = some (.bool true, none) := by kernel_rfl
theorem q1_1_1 : callS env0 V (sevI env0 V 400) 85 [.str [66], .str [32, 9]] [] = some (.str [66], none) := by kernel_rfl
theorem q1_1_2 : callS env0 V (sevI env0 V 400) 67 [.str [66]] [] = some (.str [66], none) := by kernel_rfl
theorem q1_1_3 : callS env0 V (sevI env0 V 400) 85 [.str [32, 97], .str [32, 9]] [] = some (.str [97], none) := by kernel_rfl
theorem q1_1_4 : callS env0 V (sevI env0 V 400) 67 [.str [32, 97]] [] = some (.str [97], none) := by kernel_rfl
theorem q1_1_5 : callS env0 V (sevI env0 V 400) 85 [.str [32, 98], .str [32, 9]] [] = some (.str [98], none) := by kernel_rfl
theorem q1_1_6 : callS env0 V (sevI env0 V 400) 67 [.str [32, 98]] [] = some (.str [98], none) := by kernel_rfl
theorem q1_1_7 : callS env0 V (sevI env0 V 400) 19 [] [] = some (.bool true, none) := by kernel_rfl
theorem q1_1_8 : callS env0 V (sevI env0 V 400) 57 [.str [86, 97, 114, 121], .str [86, 97, 114, 121]] [] = some (.bool true, none) := by kernel_rfl
theorem q1_1_9 : callS env0 V (sevI env0 V 400) 85 [.str [97], .str [32, 9]] [] = some (.str [97], none) := by kernel_rfl
theorem q1_1_10 : callS env0 V (sevI env0 V 400) 67 [.str [97]] [] = some (.str [97], none) := by kernel_rfl
theorem q1_1_11 : callS env0 V (sevI env0 V 400) 85 [.str [42], .str [32, 9]] [] = some (.str [42], none) := by kernel_rfl
theorem q1_1_12 : callS env0 V (sevI env0 V 400) 67 [.str [42]] [] = some (.str [42], none) := by kernel_rfl
theorem q1_1_13 : callS env0 V (sevI env0 V 400) 57 [.str [65], .str [97]] [] = some (.bool true, none) := by kernel_rfl
theorem q1_1_14 : callS env0 V (sevI env0 V 400) 58 [.str [120, 32, 9, 32, 121]] [] = some (.str [120, 32, 121], none) := by kernel_rfl
theorem q1_1_15 : callS env0 V (sevI env0 V 400) 41 [.str [120, 32, 9, 32, 121]] [] = some (.str [120, 32, 121], none) := by kernel_rfl
theorem q1_1_16 : callS env0 V (sevI env0 V 400) 58 [.str [122]] [] = some (.str [122], none) := by kernel_rfl
theorem q1_1_17 : callS env0 V (sevI env0 V 400) 41 [.str [122]] [] = some (.str [122], none) := by kernel_rfl
theorem q1_1_18 : callS env0 V (sevI env0 V 400) 57 [.str [65], .str [98]] [] = some (.bool false, none) := by kernel_rfl
theorem q1_1_19 : callS env0 V (sevI env0 V 400) 57 [.str [98], .str [66]] [] = some (.bool true, none) := by kernel_rfl
theorem q1_1_20 : callS env0 V (sevI env0 V 400) 41 [.str []] [] = some (.str [], none) := by kernel_rfl
theorem q1_1_21 : callS env0 V (sevI env0 V 400) 58 [.str [120, 32, 121, 44, 32, 122]] [] = some (.str [120, 32, 121, 44, 32, 122], none) := by kernel_rfl
theorem q1_1_22 : callS env0 V (sevI env0 V 400) 41 [.str [120, 32, 121, 44, 32, 122]] [] = some (.str [120, 32, 121, 44, 32, 122], none) := by kernel_rfl
theorem q1_1_23 : callS env0 V (sevI env0 V 400) 57 [.str [65], .str [65]] [] = some (.bool true, none) := by kernel_rfl
theorem q1_1_24 : callS env0 V (sevI env0 V 400) 57 [.str [97], .str [65]] [] = some (.bool true, none) := by kernel_rfl
theorem q1_1_25 : callS env0 V (sevI env0 V 400) 25 [.str [72, 58, 56, 48], .str [47, 80]] [] = some (.str [104, 58, 56, 48, 32, 47, 80], none) := by kernel_rfl
end Go.Proofs.YtocmlealecehlaaDoor.varyNames

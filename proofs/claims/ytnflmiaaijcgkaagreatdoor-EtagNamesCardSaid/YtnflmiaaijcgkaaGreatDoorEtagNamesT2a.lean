/- Calls that the law EtagNames makes, reckoned (2.1). -/
import Derived.Test.YtnflmiaaijcgkaaGreatDoorEtagNamesL1
namespace Go.Proofs.YtnflmiaaijcgkaaGreatDoor.etagNames
open Go Go.Ve
set_option maxRecDepth 20000
theorem q2_1_0 : sCall env1 V (sev env1 V 400) 4 [] [] = some (.bool true, none) := by kernel_rfl
theorem q2_1_1 : sCall env1 V (sev env1 V 400) 36 [.agg [.int .i64 (.ofNat 1994), .int .i64 (.ofNat 11), .int .i64 (.ofNat 6), .int .i64 (.ofNat 8), .int .i64 (.ofNat 49), .int .i64 (.ofNat 37), .int .i64 (.ofNat 0)]] [] = some (.tuple [.int .i64 (.ofNat 784111777), .int .i64 (.ofNat 0)], none) := by kernel_rfl
theorem q2_1_2 : sCall env1 V (sev env1 V 400) 22 [.str [83, 117, 110, 44, 32, 48, 54, 32, 78, 111, 118, 32, 49, 57, 57, 52, 32, 48, 56, 58, 52, 57, 58, 51, 55, 32, 71, 77, 84], .int .i64 (.ofNat 0)] [] = some (.tuple [.int .i64 (.ofNat 784111777), .int .i64 (.ofNat 0)], none) := by kernel_rfl
theorem q2_1_3 : sCall env1 V (sev env1 V 400) 41 [.int .i64 (.ofNat 0)] [] = some (.tuple [.agg [.int .i64 (.ofNat 1970), .int .i64 (.ofNat 1), .int .i64 (.ofNat 1), .int .i64 (.ofNat 0), .int .i64 (.ofNat 0), .int .i64 (.ofNat 0), .int .i64 (.ofNat 4)], .int .i64 (.ofNat 0)], none) := by kernel_rfl
theorem q2_1_4 : sCall env1 V (sev env1 V 400) 22 [.str [120], .int .i64 (.ofNat 0)] [] = some (.tuple [.int .i64 (.ofNat 0), .int .i64 (.ofNat 4)], none) := by kernel_rfl
theorem q2_1_5 : sCall env1 V (sev env1 V 400) 41 [.int .i64 (.ofNat 784111777)] [] = some (.tuple [.agg [.int .i64 (.ofNat 1994), .int .i64 (.ofNat 11), .int .i64 (.ofNat 6), .int .i64 (.ofNat 8), .int .i64 (.ofNat 49), .int .i64 (.ofNat 37), .int .i64 (.ofNat 0)], .int .i64 (.ofNat 0)], none) := by kernel_rfl
theorem q2_1_6 : sCall env1 V (sev env1 V 400) 24 [.int .i64 (.ofNat 784111777)] [] = some (.tuple [.str [83, 117, 110, 44, 32, 48, 54, 32, 78, 111, 118, 32, 49, 57, 57, 52, 32, 48, 56, 58, 52, 57, 58, 51, 55, 32, 71, 77, 84], .int .i64 (.ofNat 0)], none) := by kernel_rfl
end Go.Proofs.YtnflmiaaijcgkaaGreatDoor.etagNames

/- Calls that the law DateNames makes, reckoned (2.5). -/
import Derived.Test.YtnflmiaaijcgkaaDoorDateNamesL1
namespace Go.Proofs.YtnflmiaaijcgkaaDoor.dateNames
open Go Go.Ve
set_option maxRecDepth 20000
theorem q2_5_0 : sCall env1 V (sev env1 V 400) 6 [.str [], .int .i64 (.ofNat 0)] [] = some (.tuple [.int .i64 (.ofNat 0), .int .i64 (.ofNat 4)], none) := by kernel_rfl
theorem q2_5_1 : sCall env1 V (sev env1 V 400) 7 [.int .i64 (.ofNat 0)] [] = some (.tuple [.str [84, 104, 117, 44, 32, 48, 49, 32, 74, 97, 110, 32, 49, 57, 55, 48, 32, 48, 48, 58, 48, 48, 58, 48, 48, 32, 71, 77, 84], .int .i64 (.ofNat 0)], none) := by kernel_rfl
theorem q2_5_2 : sCall env1 V (sev env1 V 400) 8 [.int .i64 (.ofNat 253402300799)] [] = some (.tuple [.agg [.int .i64 (.ofNat 9999), .int .i64 (.ofNat 12), .int .i64 (.ofNat 31), .int .i64 (.ofNat 23), .int .i64 (.ofNat 59), .int .i64 (.ofNat 59), .int .i64 (.ofNat 5)], .int .i64 (.ofNat 0)], none) := by kernel_rfl
theorem q2_5_3 : sCall env1 V (sev env1 V 400) 7 [.int .i64 (.ofNat 253402300799)] [] = some (.tuple [.str [70, 114, 105, 44, 32, 51, 49, 32, 68, 101, 99, 32, 57, 57, 57, 57, 32, 50, 51, 58, 53, 57, 58, 53, 57, 32, 71, 77, 84], .int .i64 (.ofNat 0)], none) := by kernel_rfl
end Go.Proofs.YtnflmiaaijcgkaaDoor.dateNames

/- Calls that the law DateNames makes, reckoned (2.2). -/
import Derived.Test.YtnflmiaaijcgkaaDoorDateNamesL1
namespace Go.Proofs.YtnflmiaaijcgkaaDoor.dateNames
open Go Go.Ve
set_option maxRecDepth 20000
theorem q2_2_0 : sCall env1 V (sev env1 V 400) 6 [.str [83, 117, 110, 32, 78, 111, 118, 32, 32, 54, 32, 48, 56, 58, 52, 57, 58, 51, 55, 32, 49, 57, 57, 52], .int .i64 (.ofNat 0)] [] = some (.tuple [.int .i64 (.ofNat 784111777), .int .i64 (.ofNat 0)], none) := by kernel_rfl
theorem q2_2_1 : sCall env1 V (sev env1 V 400) 6 [.str [77, 111, 110, 44, 32, 48, 54, 32, 78, 111, 118, 32, 49, 57, 57, 52, 32, 48, 56, 58, 52, 57, 58, 51, 55, 32, 71, 77, 84], .int .i64 (.ofNat 0)] [] = some (.tuple [.int .i64 (.ofNat 0), .int .i64 (.ofNat 4)], none) := by kernel_rfl
end Go.Proofs.YtnflmiaaijcgkaaDoor.dateNames

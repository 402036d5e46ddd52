/- Calls that the law DateNames makes, reckoned (2.6). -/
import Derived.Test.YtnflmiaaijcgkaaDoorDateNamesL1
namespace Go.Proofs.YtnflmiaaijcgkaaDoor.dateNames
open Go Go.Ve
set_option maxRecDepth 20000
theorem q2_6_0 : sCall env1 V (sev env1 V 400) 6 [.str [70, 114, 105, 100, 97, 121, 44, 32, 48, 49, 45, 74, 97, 110, 45, 57, 57, 32, 48, 48, 58, 48, 48, 58, 48, 48, 32, 71, 77, 84], .int .i64 (.ofNat 1704067200)] [] = some (.tuple [.int .i64 (.ofNat 915148800), .int .i64 (.ofNat 0)], none) := by kernel_rfl
theorem q2_6_1 : sCall env1 V (sev env1 V 400) 6 [.str [84, 104, 117, 114, 115, 100, 97, 121, 44, 32, 48, 49, 45, 74, 97, 110, 45, 55, 48, 32, 48, 48, 58, 48, 48, 58, 48, 48, 32, 71, 77, 84], .int .i64 (.ofNat 1704067200)] [] = some (.tuple [.int .i64 (.ofNat 0), .int .i64 (.ofNat 4)], none) := by kernel_rfl
end Go.Proofs.YtnflmiaaijcgkaaDoor.dateNames

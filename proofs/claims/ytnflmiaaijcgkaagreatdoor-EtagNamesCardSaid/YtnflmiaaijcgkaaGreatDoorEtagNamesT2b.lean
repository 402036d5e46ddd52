/- Calls that the law EtagNames makes, reckoned (2.2). -/
import Derived.Test.YtnflmiaaijcgkaaGreatDoorEtagNamesL1
namespace Go.Proofs.YtnflmiaaijcgkaaGreatDoor.etagNames
open Go Go.Ve
set_option maxRecDepth 20000
theorem q2_2_0 : sCall env1 V (sev env1 V 400) 22 [.str [], .int .i64 (.ofNat 0)] [] = some (.tuple [.int .i64 (.ofNat 0), .int .i64 (.ofNat 4)], none) := by kernel_rfl
end Go.Proofs.YtnflmiaaijcgkaaGreatDoor.etagNames

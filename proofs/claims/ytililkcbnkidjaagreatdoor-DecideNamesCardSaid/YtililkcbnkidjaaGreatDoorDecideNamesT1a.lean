/- Calls that the law DecideNames makes, reckoned (1.1). -/
import Derived.Test.YtililkcbnkidjaaGreatDoorDecideNamesMd
namespace Go.Proofs.YtililkcbnkidjaaGreatDoor.decideNames
open Go Go.Ve
set_option maxRecDepth 20000
theorem q1_1_0 : sCall env0 V (sev env0 V 400) 19 [.agg [.int .i64 (.ofNat 0), .int .i64 (.ofNat 0), .int .i64 (.ofNat 0), .int .i64 (.ofNat 0)], .int .i64 (.ofNat 9)] [] = some (.int .i64 (.ofNat 9), none) := by kernel_rfl
theorem q1_1_1 : sCall env0 V (sev env0 V 400) 19 [.agg [.int .i64 (.ofNat 0), .int .i64 (.ofNat 0), .int .i64 (.ofNat 0), .int .i64 (.ofNat 0)], .int .i64 (.ofNat 10)] [] = some (.int .i64 (.ofNat 10), none) := by kernel_rfl
theorem q1_1_2 : sCall env0 V (sev env0 V 400) 66 [.str [67, 97, 99, 104, 101, 45, 67, 111, 110, 116, 114, 111, 108]] [] = some (.str [99, 97, 99, 104, 101, 45, 99, 111, 110, 116, 114, 111, 108], none) := by kernel_rfl
theorem q1_1_3 : sCall env0 V (sev env0 V 400) 66 [.str [69, 84, 97, 103]] [] = some (.str [101, 116, 97, 103], none) := by kernel_rfl
end Go.Proofs.YtililkcbnkidjaaGreatDoor.decideNames

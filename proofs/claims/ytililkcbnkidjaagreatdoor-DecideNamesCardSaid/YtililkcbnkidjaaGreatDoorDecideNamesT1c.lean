/- Calls that the law DecideNames makes, reckoned (1.3). -/
import Derived.Test.YtililkcbnkidjaaGreatDoorDecideNamesMd
namespace Go.Proofs.YtililkcbnkidjaaGreatDoor.decideNames
open Go Go.Ve
set_option maxRecDepth 20000
theorem q1_3_0 : sCall env0 V (sev env0 V 400) 66 [.str [109, 97, 120, 45, 97, 103, 101]] [] = some (.str [109, 97, 120, 45, 97, 103, 101], none) := by kernel_rfl
theorem q1_3_1 : sCall env0 V (sev env0 V 400) 66 [.str [68, 97, 116, 101]] [] = some (.str [100, 97, 116, 101], none) := by kernel_rfl
theorem q1_3_2 : sCall env0 V (sev env0 V 400) 66 [.str [69, 120, 112, 105, 114, 101, 115]] [] = some (.str [101, 120, 112, 105, 114, 101, 115], none) := by kernel_rfl
theorem q1_3_3 : sCall env0 V (sev env0 V 400) 66 [.str [76, 97, 115, 116, 45, 77, 111, 100, 105, 102, 105, 101, 100]] [] = some (.str [108, 97, 115, 116, 45, 109, 111, 100, 105, 102, 105, 101, 100], none) := by kernel_rfl
theorem q1_3_4 : sCall env0 V (sev env0 V 400) 19 [.agg [.int .i64 (.ofNat 0), .int .i64 (.ofNat 0), .int .i64 (.ofNat 0), .int .i64 (.ofNat 0)], .int .i64 (.ofNat 5)] [] = some (.int .i64 (.ofNat 5), none) := by kernel_rfl
theorem q1_3_5 : sCall env0 V (sev env0 V 400) 19 [.agg [.int .i64 (.ofNat 0), .int .i64 (.ofNat 0), .int .i64 (.ofNat 0), .int .i64 (.ofNat 0)], .int .i64 (.ofNat 15)] [] = some (.int .i64 (.ofNat 15), none) := by kernel_rfl
theorem q1_3_6 : sCall env0 V (sev env0 V 400) 19 [.agg [.int .i64 (.ofNat 0), .int .i64 (.ofNat 0), .int .i64 (.ofNat 0), .int .i64 (.ofNat 0)], .int .i64 (.ofNat 13)] [] = some (.int .i64 (.ofNat 13), none) := by kernel_rfl
theorem q1_3_7 : sCall env0 V (sev env0 V 400) 19 [.agg [.int .i64 (.ofNat 0), .int .i64 (.ofNat 0), .int .i64 (.ofNat 0), .int .i64 (.ofNat 0)], .int .i64 (.ofNat 14)] [] = some (.int .i64 (.ofNat 14), none) := by kernel_rfl
theorem q1_3_8 : sCall env0 V (sev env0 V 400) 19 [.agg [.int .i64 (.ofNat 0), .int .i64 (.ofNat 0), .int .i64 (.ofNat 0), .int .i64 (.ofNat 0)], .int .i64 (.ofNat 12)] [] = some (.int .i64 (.ofNat 12), none) := by kernel_rfl
theorem q1_3_9 : sCall env0 V (sev env0 V 400) 19 [.agg [.int .i64 (.ofNat 0), .int .i64 (.ofNat 0), .int .i64 (.ofNat 0), .int .i64 (.ofNat 0)], .int .i64 (.ofNat 4)] [] = some (.int .i64 (.ofNat 4), none) := by kernel_rfl
theorem q1_3_10 : sCall env0 V (sev env0 V 400) 19 [.agg [.int .i64 (.ofNat 0), .int .i64 (.ofNat 0), .int .i64 (.ofNat 0), .int .i64 (.ofNat 0)], .int .i64 (.ofNat 6)] [] = some (.int .i64 (.ofNat 6), none) := by kernel_rfl
theorem q1_3_11 : sCall env0 V (sev env0 V 400) 19 [.agg [.int .i64 (.ofNat 0), .int .i64 (.ofNat 0), .int .i64 (.ofNat 0), .int .i64 (.ofNat 0)], .int .i64 (.ofNat 19)] [] = some (.int .i64 (.ofNat 19), none) := by kernel_rfl
theorem q1_3_12 : sCall env0 V (sev env0 V 400) 19 [.agg [.int .i64 (.ofNat 0), .int .i64 (.ofNat 0), .int .i64 (.ofNat 0), .int .i64 (.ofNat 0)], .int .i64 (.ofNat 20)] [] = some (.int .i64 (.ofNat 20), none) := by kernel_rfl
theorem q1_3_13 : sCall env0 V (sev env0 V 400) 19 [.agg [.int .i64 (.ofNat 0), .int .i64 (.ofNat 0), .int .i64 (.ofNat 0), .int .i64 (.ofNat 0)], .int .i64 (.ofNat 3)] [] = some (.int .i64 (.ofNat 3), none) := by kernel_rfl
end Go.Proofs.YtililkcbnkidjaaGreatDoor.decideNames

/- Calls that the law ScoreNames makes, reckoned (1.1). -/
import Derived.Test.YtocmlealecehlaaScoreNamesMd
namespace Go.Proofs.Ytocmlealecehlaa.scoreNames
open Go Go.Ve
set_option maxRecDepth 20000
theorem q1_1_0 : callS env0 V (sevI env0 V 400) 7 [] [] = some (.bool true, none) := by kernel_rfl
theorem q1_1_1 : callS env0 V (sevI env0 V 400) 20 [.float Go.FloatKind.f64 0, .float Go.FloatKind.f64 18442240474082181120] [] = some (.int .i64 (.ofNat 1), none) := by kernel_rfl
theorem q1_1_2 : callS env0 V (sevI env0 V 400) 20 [.float Go.FloatKind.f64 9223372036854775808, .float Go.FloatKind.f64 18442240474082181120] [] = some (.int .i64 (.ofNat 1), none) := by kernel_rfl
theorem q1_1_3 : callS env0 V (sevI env0 V 400) 20 [.float Go.FloatKind.f64 9218868437227405312, .float Go.FloatKind.f64 4607182418800017408] [] = some (.int .i64 (.ofNat 1), none) := by kernel_rfl
theorem q1_1_4 : callS env0 V (sevI env0 V 400) 20 [.float Go.FloatKind.f64 13830554455654793216, .float Go.FloatKind.f64 18442240474082181120] [] = some (.int .i64 (.ofNat 1), none) := by kernel_rfl
theorem q1_1_5 : callS env0 V (sevI env0 V 400) 20 [.float Go.FloatKind.f64 9218868437227405312, .float Go.FloatKind.f64 18442240474082181120] [] = some (.int .i64 (.ofNat 1), none) := by kernel_rfl
theorem q1_1_6 : callS env0 V (sevI env0 V 400) 20 [.float Go.FloatKind.f64 4607182418800017408, .float Go.FloatKind.f64 4607182418800017408] [] = some (.int .i64 (.ofNat 0), none) := by kernel_rfl
theorem q1_1_7 : callS env0 V (sevI env0 V 400) 20 [.float Go.FloatKind.f64 9221120237041090561, .float Go.FloatKind.f64 0] [] = some (.int .i64 (.ofNat 1), none) := by kernel_rfl
theorem q1_1_8 : callS env0 V (sevI env0 V 400) 20 [.float Go.FloatKind.f64 9221120237041090561, .float Go.FloatKind.f64 4607182418800017408] [] = some (.int .i64 (.ofNat 1), none) := by kernel_rfl
theorem q1_1_9 : callS env0 V (sevI env0 V 400) 19 [.float Go.FloatKind.f64 9221120237041090561, .float Go.FloatKind.f64 0, .float Go.FloatKind.f64 4607182418800017408] [] = some (.float Go.FloatKind.f64 4607182418800017408, none) := by kernel_rfl
theorem q1_1_10 : callS env0 V (sevI env0 V 400) 19 [.float Go.FloatKind.f64 18444492273895866369, .float Go.FloatKind.f64 0, .float Go.FloatKind.f64 4607182418800017408] [] = some (.float Go.FloatKind.f64 0, none) := by kernel_rfl
theorem q1_1_11 : callS env0 V (sevI env0 V 400) 19 [.float Go.FloatKind.f64 9223372036854775808, .float Go.FloatKind.f64 0, .float Go.FloatKind.f64 4607182418800017408] [] = some (.float Go.FloatKind.f64 0, none) := by kernel_rfl
theorem q1_1_12 : callS env0 V (sevI env0 V 400) 20 [.float Go.FloatKind.f64 4602678819172646912, .float Go.FloatKind.f64 0] [] = some (.int .i64 (.ofNat 1), none) := by kernel_rfl
theorem q1_1_13 : callS env0 V (sevI env0 V 400) 19 [.float Go.FloatKind.f64 4602678819172646912, .float Go.FloatKind.f64 0, .float Go.FloatKind.f64 4607182418800017408] [] = some (.float Go.FloatKind.f64 4602678819172646912, none) := by kernel_rfl
theorem q1_1_14 : callS env0 V (sevI env0 V 400) 20 [.float Go.FloatKind.f64 9221120237041090561, .float Go.FloatKind.f64 9221120237041090561] [] = some (.int .i64 (.ofNat 0), none) := by kernel_rfl
end Go.Proofs.Ytocmlealecehlaa.scoreNames

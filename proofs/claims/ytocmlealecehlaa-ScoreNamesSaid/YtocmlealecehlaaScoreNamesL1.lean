/- The table of the calls reckoned (1). -/
import Derived.Test.YtocmlealecehlaaScoreNamesMd
import Derived.Test.YtocmlealecehlaaScoreNamesT1a
namespace Go.Proofs.Ytocmlealecehlaa.scoreNames
open Go Go.Ve
set_option maxRecDepth 20000
def a1_7 : Ans := [([], .bool true)]
theorem a1_7Ok : AnsOk Try.prog 7 a1_7 := by
  intro e he
  simp only [a1_7, List.mem_cons, List.mem_nil_iff, or_false] at he
  rcases he with rfl
  · exact ⟨by kernel_rfl, by kernel_rfl, _, call0, callI_of_sev Vok q1_1_0⟩
def a1_20 : Ans := [([.float Go.FloatKind.f64 0, .float Go.FloatKind.f64 18442240474082181120], .int .i64 (.ofNat 1)), ([.float Go.FloatKind.f64 9223372036854775808, .float Go.FloatKind.f64 18442240474082181120], .int .i64 (.ofNat 1)), ([.float Go.FloatKind.f64 9218868437227405312, .float Go.FloatKind.f64 4607182418800017408], .int .i64 (.ofNat 1)), ([.float Go.FloatKind.f64 13830554455654793216, .float Go.FloatKind.f64 18442240474082181120], .int .i64 (.ofNat 1)), ([.float Go.FloatKind.f64 9218868437227405312, .float Go.FloatKind.f64 18442240474082181120], .int .i64 (.ofNat 1)), ([.float Go.FloatKind.f64 4607182418800017408, .float Go.FloatKind.f64 4607182418800017408], .int .i64 (.ofNat 0)), ([.float Go.FloatKind.f64 9221120237041090561, .float Go.FloatKind.f64 0], .int .i64 (.ofNat 1)), ([.float Go.FloatKind.f64 9221120237041090561, .float Go.FloatKind.f64 4607182418800017408], .int .i64 (.ofNat 1)), ([.float Go.FloatKind.f64 4602678819172646912, .float Go.FloatKind.f64 0], .int .i64 (.ofNat 1)), ([.float Go.FloatKind.f64 9221120237041090561, .float Go.FloatKind.f64 9221120237041090561], .int .i64 (.ofNat 0))]
theorem a1_20Ok : AnsOk Try.prog 20 a1_20 := by
  intro e he
  simp only [a1_20, List.mem_cons, List.mem_nil_iff, or_false] at he
  rcases he with rfl | rfl | rfl | rfl | rfl | rfl | rfl | rfl | rfl | rfl
  · exact ⟨by kernel_rfl, by kernel_rfl, _, call0, callI_of_sev Vok q1_1_1⟩
  · exact ⟨by kernel_rfl, by kernel_rfl, _, call0, callI_of_sev Vok q1_1_2⟩
  · exact ⟨by kernel_rfl, by kernel_rfl, _, call0, callI_of_sev Vok q1_1_3⟩
  · exact ⟨by kernel_rfl, by kernel_rfl, _, call0, callI_of_sev Vok q1_1_4⟩
  · exact ⟨by kernel_rfl, by kernel_rfl, _, call0, callI_of_sev Vok q1_1_5⟩
  · exact ⟨by kernel_rfl, by kernel_rfl, _, call0, callI_of_sev Vok q1_1_6⟩
  · exact ⟨by kernel_rfl, by kernel_rfl, _, call0, callI_of_sev Vok q1_1_7⟩
  · exact ⟨by kernel_rfl, by kernel_rfl, _, call0, callI_of_sev Vok q1_1_8⟩
  · exact ⟨by kernel_rfl, by kernel_rfl, _, call0, callI_of_sev Vok q1_1_12⟩
  · exact ⟨by kernel_rfl, by kernel_rfl, _, call0, callI_of_sev Vok q1_1_14⟩
def a1_19 : Ans := [([.float Go.FloatKind.f64 9221120237041090561, .float Go.FloatKind.f64 0, .float Go.FloatKind.f64 4607182418800017408], .float Go.FloatKind.f64 4607182418800017408), ([.float Go.FloatKind.f64 18444492273895866369, .float Go.FloatKind.f64 0, .float Go.FloatKind.f64 4607182418800017408], .float Go.FloatKind.f64 0), ([.float Go.FloatKind.f64 9223372036854775808, .float Go.FloatKind.f64 0, .float Go.FloatKind.f64 4607182418800017408], .float Go.FloatKind.f64 0), ([.float Go.FloatKind.f64 4602678819172646912, .float Go.FloatKind.f64 0, .float Go.FloatKind.f64 4607182418800017408], .float Go.FloatKind.f64 4602678819172646912)]
theorem a1_19Ok : AnsOk Try.prog 19 a1_19 := by
  intro e he
  simp only [a1_19, List.mem_cons, List.mem_nil_iff, or_false] at he
  rcases he with rfl | rfl | rfl | rfl
  · exact ⟨by kernel_rfl, by kernel_rfl, _, call0, callI_of_sev Vok q1_1_9⟩
  · exact ⟨by kernel_rfl, by kernel_rfl, _, call0, callI_of_sev Vok q1_1_10⟩
  · exact ⟨by kernel_rfl, by kernel_rfl, _, call0, callI_of_sev Vok q1_1_11⟩
  · exact ⟨by kernel_rfl, by kernel_rfl, _, call0, callI_of_sev Vok q1_1_13⟩
def T1 : List (Nat × Ans) := [(7, a1_7), (20, a1_20), (19, a1_19)]
theorem T1Ok : ∀ p ∈ T1, AnsOk Try.prog p.1 p.2 := by
  intro p hp
  simp only [T1, List.mem_cons, List.mem_nil_iff, or_false] at hp
  rcases hp with rfl | rfl | rfl
  · exact a1_7Ok
  · exact a1_20Ok
  · exact a1_19Ok
noncomputable def env1 : Env := ⟨Try.prog, orcP T1 env0.orc⟩
theorem env1Ok : CallOk env1.P env1.orc := orcP_ok T1Ok env0Ok
theorem call1 : CallOk Try.prog (callI env1 V (evI env1 V 400)) := callI_all (E := env1) Vok names0 mixed0 env1Ok 400
end Go.Proofs.Ytocmlealecehlaa.scoreNames

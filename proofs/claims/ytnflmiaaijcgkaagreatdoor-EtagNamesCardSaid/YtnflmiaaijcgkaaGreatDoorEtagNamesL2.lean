/- The table of the calls reckoned (2). -/
import Derived.Test.YtnflmiaaijcgkaaGreatDoorEtagNamesL1
import Derived.Test.YtnflmiaaijcgkaaGreatDoorEtagNamesT2a
import Derived.Test.YtnflmiaaijcgkaaGreatDoorEtagNamesT2b
namespace Go.Proofs.YtnflmiaaijcgkaaGreatDoor.etagNames
open Go Go.Ve
set_option maxRecDepth 20000
def a2_4 : Ans := [([], .bool true)]
theorem a2_4Ok : AnsOk Tryz.prog 4 a2_4 := by
  intro e he
  simp only [a2_4, List.mem_cons, List.mem_nil_iff, or_false] at he
  rcases he with rfl
  · exact ⟨by kernel_rfl, by kernel_rfl, _, call1, evCallM_of_sev Vok q2_1_0⟩
def a2_36 : Ans := [([.agg [.int .i64 (.ofNat 1994), .int .i64 (.ofNat 11), .int .i64 (.ofNat 6), .int .i64 (.ofNat 8), .int .i64 (.ofNat 49), .int .i64 (.ofNat 37), .int .i64 (.ofNat 0)]], .tuple [.int .i64 (.ofNat 784111777), .int .i64 (.ofNat 0)])]
theorem a2_36Ok : AnsOk Tryz.prog 36 a2_36 := by
  intro e he
  simp only [a2_36, List.mem_cons, List.mem_nil_iff, or_false] at he
  rcases he with rfl
  · exact ⟨by kernel_rfl, by kernel_rfl, _, call1, evCallM_of_sev Vok q2_1_1⟩
def a2_22 : Ans := [([.str [83, 117, 110, 44, 32, 48, 54, 32, 78, 111, 118, 32, 49, 57, 57, 52, 32, 48, 56, 58, 52, 57, 58, 51, 55, 32, 71, 77, 84], .int .i64 (.ofNat 0)], .tuple [.int .i64 (.ofNat 784111777), .int .i64 (.ofNat 0)]), ([.str [120], .int .i64 (.ofNat 0)], .tuple [.int .i64 (.ofNat 0), .int .i64 (.ofNat 4)]), ([.str [], .int .i64 (.ofNat 0)], .tuple [.int .i64 (.ofNat 0), .int .i64 (.ofNat 4)])]
theorem a2_22Ok : AnsOk Tryz.prog 22 a2_22 := by
  intro e he
  simp only [a2_22, List.mem_cons, List.mem_nil_iff, or_false] at he
  rcases he with rfl | rfl | rfl
  · exact ⟨by kernel_rfl, by kernel_rfl, _, call1, evCallM_of_sev Vok q2_1_2⟩
  · exact ⟨by kernel_rfl, by kernel_rfl, _, call1, evCallM_of_sev Vok q2_1_4⟩
  · exact ⟨by kernel_rfl, by kernel_rfl, _, call1, evCallM_of_sev Vok q2_2_0⟩
def a2_41 : Ans := [([.int .i64 (.ofNat 0)], .tuple [.agg [.int .i64 (.ofNat 1970), .int .i64 (.ofNat 1), .int .i64 (.ofNat 1), .int .i64 (.ofNat 0), .int .i64 (.ofNat 0), .int .i64 (.ofNat 0), .int .i64 (.ofNat 4)], .int .i64 (.ofNat 0)]), ([.int .i64 (.ofNat 784111777)], .tuple [.agg [.int .i64 (.ofNat 1994), .int .i64 (.ofNat 11), .int .i64 (.ofNat 6), .int .i64 (.ofNat 8), .int .i64 (.ofNat 49), .int .i64 (.ofNat 37), .int .i64 (.ofNat 0)], .int .i64 (.ofNat 0)])]
theorem a2_41Ok : AnsOk Tryz.prog 41 a2_41 := by
  intro e he
  simp only [a2_41, List.mem_cons, List.mem_nil_iff, or_false] at he
  rcases he with rfl | rfl
  · exact ⟨by kernel_rfl, by kernel_rfl, _, call1, evCallM_of_sev Vok q2_1_3⟩
  · exact ⟨by kernel_rfl, by kernel_rfl, _, call1, evCallM_of_sev Vok q2_1_5⟩
def a2_24 : Ans := [([.int .i64 (.ofNat 784111777)], .tuple [.str [83, 117, 110, 44, 32, 48, 54, 32, 78, 111, 118, 32, 49, 57, 57, 52, 32, 48, 56, 58, 52, 57, 58, 51, 55, 32, 71, 77, 84], .int .i64 (.ofNat 0)])]
theorem a2_24Ok : AnsOk Tryz.prog 24 a2_24 := by
  intro e he
  simp only [a2_24, List.mem_cons, List.mem_nil_iff, or_false] at he
  rcases he with rfl
  · exact ⟨by kernel_rfl, by kernel_rfl, _, call1, evCallM_of_sev Vok q2_1_6⟩
def T2 : List (Nat × Ans) := [(4, a2_4), (36, a2_36), (22, a2_22), (41, a2_41), (24, a2_24)]
theorem T2Ok : ∀ p ∈ T2, AnsOk Tryz.prog p.1 p.2 := by
  intro p hp
  simp only [T2, List.mem_cons, List.mem_nil_iff, or_false] at hp
  rcases hp with rfl | rfl | rfl | rfl | rfl
  · exact a2_4Ok
  · exact a2_36Ok
  · exact a2_22Ok
  · exact a2_41Ok
  · exact a2_24Ok
noncomputable def env2 : Env := ⟨Tryz.prog, orcP T2 env1.orc⟩
theorem env2Ok : CallOk env2.P env2.orc := orcP_ok T2Ok env1Ok
theorem call2 : CallOk Tryz.prog (evCallM env2 V (evM env2 V 400)) := callM_ok (E := env2) Vok names0 mixed0 env2Ok 400
end Go.Proofs.YtnflmiaaijcgkaaGreatDoor.etagNames

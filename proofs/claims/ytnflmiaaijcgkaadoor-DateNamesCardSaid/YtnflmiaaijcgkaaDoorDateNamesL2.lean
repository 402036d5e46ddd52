/- The table of the calls reckoned (2). -/
import Derived.Test.YtnflmiaaijcgkaaDoorDateNamesL1
import Derived.Test.YtnflmiaaijcgkaaDoorDateNamesT2a
import Derived.Test.YtnflmiaaijcgkaaDoorDateNamesT2b
import Derived.Test.YtnflmiaaijcgkaaDoorDateNamesT2c
import Derived.Test.YtnflmiaaijcgkaaDoorDateNamesT2d
import Derived.Test.YtnflmiaaijcgkaaDoorDateNamesT2e
import Derived.Test.YtnflmiaaijcgkaaDoorDateNamesT2f
namespace Go.Proofs.YtnflmiaaijcgkaaDoor.dateNames
open Go Go.Ve
set_option maxRecDepth 20000
def a2_6 : Ans := [([.str [83, 117, 110, 44, 32, 48, 54, 32, 78, 111, 118, 32, 49, 57, 57, 52, 32, 48, 56, 58, 52, 57, 58, 51, 55, 32, 71, 77, 84], .int .i64 (.ofNat 0)], .tuple [.int .i64 (.ofNat 784111777), .int .i64 (.ofNat 0)]), ([.str [83, 117, 110, 100, 97, 121, 44, 32, 48, 54, 45, 78, 111, 118, 45, 57, 52, 32, 48, 56, 58, 52, 57, 58, 51, 55, 32, 71, 77, 84], .int .i64 (.ofNat 784111777)], .tuple [.int .i64 (.ofNat 784111777), .int .i64 (.ofNat 0)]), ([.str [83, 117, 110, 32, 78, 111, 118, 32, 32, 54, 32, 48, 56, 58, 52, 57, 58, 51, 55, 32, 49, 57, 57, 52], .int .i64 (.ofNat 0)], .tuple [.int .i64 (.ofNat 784111777), .int .i64 (.ofNat 0)]), ([.str [77, 111, 110, 44, 32, 48, 54, 32, 78, 111, 118, 32, 49, 57, 57, 52, 32, 48, 56, 58, 52, 57, 58, 51, 55, 32, 71, 77, 84], .int .i64 (.ofNat 0)], .tuple [.int .i64 (.ofNat 0), .int .i64 (.ofNat 4)]), ([.str [83, 117, 110, 44, 32, 48, 54, 32, 78, 111, 118, 32, 49, 57, 57, 52, 32, 48, 56, 58, 52, 57, 58, 54, 48, 32, 71, 77, 84], .int .i64 (.ofNat 0)], .tuple [.int .i64 (.ofNat 0), .int .i64 (.ofNat 4)]), ([.str [115, 117, 110, 44, 32, 48, 54, 32, 78, 111, 118, 32, 49, 57, 57, 52, 32, 48, 56, 58, 52, 57, 58, 51, 55, 32, 71, 77, 84], .int .i64 (.ofNat 0)], .tuple [.int .i64 (.ofNat 0), .int .i64 (.ofNat 4)]), ([.str [], .int .i64 (.ofNat 0)], .tuple [.int .i64 (.ofNat 0), .int .i64 (.ofNat 4)]), ([.str [70, 114, 105, 100, 97, 121, 44, 32, 48, 49, 45, 74, 97, 110, 45, 57, 57, 32, 48, 48, 58, 48, 48, 58, 48, 48, 32, 71, 77, 84], .int .i64 (.ofNat 1704067200)], .tuple [.int .i64 (.ofNat 915148800), .int .i64 (.ofNat 0)]), ([.str [84, 104, 117, 114, 115, 100, 97, 121, 44, 32, 48, 49, 45, 74, 97, 110, 45, 55, 48, 32, 48, 48, 58, 48, 48, 58, 48, 48, 32, 71, 77, 84], .int .i64 (.ofNat 1704067200)], .tuple [.int .i64 (.ofNat 0), .int .i64 (.ofNat 4)])]
theorem a2_6Ok : AnsOk Tryd.prog 6 a2_6 := by
  intro e he
  simp only [a2_6, List.mem_cons, List.mem_nil_iff, or_false] at he
  rcases he with rfl | rfl | rfl | rfl | rfl | rfl | rfl | rfl | rfl
  · exact ⟨by kernel_rfl, by kernel_rfl, _, call1, evCallM_of_sev Vok q2_1_0⟩
  · exact ⟨by kernel_rfl, by kernel_rfl, _, call1, evCallM_of_sev Vok q2_1_3⟩
  · exact ⟨by kernel_rfl, by kernel_rfl, _, call1, evCallM_of_sev Vok q2_2_0⟩
  · exact ⟨by kernel_rfl, by kernel_rfl, _, call1, evCallM_of_sev Vok q2_2_1⟩
  · exact ⟨by kernel_rfl, by kernel_rfl, _, call1, evCallM_of_sev Vok q2_3_0⟩
  · exact ⟨by kernel_rfl, by kernel_rfl, _, call1, evCallM_of_sev Vok q2_4_0⟩
  · exact ⟨by kernel_rfl, by kernel_rfl, _, call1, evCallM_of_sev Vok q2_5_0⟩
  · exact ⟨by kernel_rfl, by kernel_rfl, _, call1, evCallM_of_sev Vok q2_6_0⟩
  · exact ⟨by kernel_rfl, by kernel_rfl, _, call1, evCallM_of_sev Vok q2_6_1⟩
def a2_5 : Ans := [([], .bool true)]
theorem a2_5Ok : AnsOk Tryd.prog 5 a2_5 := by
  intro e he
  simp only [a2_5, List.mem_cons, List.mem_nil_iff, or_false] at he
  rcases he with rfl
  · exact ⟨by kernel_rfl, by kernel_rfl, _, call1, evCallM_of_sev Vok q2_1_1⟩
def a2_8 : Ans := [([.int .i64 (.ofNat 784111777)], .tuple [.agg [.int .i64 (.ofNat 1994), .int .i64 (.ofNat 11), .int .i64 (.ofNat 6), .int .i64 (.ofNat 8), .int .i64 (.ofNat 49), .int .i64 (.ofNat 37), .int .i64 (.ofNat 0)], .int .i64 (.ofNat 0)]), ([.int .i64 (.ofNat 253402300799)], .tuple [.agg [.int .i64 (.ofNat 9999), .int .i64 (.ofNat 12), .int .i64 (.ofNat 31), .int .i64 (.ofNat 23), .int .i64 (.ofNat 59), .int .i64 (.ofNat 59), .int .i64 (.ofNat 5)], .int .i64 (.ofNat 0)])]
theorem a2_8Ok : AnsOk Tryd.prog 8 a2_8 := by
  intro e he
  simp only [a2_8, List.mem_cons, List.mem_nil_iff, or_false] at he
  rcases he with rfl | rfl
  · exact ⟨by kernel_rfl, by kernel_rfl, _, call1, evCallM_of_sev Vok q2_1_2⟩
  · exact ⟨by kernel_rfl, by kernel_rfl, _, call1, evCallM_of_sev Vok q2_5_2⟩
def a2_7 : Ans := [([.int .i64 (.ofNat 0)], .tuple [.str [84, 104, 117, 44, 32, 48, 49, 32, 74, 97, 110, 32, 49, 57, 55, 48, 32, 48, 48, 58, 48, 48, 58, 48, 48, 32, 71, 77, 84], .int .i64 (.ofNat 0)]), ([.int .i64 (.ofNat 253402300799)], .tuple [.str [70, 114, 105, 44, 32, 51, 49, 32, 68, 101, 99, 32, 57, 57, 57, 57, 32, 50, 51, 58, 53, 57, 58, 53, 57, 32, 71, 77, 84], .int .i64 (.ofNat 0)])]
theorem a2_7Ok : AnsOk Tryd.prog 7 a2_7 := by
  intro e he
  simp only [a2_7, List.mem_cons, List.mem_nil_iff, or_false] at he
  rcases he with rfl | rfl
  · exact ⟨by kernel_rfl, by kernel_rfl, _, call1, evCallM_of_sev Vok q2_5_1⟩
  · exact ⟨by kernel_rfl, by kernel_rfl, _, call1, evCallM_of_sev Vok q2_5_3⟩
def T2 : List (Nat × Ans) := [(6, a2_6), (5, a2_5), (8, a2_8), (7, a2_7)]
theorem T2Ok : ∀ p ∈ T2, AnsOk Tryd.prog p.1 p.2 := by
  intro p hp
  simp only [T2, List.mem_cons, List.mem_nil_iff, or_false] at hp
  rcases hp with rfl | rfl | rfl | rfl
  · exact a2_6Ok
  · exact a2_5Ok
  · exact a2_8Ok
  · exact a2_7Ok
noncomputable def env2 : Env := ⟨Tryd.prog, orcP T2 env1.orc⟩
theorem env2Ok : CallOk env2.P env2.orc := orcP_ok T2Ok env1Ok
theorem call2 : CallOk Tryd.prog (evCallM env2 V (evM env2 V 400)) := callM_ok (E := env2) Vok names0 mixed0 env2Ok 400
end Go.Proofs.YtnflmiaaijcgkaaDoor.dateNames

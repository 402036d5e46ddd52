/- The table of the calls reckoned (1). -/
import Derived.Test.YtnflmiaaijcgkaaDoorFramingNamesMd
import Derived.Test.YtnflmiaaijcgkaaDoorFramingNamesT1a
namespace Go.Proofs.YtnflmiaaijcgkaaDoor.framingNames
open Go Go.Ve
set_option maxRecDepth 20000
def a1_43 : Ans := [([.str [99, 111, 110, 116, 101, 110, 116, 45, 108, 101, 110, 103, 116, 104], .str [67, 111, 110, 116, 101, 110, 116, 45, 76, 101, 110, 103, 116, 104]], .bool true), ([.str [99, 111, 110, 116, 101, 110, 116, 45, 108, 101, 110, 103, 116, 104], .str [84, 114, 97, 110, 115, 102, 101, 114, 45, 69, 110, 99, 111, 100, 105, 110, 103]], .bool false), ([.str [67, 111, 110, 116, 101, 110, 116, 45, 76, 101, 110, 103, 116, 104], .str [67, 111, 110, 116, 101, 110, 116, 45, 76, 101, 110, 103, 116, 104]], .bool true), ([.str [84, 114, 97, 110, 115, 102, 101, 114, 45, 69, 110, 99, 111, 100, 105, 110, 103], .str [67, 111, 110, 116, 101, 110, 116, 45, 76, 101, 110, 103, 116, 104]], .bool false), ([.str [67, 111, 110, 116, 101, 110, 116, 45, 76, 101, 110, 103, 116, 104], .str [84, 114, 97, 110, 115, 102, 101, 114, 45, 69, 110, 99, 111, 100, 105, 110, 103]], .bool false), ([.str [84, 114, 97, 110, 115, 102, 101, 114, 45, 69, 110, 99, 111, 100, 105, 110, 103], .str [84, 114, 97, 110, 115, 102, 101, 114, 45, 69, 110, 99, 111, 100, 105, 110, 103]], .bool true), ([.str [99, 104, 117, 110, 107, 101, 100], .str [99, 104, 117, 110, 107, 101, 100]], .bool true), ([.str [67, 104, 117, 110, 107, 101, 100], .str [99, 104, 117, 110, 107, 101, 100]], .bool true)]
theorem a1_43Ok : AnsOk Tryd.prog 43 a1_43 := by
  intro e he
  simp only [a1_43, List.mem_cons, List.mem_nil_iff, or_false] at he
  rcases he with rfl | rfl | rfl | rfl | rfl | rfl | rfl | rfl
  · exact ⟨by kernel_rfl, by kernel_rfl, _, call0, callI_of_sev Vok q1_1_0⟩
  · exact ⟨by kernel_rfl, by kernel_rfl, _, call0, callI_of_sev Vok q1_1_5⟩
  · exact ⟨by kernel_rfl, by kernel_rfl, _, call0, callI_of_sev Vok q1_1_6⟩
  · exact ⟨by kernel_rfl, by kernel_rfl, _, call0, callI_of_sev Vok q1_1_7⟩
  · exact ⟨by kernel_rfl, by kernel_rfl, _, call0, callI_of_sev Vok q1_1_8⟩
  · exact ⟨by kernel_rfl, by kernel_rfl, _, call0, callI_of_sev Vok q1_1_9⟩
  · exact ⟨by kernel_rfl, by kernel_rfl, _, call0, callI_of_sev Vok q1_1_11⟩
  · exact ⟨by kernel_rfl, by kernel_rfl, _, call0, callI_of_sev Vok q1_1_13⟩
def a1_44 : Ans := [([.str [53], .str [32, 9]], .str [53]), ([.str [32, 53], .str [32, 9]], .str [53]), ([.str [53], .str [48, 49, 50, 51, 52, 53, 54, 55, 56, 57]], .str []), ([.str [99, 104, 117, 110, 107, 101, 100], .str [32, 9]], .str [99, 104, 117, 110, 107, 101, 100]), ([.str [67, 104, 117, 110, 107, 101, 100], .str [32, 9]], .str [67, 104, 117, 110, 107, 101, 100]), ([.str [103, 122, 105, 112], .str [32, 9]], .str [103, 122, 105, 112]), ([.str [32, 99, 104, 117, 110, 107, 101, 100], .str [32, 9]], .str [99, 104, 117, 110, 107, 101, 100]), ([.str [54], .str [32, 9]], .str [54]), ([.str [54], .str [48, 49, 50, 51, 52, 53, 54, 55, 56, 57]], .str []), ([.str [43, 53], .str [32, 9]], .str [43, 53]), ([.str [43, 53], .str [48, 49, 50, 51, 52, 53, 54, 55, 56, 57]], .str [43]), ([.str [48], .str [32, 9]], .str [48]), ([.str [48], .str [48, 49, 50, 51, 52, 53, 54, 55, 56, 57]], .str []), ([.str [57, 57, 57, 57, 57, 57, 57, 57, 57, 57, 57, 57, 57, 57, 57, 57, 57, 57, 57, 57], .str [32, 9]], .str [57, 57, 57, 57, 57, 57, 57, 57, 57, 57, 57, 57, 57, 57, 57, 57, 57, 57, 57, 57]), ([.str [57, 57, 57, 57, 57, 57, 57, 57, 57, 57, 57, 57, 57, 57, 57, 57, 57, 57, 57, 57], .str [48, 49, 50, 51, 52, 53, 54, 55, 56, 57]], .str [])]
theorem a1_44Ok : AnsOk Tryd.prog 44 a1_44 := by
  intro e he
  simp only [a1_44, List.mem_cons, List.mem_nil_iff, or_false] at he
  rcases he with rfl | rfl | rfl | rfl | rfl | rfl | rfl | rfl | rfl | rfl | rfl | rfl | rfl | rfl | rfl
  · exact ⟨by kernel_rfl, by kernel_rfl, _, call0, callI_of_sev Vok q1_1_1⟩
  · exact ⟨by kernel_rfl, by kernel_rfl, _, call0, callI_of_sev Vok q1_1_2⟩
  · exact ⟨by kernel_rfl, by kernel_rfl, _, call0, callI_of_sev Vok q1_1_4⟩
  · exact ⟨by kernel_rfl, by kernel_rfl, _, call0, callI_of_sev Vok q1_1_10⟩
  · exact ⟨by kernel_rfl, by kernel_rfl, _, call0, callI_of_sev Vok q1_1_12⟩
  · exact ⟨by kernel_rfl, by kernel_rfl, _, call0, callI_of_sev Vok q1_1_14⟩
  · exact ⟨by kernel_rfl, by kernel_rfl, _, call0, callI_of_sev Vok q1_1_15⟩
  · exact ⟨by kernel_rfl, by kernel_rfl, _, call0, callI_of_sev Vok q1_1_16⟩
  · exact ⟨by kernel_rfl, by kernel_rfl, _, call0, callI_of_sev Vok q1_1_17⟩
  · exact ⟨by kernel_rfl, by kernel_rfl, _, call0, callI_of_sev Vok q1_1_18⟩
  · exact ⟨by kernel_rfl, by kernel_rfl, _, call0, callI_of_sev Vok q1_1_19⟩
  · exact ⟨by kernel_rfl, by kernel_rfl, _, call0, callI_of_sev Vok q1_1_20⟩
  · exact ⟨by kernel_rfl, by kernel_rfl, _, call0, callI_of_sev Vok q1_1_21⟩
  · exact ⟨by kernel_rfl, by kernel_rfl, _, call0, callI_of_sev Vok q1_1_22⟩
  · exact ⟨by kernel_rfl, by kernel_rfl, _, call0, callI_of_sev Vok q1_1_23⟩
def a1_57 : Ans := [([.str [48, 49, 50, 51, 52, 53, 54, 55, 56, 57]], .tuple [.agg [.bool false, .bool false, .bool false, .bool false, .bool false, .bool false, .bool false, .bool false, .bool false, .bool false, .bool false, .bool false, .bool false, .bool false, .bool false, .bool false, .bool false, .bool false, .bool false, .bool false, .bool false, .bool false, .bool false, .bool false, .bool false, .bool false, .bool false, .bool false, .bool false, .bool false, .bool false, .bool false, .bool false, .bool false, .bool false, .bool false, .bool false, .bool false, .bool false, .bool false, .bool false, .bool false, .bool false, .bool false, .bool false, .bool false, .bool false, .bool false, .bool true, .bool true, .bool true, .bool true, .bool true, .bool true, .bool true, .bool true, .bool true, .bool true, .bool false, .bool false, .bool false, .bool false, .bool false, .bool false, .bool false, .bool false, .bool false, .bool false, .bool false, .bool false, .bool false, .bool false, .bool false, .bool false, .bool false, .bool false, .bool false, .bool false, .bool false, .bool false, .bool false, .bool false, .bool false, .bool false, .bool false, .bool false, .bool false, .bool false, .bool false, .bool false, .bool false, .bool false, .bool false, .bool false, .bool false, .bool false, .bool false, .bool false, .bool false, .bool false, .bool false, .bool false, .bool false, .bool false, .bool false, .bool false, .bool false, .bool false, .bool false, .bool false, .bool false, .bool false, .bool false, .bool false, .bool false, .bool false, .bool false, .bool false, .bool false, .bool false, .bool false, .bool false, .bool false, .bool false, .bool false, .bool false, .bool false, .bool false, .bool false, .bool false, .bool false, .bool false, .bool false, .bool false, .bool false, .bool false, .bool false, .bool false, .bool false, .bool false, .bool false, .bool false, .bool false, .bool false, .bool false, .bool false, .bool false, .bool false, .bool false, .bool false, .bool false, .bool false, .bool false, .bool false, .bool false, .bool false, .bool false, .bool false, .bool false, .bool false, .bool false, .bool false, .bool false, .bool false, .bool false, .bool false, .bool false, .bool false, .bool false, .bool false, .bool false, .bool false, .bool false, .bool false, .bool false, .bool false, .bool false, .bool false, .bool false, .bool false, .bool false, .bool false, .bool false, .bool false, .bool false, .bool false, .bool false, .bool false, .bool false, .bool false, .bool false, .bool false, .bool false, .bool false, .bool false, .bool false, .bool false, .bool false, .bool false, .bool false, .bool false, .bool false, .bool false, .bool false, .bool false, .bool false, .bool false, .bool false, .bool false, .bool false, .bool false, .bool false, .bool false, .bool false, .bool false, .bool false, .bool false, .bool false, .bool false, .bool false, .bool false, .bool false, .bool false, .bool false, .bool false, .bool false, .bool false, .bool false, .bool false, .bool false, .bool false, .bool false, .bool false, .bool false, .bool false, .bool false, .bool false, .bool false, .bool false, .bool false, .bool false, .bool false, .bool false, .bool false, .bool false, .bool false, .bool false, .bool false, .bool false, .bool false, .bool false, .bool false, .bool false, .bool false, .bool false, .bool false], .bool true])]
theorem a1_57Ok : AnsOk Tryd.prog 57 a1_57 := by
  intro e he
  simp only [a1_57, List.mem_cons, List.mem_nil_iff, or_false] at he
  rcases he with rfl
  · exact ⟨by kernel_rfl, by kernel_rfl, _, call0, callI_of_sev Vok q1_1_3⟩
def T1 : List (Nat × Ans) := [(43, a1_43), (44, a1_44), (57, a1_57)]
theorem T1Ok : ∀ p ∈ T1, AnsOk Tryd.prog p.1 p.2 := by
  intro p hp
  simp only [T1, List.mem_cons, List.mem_nil_iff, or_false] at hp
  rcases hp with rfl | rfl | rfl
  · exact a1_43Ok
  · exact a1_44Ok
  · exact a1_57Ok
noncomputable def env1 : Env := ⟨Tryd.prog, orcP T1 env0.orc⟩
theorem env1Ok : CallOk env1.P env1.orc := orcP_ok T1Ok env0Ok
theorem call1 : CallOk Tryd.prog (callI env1 V (evI env1 V 400)) := callI_all (E := env1) Vok names0 mixed0 env1Ok 400
end Go.Proofs.YtnflmiaaijcgkaaDoor.framingNames

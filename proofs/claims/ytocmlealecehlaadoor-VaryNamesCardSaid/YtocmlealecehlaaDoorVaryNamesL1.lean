/- The table of the calls reckoned (1). -/
import Derived.Test.YtocmlealecehlaaDoorVaryNamesMd
import Derived.Test.YtocmlealecehlaaDoorVaryNamesT1a
namespace Go.Proofs.YtocmlealecehlaaDoor.varyNames
open Go Go.Ve
set_option maxRecDepth 20000
def a1_57 : Ans := [([.str [118, 97, 114, 121], .str [86, 97, 114, 121]], .bool true), ([.str [86, 97, 114, 121], .str [86, 97, 114, 121]], .bool true), ([.str [65], .str [97]], .bool true), ([.str [65], .str [98]], .bool false), ([.str [98], .str [66]], .bool true), ([.str [65], .str [65]], .bool true), ([.str [97], .str [65]], .bool true)]
theorem a1_57Ok : AnsOk Tryd.prog 57 a1_57 := by
  intro e he
  simp only [a1_57, List.mem_cons, List.mem_nil_iff, or_false] at he
  rcases he with rfl | rfl | rfl | rfl | rfl | rfl | rfl
  · exact ⟨by kernel_rfl, by kernel_rfl, _, call0, callI_of_sev Vok q1_1_0⟩
  · exact ⟨by kernel_rfl, by kernel_rfl, _, call0, callI_of_sev Vok q1_1_8⟩
  · exact ⟨by kernel_rfl, by kernel_rfl, _, call0, callI_of_sev Vok q1_1_13⟩
  · exact ⟨by kernel_rfl, by kernel_rfl, _, call0, callI_of_sev Vok q1_1_18⟩
  · exact ⟨by kernel_rfl, by kernel_rfl, _, call0, callI_of_sev Vok q1_1_19⟩
  · exact ⟨by kernel_rfl, by kernel_rfl, _, call0, callI_of_sev Vok q1_1_23⟩
  · exact ⟨by kernel_rfl, by kernel_rfl, _, call0, callI_of_sev Vok q1_1_24⟩
def a1_85 : Ans := [([.str [66], .str [32, 9]], .str [66]), ([.str [32, 97], .str [32, 9]], .str [97]), ([.str [32, 98], .str [32, 9]], .str [98]), ([.str [97], .str [32, 9]], .str [97]), ([.str [42], .str [32, 9]], .str [42])]
theorem a1_85Ok : AnsOk Tryd.prog 85 a1_85 := by
  intro e he
  simp only [a1_85, List.mem_cons, List.mem_nil_iff, or_false] at he
  rcases he with rfl | rfl | rfl | rfl | rfl
  · exact ⟨by kernel_rfl, by kernel_rfl, _, call0, callI_of_sev Vok q1_1_1⟩
  · exact ⟨by kernel_rfl, by kernel_rfl, _, call0, callI_of_sev Vok q1_1_3⟩
  · exact ⟨by kernel_rfl, by kernel_rfl, _, call0, callI_of_sev Vok q1_1_5⟩
  · exact ⟨by kernel_rfl, by kernel_rfl, _, call0, callI_of_sev Vok q1_1_9⟩
  · exact ⟨by kernel_rfl, by kernel_rfl, _, call0, callI_of_sev Vok q1_1_11⟩
def a1_67 : Ans := [([.str [66]], .str [66]), ([.str [32, 97]], .str [97]), ([.str [32, 98]], .str [98]), ([.str [97]], .str [97]), ([.str [42]], .str [42])]
theorem a1_67Ok : AnsOk Tryd.prog 67 a1_67 := by
  intro e he
  simp only [a1_67, List.mem_cons, List.mem_nil_iff, or_false] at he
  rcases he with rfl | rfl | rfl | rfl | rfl
  · exact ⟨by kernel_rfl, by kernel_rfl, _, call0, callI_of_sev Vok q1_1_2⟩
  · exact ⟨by kernel_rfl, by kernel_rfl, _, call0, callI_of_sev Vok q1_1_4⟩
  · exact ⟨by kernel_rfl, by kernel_rfl, _, call0, callI_of_sev Vok q1_1_6⟩
  · exact ⟨by kernel_rfl, by kernel_rfl, _, call0, callI_of_sev Vok q1_1_10⟩
  · exact ⟨by kernel_rfl, by kernel_rfl, _, call0, callI_of_sev Vok q1_1_12⟩
def a1_19 : Ans := [([], .bool true)]
theorem a1_19Ok : AnsOk Tryd.prog 19 a1_19 := by
  intro e he
  simp only [a1_19, List.mem_cons, List.mem_nil_iff, or_false] at he
  rcases he with rfl
  · exact ⟨by kernel_rfl, by kernel_rfl, _, call0, callI_of_sev Vok q1_1_7⟩
def a1_58 : Ans := [([.str [120, 32, 9, 32, 121]], .str [120, 32, 121]), ([.str [122]], .str [122]), ([.str [120, 32, 121, 44, 32, 122]], .str [120, 32, 121, 44, 32, 122])]
theorem a1_58Ok : AnsOk Tryd.prog 58 a1_58 := by
  intro e he
  simp only [a1_58, List.mem_cons, List.mem_nil_iff, or_false] at he
  rcases he with rfl | rfl | rfl
  · exact ⟨by kernel_rfl, by kernel_rfl, _, call0, callI_of_sev Vok q1_1_14⟩
  · exact ⟨by kernel_rfl, by kernel_rfl, _, call0, callI_of_sev Vok q1_1_16⟩
  · exact ⟨by kernel_rfl, by kernel_rfl, _, call0, callI_of_sev Vok q1_1_21⟩
def a1_41 : Ans := [([.str [120, 32, 9, 32, 121]], .str [120, 32, 121]), ([.str [122]], .str [122]), ([.str []], .str []), ([.str [120, 32, 121, 44, 32, 122]], .str [120, 32, 121, 44, 32, 122])]
theorem a1_41Ok : AnsOk Tryd.prog 41 a1_41 := by
  intro e he
  simp only [a1_41, List.mem_cons, List.mem_nil_iff, or_false] at he
  rcases he with rfl | rfl | rfl | rfl
  · exact ⟨by kernel_rfl, by kernel_rfl, _, call0, callI_of_sev Vok q1_1_15⟩
  · exact ⟨by kernel_rfl, by kernel_rfl, _, call0, callI_of_sev Vok q1_1_17⟩
  · exact ⟨by kernel_rfl, by kernel_rfl, _, call0, callI_of_sev Vok q1_1_20⟩
  · exact ⟨by kernel_rfl, by kernel_rfl, _, call0, callI_of_sev Vok q1_1_22⟩
def a1_25 : Ans := [([.str [72, 58, 56, 48], .str [47, 80]], .str [104, 58, 56, 48, 32, 47, 80])]
theorem a1_25Ok : AnsOk Tryd.prog 25 a1_25 := by
  intro e he
  simp only [a1_25, List.mem_cons, List.mem_nil_iff, or_false] at he
  rcases he with rfl
  · exact ⟨by kernel_rfl, by kernel_rfl, _, call0, callI_of_sev Vok q1_1_25⟩
def T1 : List (Nat × Ans) := [(57, a1_57), (85, a1_85), (67, a1_67), (19, a1_19), (58, a1_58), (41, a1_41), (25, a1_25)]
theorem T1Ok : ∀ p ∈ T1, AnsOk Tryd.prog p.1 p.2 := by
  intro p hp
  simp only [T1, List.mem_cons, List.mem_nil_iff, or_false] at hp
  rcases hp with rfl | rfl | rfl | rfl | rfl | rfl | rfl
  · exact a1_57Ok
  · exact a1_85Ok
  · exact a1_67Ok
  · exact a1_19Ok
  · exact a1_58Ok
  · exact a1_41Ok
  · exact a1_25Ok
noncomputable def env1 : Env := ⟨Tryd.prog, orcP T1 env0.orc⟩
theorem env1Ok : CallOk env1.P env1.orc := orcP_ok T1Ok env0Ok
theorem call1 : CallOk Tryd.prog (callI env1 V (evI env1 V 400)) := callI_all (E := env1) Vok names0 mixed0 env1Ok 400
end Go.Proofs.YtocmlealecehlaaDoor.varyNames

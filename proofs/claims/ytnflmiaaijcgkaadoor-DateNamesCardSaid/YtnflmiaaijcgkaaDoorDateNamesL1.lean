/- The table of the calls reckoned (1). -/
import Derived.Test.YtnflmiaaijcgkaaDoorDateNamesMd
import Derived.Test.YtnflmiaaijcgkaaDoorDateNamesT1a
namespace Go.Proofs.YtnflmiaaijcgkaaDoor.dateNames
open Go Go.Ve
set_option maxRecDepth 20000
def a1_57 : Ans := [([.str [48, 49, 50, 51, 52, 53, 54, 55, 56, 57]], .tuple [.agg [.bool false, .bool false, .bool false, .bool false, .bool false, .bool false, .bool false, .bool false, .bool false, .bool false, .bool false, .bool false, .bool false, .bool false, .bool false, .bool false, .bool false, .bool false, .bool false, .bool false, .bool false, .bool false, .bool false, .bool false, .bool false, .bool false, .bool false, .bool false, .bool false, .bool false, .bool false, .bool false, .bool false, .bool false, .bool false, .bool false, .bool false, .bool false, .bool false, .bool false, .bool false, .bool false, .bool false, .bool false, .bool false, .bool false, .bool false, .bool false, .bool true, .bool true, .bool true, .bool true, .bool true, .bool true, .bool true, .bool true, .bool true, .bool true, .bool false, .bool false, .bool false, .bool false, .bool false, .bool false, .bool false, .bool false, .bool false, .bool false, .bool false, .bool false, .bool false, .bool false, .bool false, .bool false, .bool false, .bool false, .bool false, .bool false, .bool false, .bool false, .bool false, .bool false, .bool false, .bool false, .bool false, .bool false, .bool false, .bool false, .bool false, .bool false, .bool false, .bool false, .bool false, .bool false, .bool false, .bool false, .bool false, .bool false, .bool false, .bool false, .bool false, .bool false, .bool false, .bool false, .bool false, .bool false, .bool false, .bool false, .bool false, .bool false, .bool false, .bool false, .bool false, .bool false, .bool false, .bool false, .bool false, .bool false, .bool false, .bool false, .bool false, .bool false, .bool false, .bool false, .bool false, .bool false, .bool false, .bool false, .bool false, .bool false, .bool false, .bool false, .bool false, .bool false, .bool false, .bool false, .bool false, .bool false, .bool false, .bool false, .bool false, .bool false, .bool false, .bool false, .bool false, .bool false, .bool false, .bool false, .bool false, .bool false, .bool false, .bool false, .bool false, .bool false, .bool false, .bool false, .bool false, .bool false, .bool false, .bool false, .bool false, .bool false, .bool false, .bool false, .bool false, .bool false, .bool false, .bool false, .bool false, .bool false, .bool false, .bool false, .bool false, .bool false, .bool false, .bool false, .bool false, .bool false, .bool false, .bool false, .bool false, .bool false, .bool false, .bool false, .bool false, .bool false, .bool false, .bool false, .bool false, .bool false, .bool false, .bool false, .bool false, .bool false, .bool false, .bool false, .bool false, .bool false, .bool false, .bool false, .bool false, .bool false, .bool false, .bool false, .bool false, .bool false, .bool false, .bool false, .bool false, .bool false, .bool false, .bool false, .bool false, .bool false, .bool false, .bool false, .bool false, .bool false, .bool false, .bool false, .bool false, .bool false, .bool false, .bool false, .bool false, .bool false, .bool false, .bool false, .bool false, .bool false, .bool false, .bool false, .bool false, .bool false, .bool false, .bool false, .bool false, .bool false, .bool false, .bool false, .bool false, .bool false, .bool false, .bool false, .bool false, .bool false, .bool false, .bool false, .bool false, .bool false, .bool false, .bool false, .bool false, .bool false, .bool false, .bool false], .bool true])]
theorem a1_57Ok : AnsOk Tryd.prog 57 a1_57 := by
  intro e he
  simp only [a1_57, List.mem_cons, List.mem_nil_iff, or_false] at he
  rcases he with rfl
  · exact ⟨by kernel_rfl, by kernel_rfl, _, call0, evCallM_of_sev Vok q1_1_0⟩
def a1_38 : Ans := [([.str [48, 54]], .tuple [.int .i64 (.ofNat 6), .int .i64 (.ofNat 0)]), ([.str [49, 57, 57, 52]], .tuple [.int .i64 (.ofNat 1994), .int .i64 (.ofNat 0)]), ([.str [48, 56]], .tuple [.int .i64 (.ofNat 8), .int .i64 (.ofNat 0)]), ([.str [52, 57]], .tuple [.int .i64 (.ofNat 49), .int .i64 (.ofNat 0)]), ([.str [51, 55]], .tuple [.int .i64 (.ofNat 37), .int .i64 (.ofNat 0)]), ([.str [121, 44]], .tuple [.int .i64 (.ofNat 0), .int .i64 (.ofNat 4)]), ([.str [54, 45, 78, 111]], .tuple [.int .i64 (.ofNat 0), .int .i64 (.ofNat 4)]), ([.str [45, 57]], .tuple [.int .i64 (.ofNat 0), .int .i64 (.ofNat 4)]), ([.str [32, 48]], .tuple [.int .i64 (.ofNat 0), .int .i64 (.ofNat 4)]), ([.str [58, 52]], .tuple [.int .i64 (.ofNat 0), .int .i64 (.ofNat 4)]), ([.str [57, 52]], .tuple [.int .i64 (.ofNat 94), .int .i64 (.ofNat 0)]), ([.str [111, 118]], .tuple [.int .i64 (.ofNat 0), .int .i64 (.ofNat 4)]), ([.str [54, 32, 48, 56]], .tuple [.int .i64 (.ofNat 0), .int .i64 (.ofNat 4)]), ([.str [49, 57]], .tuple [.int .i64 (.ofNat 19), .int .i64 (.ofNat 0)]), ([.str [110, 32]], .tuple [.int .i64 (.ofNat 0), .int .i64 (.ofNat 4)]), ([.str [118, 32]], .tuple [.int .i64 (.ofNat 0), .int .i64 (.ofNat 4)]), ([.str [54, 32]], .tuple [.int .i64 (.ofNat 0), .int .i64 (.ofNat 4)]), ([.str [56, 58]], .tuple [.int .i64 (.ofNat 0), .int .i64 (.ofNat 4)]), ([.str [57, 58]], .tuple [.int .i64 (.ofNat 0), .int .i64 (.ofNat 4)]), ([.str [54]], .tuple [.int .i64 (.ofNat 6), .int .i64 (.ofNat 0)]), ([.str [110, 44]], .tuple [.int .i64 (.ofNat 0), .int .i64 (.ofNat 4)]), ([.str [52, 32]], .tuple [.int .i64 (.ofNat 0), .int .i64 (.ofNat 4)]), ([.str [78, 111]], .tuple [.int .i64 (.ofNat 0), .int .i64 (.ofNat 4)]), ([.str [32, 49]], .tuple [.int .i64 (.ofNat 0), .int .i64 (.ofNat 4)]), ([.str [48, 56, 58, 52]], .tuple [.int .i64 (.ofNat 0), .int .i64 (.ofNat 4)]), ([.str [54, 48]], .tuple [.int .i64 (.ofNat 60), .int .i64 (.ofNat 0)]), ([.str [54, 32, 78, 111]], .tuple [.int .i64 (.ofNat 0), .int .i64 (.ofNat 4)]), ([.str [57, 52, 32, 48]], .tuple [.int .i64 (.ofNat 0), .int .i64 (.ofNat 4)]), ([.str [49, 45, 74, 97]], .tuple [.int .i64 (.ofNat 0), .int .i64 (.ofNat 4)]), ([.str [58, 48]], .tuple [.int .i64 (.ofNat 0), .int .i64 (.ofNat 4)]), ([.str [48, 49]], .tuple [.int .i64 (.ofNat 1), .int .i64 (.ofNat 0)]), ([.str [57, 57]], .tuple [.int .i64 (.ofNat 99), .int .i64 (.ofNat 0)]), ([.str [48, 48]], .tuple [.int .i64 (.ofNat 0), .int .i64 (.ofNat 0)]), ([.str [100, 97]], .tuple [.int .i64 (.ofNat 0), .int .i64 (.ofNat 4)]), ([.str [32, 48, 49, 45]], .tuple [.int .i64 (.ofNat 0), .int .i64 (.ofNat 4)]), ([.str [97, 110]], .tuple [.int .i64 (.ofNat 0), .int .i64 (.ofNat 4)]), ([.str [55, 48]], .tuple [.int .i64 (.ofNat 70), .int .i64 (.ofNat 0)]), ([.str [44, 32]], .tuple [.int .i64 (.ofNat 0), .int .i64 (.ofNat 4)]), ([.str [49, 45]], .tuple [.int .i64 (.ofNat 0), .int .i64 (.ofNat 4)]), ([.str [55, 48, 32, 48]], .tuple [.int .i64 (.ofNat 0), .int .i64 (.ofNat 4)])]
theorem a1_38Ok : AnsOk Tryd.prog 38 a1_38 := by
  intro e he
  simp only [a1_38, List.mem_cons, List.mem_nil_iff, or_false] at he
  rcases he with rfl | rfl | rfl | rfl | rfl | rfl | rfl | rfl | rfl | rfl | rfl | rfl | rfl | rfl | rfl | rfl | rfl | rfl | rfl | rfl | rfl | rfl | rfl | rfl | rfl | rfl | rfl | rfl | rfl | rfl | rfl | rfl | rfl | rfl | rfl | rfl | rfl | rfl | rfl | rfl
  · exact ⟨by kernel_rfl, by kernel_rfl, _, call0, evCallM_of_sev Vok q1_1_1⟩
  · exact ⟨by kernel_rfl, by kernel_rfl, _, call0, evCallM_of_sev Vok q1_1_2⟩
  · exact ⟨by kernel_rfl, by kernel_rfl, _, call0, evCallM_of_sev Vok q1_1_3⟩
  · exact ⟨by kernel_rfl, by kernel_rfl, _, call0, evCallM_of_sev Vok q1_1_4⟩
  · exact ⟨by kernel_rfl, by kernel_rfl, _, call0, evCallM_of_sev Vok q1_1_5⟩
  · exact ⟨by kernel_rfl, by kernel_rfl, _, call0, evCallM_of_sev Vok q1_1_8⟩
  · exact ⟨by kernel_rfl, by kernel_rfl, _, call0, evCallM_of_sev Vok q1_1_9⟩
  · exact ⟨by kernel_rfl, by kernel_rfl, _, call0, evCallM_of_sev Vok q1_1_10⟩
  · exact ⟨by kernel_rfl, by kernel_rfl, _, call0, evCallM_of_sev Vok q1_1_11⟩
  · exact ⟨by kernel_rfl, by kernel_rfl, _, call0, evCallM_of_sev Vok q1_1_12⟩
  · exact ⟨by kernel_rfl, by kernel_rfl, _, call0, evCallM_of_sev Vok q1_1_13⟩
  · exact ⟨by kernel_rfl, by kernel_rfl, _, call0, evCallM_of_sev Vok q1_1_17⟩
  · exact ⟨by kernel_rfl, by kernel_rfl, _, call0, evCallM_of_sev Vok q1_1_18⟩
  · exact ⟨by kernel_rfl, by kernel_rfl, _, call0, evCallM_of_sev Vok q1_1_19⟩
  · exact ⟨by kernel_rfl, by kernel_rfl, _, call0, evCallM_of_sev Vok q1_1_20⟩
  · exact ⟨by kernel_rfl, by kernel_rfl, _, call0, evCallM_of_sev Vok q1_1_21⟩
  · exact ⟨by kernel_rfl, by kernel_rfl, _, call0, evCallM_of_sev Vok q1_1_25⟩
  · exact ⟨by kernel_rfl, by kernel_rfl, _, call0, evCallM_of_sev Vok q1_1_26⟩
  · exact ⟨by kernel_rfl, by kernel_rfl, _, call0, evCallM_of_sev Vok q1_1_27⟩
  · exact ⟨by kernel_rfl, by kernel_rfl, _, call0, evCallM_of_sev Vok q1_1_28⟩
  · exact ⟨by kernel_rfl, by kernel_rfl, _, call0, evCallM_of_sev Vok q1_1_30⟩
  · exact ⟨by kernel_rfl, by kernel_rfl, _, call0, evCallM_of_sev Vok q1_1_31⟩
  · exact ⟨by kernel_rfl, by kernel_rfl, _, call0, evCallM_of_sev Vok q1_1_32⟩
  · exact ⟨by kernel_rfl, by kernel_rfl, _, call0, evCallM_of_sev Vok q1_1_33⟩
  · exact ⟨by kernel_rfl, by kernel_rfl, _, call0, evCallM_of_sev Vok q1_1_34⟩
  · exact ⟨by kernel_rfl, by kernel_rfl, _, call0, evCallM_of_sev Vok q1_1_35⟩
  · exact ⟨by kernel_rfl, by kernel_rfl, _, call0, evCallM_of_sev Vok q1_1_37⟩
  · exact ⟨by kernel_rfl, by kernel_rfl, _, call0, evCallM_of_sev Vok q1_1_38⟩
  · exact ⟨by kernel_rfl, by kernel_rfl, _, call0, evCallM_of_sev Vok q1_1_61⟩
  · exact ⟨by kernel_rfl, by kernel_rfl, _, call0, evCallM_of_sev Vok q1_1_62⟩
  · exact ⟨by kernel_rfl, by kernel_rfl, _, call0, evCallM_of_sev Vok q1_1_63⟩
  · exact ⟨by kernel_rfl, by kernel_rfl, _, call0, evCallM_of_sev Vok q1_1_64⟩
  · exact ⟨by kernel_rfl, by kernel_rfl, _, call0, evCallM_of_sev Vok q1_1_68⟩
  · exact ⟨by kernel_rfl, by kernel_rfl, _, call0, evCallM_of_sev Vok q1_1_71⟩
  · exact ⟨by kernel_rfl, by kernel_rfl, _, call0, evCallM_of_sev Vok q1_1_72⟩
  · exact ⟨by kernel_rfl, by kernel_rfl, _, call0, evCallM_of_sev Vok q1_1_73⟩
  · exact ⟨by kernel_rfl, by kernel_rfl, _, call0, evCallM_of_sev Vok q1_1_74⟩
  · exact ⟨by kernel_rfl, by kernel_rfl, _, call0, evCallM_of_sev Vok q1_1_78⟩
  · exact ⟨by kernel_rfl, by kernel_rfl, _, call0, evCallM_of_sev Vok q1_1_79⟩
  · exact ⟨by kernel_rfl, by kernel_rfl, _, call0, evCallM_of_sev Vok q1_1_80⟩
def a1_9 : Ans := [([.int .i64 (.ofNat 1994), .int .i64 (.ofNat 11), .int .i64 (.ofNat 6)], .tuple [.int .i64 (.ofNat 9075), .int .i64 (.ofNat 0)]), ([.int .i64 (.ofNat 1995), .int .i64 (.ofNat 1), .int .i64 (.ofNat 1)], .tuple [.int .i64 (.ofNat 9131), .int .i64 (.ofNat 0)]), ([.int .i64 (.ofNat 1994), .int .i64 (.ofNat 1), .int .i64 (.ofNat 1)], .tuple [.int .i64 (.ofNat 8766), .int .i64 (.ofNat 0)]), ([.int .i64 (.ofNat 1971), .int .i64 (.ofNat 1), .int .i64 (.ofNat 1)], .tuple [.int .i64 (.ofNat 365), .int .i64 (.ofNat 0)]), ([.int .i64 (.ofNat 1970), .int .i64 (.ofNat 1), .int .i64 (.ofNat 1)], .tuple [.int .i64 (.ofNat 0), .int .i64 (.ofNat 0)]), ([.int .i64 (.ofNat 9984), .int .i64 (.ofNat 1), .int .i64 (.ofNat 1)], .tuple [.int .i64 (.ofNat 2927053), .int .i64 (.ofNat 0)]), ([.int .i64 (.ofNat 9985), .int .i64 (.ofNat 1), .int .i64 (.ofNat 1)], .tuple [.int .i64 (.ofNat 2927419), .int .i64 (.ofNat 0)]), ([.int .i64 (.ofNat 9986), .int .i64 (.ofNat 1), .int .i64 (.ofNat 1)], .tuple [.int .i64 (.ofNat 2927784), .int .i64 (.ofNat 0)]), ([.int .i64 (.ofNat 9987), .int .i64 (.ofNat 1), .int .i64 (.ofNat 1)], .tuple [.int .i64 (.ofNat 2928149), .int .i64 (.ofNat 0)]), ([.int .i64 (.ofNat 9988), .int .i64 (.ofNat 1), .int .i64 (.ofNat 1)], .tuple [.int .i64 (.ofNat 2928514), .int .i64 (.ofNat 0)]), ([.int .i64 (.ofNat 9989), .int .i64 (.ofNat 1), .int .i64 (.ofNat 1)], .tuple [.int .i64 (.ofNat 2928880), .int .i64 (.ofNat 0)]), ([.int .i64 (.ofNat 9990), .int .i64 (.ofNat 1), .int .i64 (.ofNat 1)], .tuple [.int .i64 (.ofNat 2929245), .int .i64 (.ofNat 0)]), ([.int .i64 (.ofNat 9991), .int .i64 (.ofNat 1), .int .i64 (.ofNat 1)], .tuple [.int .i64 (.ofNat 2929610), .int .i64 (.ofNat 0)]), ([.int .i64 (.ofNat 9992), .int .i64 (.ofNat 1), .int .i64 (.ofNat 1)], .tuple [.int .i64 (.ofNat 2929975), .int .i64 (.ofNat 0)]), ([.int .i64 (.ofNat 9993), .int .i64 (.ofNat 1), .int .i64 (.ofNat 1)], .tuple [.int .i64 (.ofNat 2930341), .int .i64 (.ofNat 0)]), ([.int .i64 (.ofNat 9994), .int .i64 (.ofNat 1), .int .i64 (.ofNat 1)], .tuple [.int .i64 (.ofNat 2930706), .int .i64 (.ofNat 0)]), ([.int .i64 (.ofNat 9995), .int .i64 (.ofNat 1), .int .i64 (.ofNat 1)], .tuple [.int .i64 (.ofNat 2931071), .int .i64 (.ofNat 0)]), ([.int .i64 (.ofNat 9996), .int .i64 (.ofNat 1), .int .i64 (.ofNat 1)], .tuple [.int .i64 (.ofNat 2931436), .int .i64 (.ofNat 0)]), ([.int .i64 (.ofNat 9997), .int .i64 (.ofNat 1), .int .i64 (.ofNat 1)], .tuple [.int .i64 (.ofNat 2931802), .int .i64 (.ofNat 0)]), ([.int .i64 (.ofNat 9998), .int .i64 (.ofNat 1), .int .i64 (.ofNat 1)], .tuple [.int .i64 (.ofNat 2932167), .int .i64 (.ofNat 0)]), ([.int .i64 (.ofNat 9999), .int .i64 (.ofNat 1), .int .i64 (.ofNat 1)], .tuple [.int .i64 (.ofNat 2932532), .int .i64 (.ofNat 0)]), ([.int .i64 (.ofNat 2001), .int .i64 (.ofNat 1), .int .i64 (.ofNat 1)], .tuple [.int .i64 (.ofNat 11323), .int .i64 (.ofNat 0)]), ([.int .i64 (.ofNat 2000), .int .i64 (.ofNat 1), .int .i64 (.ofNat 1)], .tuple [.int .i64 (.ofNat 10957), .int .i64 (.ofNat 0)]), ([.int .i64 (.ofNat 2000), .int .i64 (.ofNat 2), .int .i64 (.ofNat 29)], .tuple [.int .i64 (.ofNat 11016), .int .i64 (.ofNat 0)]), ([.int .i64 (.ofNat 2001), .int .i64 (.ofNat 2), .int .i64 (.ofNat 29)], .tuple [.int .i64 (.ofNat 0), .int .i64 (.ofNat 2)]), ([.int .i64 (.ofNat 2024), .int .i64 (.ofNat 1), .int .i64 (.ofNat 1)], .tuple [.int .i64 (.ofNat 19723), .int .i64 (.ofNat 0)]), ([.int .i64 (.ofNat 2025), .int .i64 (.ofNat 1), .int .i64 (.ofNat 1)], .tuple [.int .i64 (.ofNat 20089), .int .i64 (.ofNat 0)]), ([.int .i64 (.ofNat 1999), .int .i64 (.ofNat 1), .int .i64 (.ofNat 1)], .tuple [.int .i64 (.ofNat 10592), .int .i64 (.ofNat 0)]), ([.int .i64 (.ofNat 2070), .int .i64 (.ofNat 1), .int .i64 (.ofNat 1)], .tuple [.int .i64 (.ofNat 36525), .int .i64 (.ofNat 0)])]
theorem a1_9Ok : AnsOk Tryd.prog 9 a1_9 := by
  intro e he
  simp only [a1_9, List.mem_cons, List.mem_nil_iff, or_false] at he
  rcases he with rfl | rfl | rfl | rfl | rfl | rfl | rfl | rfl | rfl | rfl | rfl | rfl | rfl | rfl | rfl | rfl | rfl | rfl | rfl | rfl | rfl | rfl | rfl | rfl | rfl | rfl | rfl | rfl | rfl
  · exact ⟨by kernel_rfl, by kernel_rfl, _, call0, evCallM_of_sev Vok q1_1_6⟩
  · exact ⟨by kernel_rfl, by kernel_rfl, _, call0, evCallM_of_sev Vok q1_1_14⟩
  · exact ⟨by kernel_rfl, by kernel_rfl, _, call0, evCallM_of_sev Vok q1_1_15⟩
  · exact ⟨by kernel_rfl, by kernel_rfl, _, call0, evCallM_of_sev Vok q1_1_22⟩
  · exact ⟨by kernel_rfl, by kernel_rfl, _, call0, evCallM_of_sev Vok q1_1_23⟩
  · exact ⟨by kernel_rfl, by kernel_rfl, _, call0, evCallM_of_sev Vok q1_1_39⟩
  · exact ⟨by kernel_rfl, by kernel_rfl, _, call0, evCallM_of_sev Vok q1_1_40⟩
  · exact ⟨by kernel_rfl, by kernel_rfl, _, call0, evCallM_of_sev Vok q1_1_41⟩
  · exact ⟨by kernel_rfl, by kernel_rfl, _, call0, evCallM_of_sev Vok q1_1_42⟩
  · exact ⟨by kernel_rfl, by kernel_rfl, _, call0, evCallM_of_sev Vok q1_1_43⟩
  · exact ⟨by kernel_rfl, by kernel_rfl, _, call0, evCallM_of_sev Vok q1_1_44⟩
  · exact ⟨by kernel_rfl, by kernel_rfl, _, call0, evCallM_of_sev Vok q1_1_45⟩
  · exact ⟨by kernel_rfl, by kernel_rfl, _, call0, evCallM_of_sev Vok q1_1_46⟩
  · exact ⟨by kernel_rfl, by kernel_rfl, _, call0, evCallM_of_sev Vok q1_1_47⟩
  · exact ⟨by kernel_rfl, by kernel_rfl, _, call0, evCallM_of_sev Vok q1_1_48⟩
  · exact ⟨by kernel_rfl, by kernel_rfl, _, call0, evCallM_of_sev Vok q1_1_49⟩
  · exact ⟨by kernel_rfl, by kernel_rfl, _, call0, evCallM_of_sev Vok q1_1_50⟩
  · exact ⟨by kernel_rfl, by kernel_rfl, _, call0, evCallM_of_sev Vok q1_1_51⟩
  · exact ⟨by kernel_rfl, by kernel_rfl, _, call0, evCallM_of_sev Vok q1_1_52⟩
  · exact ⟨by kernel_rfl, by kernel_rfl, _, call0, evCallM_of_sev Vok q1_1_53⟩
  · exact ⟨by kernel_rfl, by kernel_rfl, _, call0, evCallM_of_sev Vok q1_1_54⟩
  · exact ⟨by kernel_rfl, by kernel_rfl, _, call0, evCallM_of_sev Vok q1_1_55⟩
  · exact ⟨by kernel_rfl, by kernel_rfl, _, call0, evCallM_of_sev Vok q1_1_56⟩
  · exact ⟨by kernel_rfl, by kernel_rfl, _, call0, evCallM_of_sev Vok q1_1_57⟩
  · exact ⟨by kernel_rfl, by kernel_rfl, _, call0, evCallM_of_sev Vok q1_1_58⟩
  · exact ⟨by kernel_rfl, by kernel_rfl, _, call0, evCallM_of_sev Vok q1_1_65⟩
  · exact ⟨by kernel_rfl, by kernel_rfl, _, call0, evCallM_of_sev Vok q1_1_66⟩
  · exact ⟨by kernel_rfl, by kernel_rfl, _, call0, evCallM_of_sev Vok q1_1_69⟩
  · exact ⟨by kernel_rfl, by kernel_rfl, _, call0, evCallM_of_sev Vok q1_1_76⟩
def a1_10 : Ans := [([.agg [.int .i64 (.ofNat 1994), .int .i64 (.ofNat 11), .int .i64 (.ofNat 6), .int .i64 (.ofNat 8), .int .i64 (.ofNat 49), .int .i64 (.ofNat 37), .int .i64 (.ofNat 0)]], .tuple [.int .i64 (.ofNat 784111777), .int .i64 (.ofNat 0)]), ([.agg [.int .i64 (.ofNat 1994), .int .i64 (.ofNat 11), .int .i64 (.ofNat 6), .int .i64 (.ofNat 8), .int .i64 (.ofNat 49), .int .i64 (.ofNat 37), .int .i64 (.ofNat 1)]], .tuple [.int .i64 (.ofNat 0), .int .i64 (.ofNat 2)]), ([.agg [.int .i64 (.ofNat 1994), .int .i64 (.ofNat 11), .int .i64 (.ofNat 6), .int .i64 (.ofNat 8), .int .i64 (.ofNat 49), .int .i64 (.ofNat 60), .int .i64 (.ofNat 0)]], .tuple [.int .i64 (.ofNat 0), .int .i64 (.ofNat 2)]), ([.agg [.int .i64 (.ofNat 2000), .int .i64 (.ofNat 2), .int .i64 (.ofNat 29), .int .i64 (.ofNat 0), .int .i64 (.ofNat 0), .int .i64 (.ofNat 0), .int .i64 (.ofNat 2)]], .tuple [.int .i64 (.ofNat 951782400), .int .i64 (.ofNat 0)]), ([.agg [.int .i64 (.ofNat 2000), .int .i64 (.ofNat 2), .int .i64 (.ofNat 29), .int .i64 (.ofNat 0), .int .i64 (.ofNat 0), .int .i64 (.ofNat 0), .int .i64 (.ofNat 0)]], .tuple [.int .i64 (.ofNat 0), .int .i64 (.ofNat 2)]), ([.agg [.int .i64 (.ofNat 1999), .int .i64 (.ofNat 1), .int .i64 (.ofNat 1), .int .i64 (.ofNat 0), .int .i64 (.ofNat 0), .int .i64 (.ofNat 0), .int .i64 (.ofNat 5)]], .tuple [.int .i64 (.ofNat 915148800), .int .i64 (.ofNat 0)]), ([.agg [.int .i64 (.ofNat 2070), .int .i64 (.ofNat 1), .int .i64 (.ofNat 1), .int .i64 (.ofNat 0), .int .i64 (.ofNat 0), .int .i64 (.ofNat 0), .int .i64 (.ofNat 4)]], .tuple [.int .i64 (.ofNat 0), .int .i64 (.ofNat 2)])]
theorem a1_10Ok : AnsOk Tryd.prog 10 a1_10 := by
  intro e he
  simp only [a1_10, List.mem_cons, List.mem_nil_iff, or_false] at he
  rcases he with rfl | rfl | rfl | rfl | rfl | rfl | rfl
  · exact ⟨by kernel_rfl, by kernel_rfl, _, call0, evCallM_of_sev Vok q1_1_7⟩
  · exact ⟨by kernel_rfl, by kernel_rfl, _, call0, evCallM_of_sev Vok q1_1_29⟩
  · exact ⟨by kernel_rfl, by kernel_rfl, _, call0, evCallM_of_sev Vok q1_1_36⟩
  · exact ⟨by kernel_rfl, by kernel_rfl, _, call0, evCallM_of_sev Vok q1_1_59⟩
  · exact ⟨by kernel_rfl, by kernel_rfl, _, call0, evCallM_of_sev Vok q1_1_60⟩
  · exact ⟨by kernel_rfl, by kernel_rfl, _, call0, evCallM_of_sev Vok q1_1_70⟩
  · exact ⟨by kernel_rfl, by kernel_rfl, _, call0, evCallM_of_sev Vok q1_1_77⟩
def a1_31 : Ans := [([.int .i64 (.ofNat 94), .int .i64 (.ofNat 784111777)], .int .i64 (.ofNat 1994)), ([.int .i64 (.ofNat 0), .int .i64 (.ofNat 0)], .int .i64 (.ofNat 2000)), ([.int .i64 (.ofNat 99), .int .i64 (.ofNat 1704067200)], .int .i64 (.ofNat 1999)), ([.int .i64 (.ofNat 70), .int .i64 (.ofNat 1704067200)], .int .i64 (.ofNat 2070))]
theorem a1_31Ok : AnsOk Tryd.prog 31 a1_31 := by
  intro e he
  simp only [a1_31, List.mem_cons, List.mem_nil_iff, or_false] at he
  rcases he with rfl | rfl | rfl | rfl
  · exact ⟨by kernel_rfl, by kernel_rfl, _, call0, evCallM_of_sev Vok q1_1_16⟩
  · exact ⟨by kernel_rfl, by kernel_rfl, _, call0, evCallM_of_sev Vok q1_1_24⟩
  · exact ⟨by kernel_rfl, by kernel_rfl, _, call0, evCallM_of_sev Vok q1_1_67⟩
  · exact ⟨by kernel_rfl, by kernel_rfl, _, call0, evCallM_of_sev Vok q1_1_75⟩
def T1 : List (Nat × Ans) := [(57, a1_57), (38, a1_38), (9, a1_9), (10, a1_10), (31, a1_31)]
theorem T1Ok : ∀ p ∈ T1, AnsOk Tryd.prog p.1 p.2 := by
  intro p hp
  simp only [T1, List.mem_cons, List.mem_nil_iff, or_false] at hp
  rcases hp with rfl | rfl | rfl | rfl | rfl
  · exact a1_57Ok
  · exact a1_38Ok
  · exact a1_9Ok
  · exact a1_10Ok
  · exact a1_31Ok
noncomputable def env1 : Env := ⟨Tryd.prog, orcP T1 env0.orc⟩
theorem env1Ok : CallOk env1.P env1.orc := orcP_ok T1Ok env0Ok
theorem call1 : CallOk Tryd.prog (evCallM env1 V (evM env1 V 400)) := callM_ok (E := env1) Vok names0 mixed0 env1Ok 400
end Go.Proofs.YtnflmiaaijcgkaaDoor.dateNames

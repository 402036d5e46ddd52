/- The table of the calls reckoned (1). -/
import Derived.Test.YtnflmiaaijcgkaaGreatDoorEtagNamesMd
import Derived.Test.YtnflmiaaijcgkaaGreatDoorEtagNamesT1a
namespace Go.Proofs.YtnflmiaaijcgkaaGreatDoor.etagNames
open Go Go.Ve
set_option maxRecDepth 20000
def a1_60 : Ans := [([.str [73, 102, 45, 78, 111, 110, 101, 45, 77, 97, 116, 99, 104]], .str [105, 102, 45, 110, 111, 110, 101, 45, 109, 97, 116, 99, 104]), ([.str [69, 84, 97, 103]], .str [101, 116, 97, 103]), ([.str [76, 97, 115, 116, 45, 77, 111, 100, 105, 102, 105, 101, 100]], .str [108, 97, 115, 116, 45, 109, 111, 100, 105, 102, 105, 101, 100]), ([.str [82, 97, 110, 103, 101]], .str [114, 97, 110, 103, 101]), ([.str [73, 102, 45, 77, 97, 116, 99, 104]], .str [105, 102, 45, 109, 97, 116, 99, 104]), ([.str [105, 102, 45, 110, 111, 110, 101, 45, 109, 97, 116, 99, 104]], .str [105, 102, 45, 110, 111, 110, 101, 45, 109, 97, 116, 99, 104]), ([.str [73, 102, 45, 77, 111, 100, 105, 102, 105, 101, 100, 45, 83, 105, 110, 99, 101]], .str [105, 102, 45, 109, 111, 100, 105, 102, 105, 101, 100, 45, 115, 105, 110, 99, 101]), ([.str [73, 102, 45, 85, 110, 109, 111, 100, 105, 102, 105, 101, 100, 45, 83, 105, 110, 99, 101]], .str [105, 102, 45, 117, 110, 109, 111, 100, 105, 102, 105, 101, 100, 45, 115, 105, 110, 99, 101]), ([.str [73, 102, 45, 82, 97, 110, 103, 101]], .str [105, 102, 45, 114, 97, 110, 103, 101])]
theorem a1_60Ok : AnsOk Tryz.prog 60 a1_60 := by
  intro e he
  simp only [a1_60, List.mem_cons, List.mem_nil_iff, or_false] at he
  rcases he with rfl | rfl | rfl | rfl | rfl | rfl | rfl | rfl | rfl
  · exact ⟨by kernel_rfl, by kernel_rfl, _, call0, evCallM_of_sev Vok q1_1_0⟩
  · exact ⟨by kernel_rfl, by kernel_rfl, _, call0, evCallM_of_sev Vok q1_1_6⟩
  · exact ⟨by kernel_rfl, by kernel_rfl, _, call0, evCallM_of_sev Vok q1_1_7⟩
  · exact ⟨by kernel_rfl, by kernel_rfl, _, call0, evCallM_of_sev Vok q1_1_22⟩
  · exact ⟨by kernel_rfl, by kernel_rfl, _, call0, evCallM_of_sev Vok q1_1_23⟩
  · exact ⟨by kernel_rfl, by kernel_rfl, _, call0, evCallM_of_sev Vok q1_1_24⟩
  · exact ⟨by kernel_rfl, by kernel_rfl, _, call0, evCallM_of_sev Vok q1_1_25⟩
  · exact ⟨by kernel_rfl, by kernel_rfl, _, call0, evCallM_of_sev Vok q1_1_26⟩
  · exact ⟨by kernel_rfl, by kernel_rfl, _, call0, evCallM_of_sev Vok q1_1_27⟩
def a1_50 : Ans := [([.str [34, 97, 34], .str [32, 9]], .str [34, 97, 34]), ([.str [32, 87, 47, 34, 98, 34], .str [32, 9]], .str [87, 47, 34, 98, 34]), ([.str [87, 47, 34, 98, 34], .str [32, 9]], .str [87, 47, 34, 98, 34]), ([.str [42], .str [32, 9]], .str [42]), ([.str [32, 34, 97, 34], .str [32, 9]], .str [34, 97, 34]), ([.str [48, 54], .str [48, 49, 50, 51, 52, 53, 54, 55, 56, 57]], .str []), ([.str [49, 57, 57, 52], .str [48, 49, 50, 51, 52, 53, 54, 55, 56, 57]], .str []), ([.str [48, 56], .str [48, 49, 50, 51, 52, 53, 54, 55, 56, 57]], .str []), ([.str [52, 57], .str [48, 49, 50, 51, 52, 53, 54, 55, 56, 57]], .str []), ([.str [51, 55], .str [48, 49, 50, 51, 52, 53, 54, 55, 56, 57]], .str []), ([.str [120], .str [32, 9]], .str [120])]
theorem a1_50Ok : AnsOk Tryz.prog 50 a1_50 := by
  intro e he
  simp only [a1_50, List.mem_cons, List.mem_nil_iff, or_false] at he
  rcases he with rfl | rfl | rfl | rfl | rfl | rfl | rfl | rfl | rfl | rfl | rfl
  · exact ⟨by kernel_rfl, by kernel_rfl, _, call0, evCallM_of_sev Vok q1_1_1⟩
  · exact ⟨by kernel_rfl, by kernel_rfl, _, call0, evCallM_of_sev Vok q1_1_2⟩
  · exact ⟨by kernel_rfl, by kernel_rfl, _, call0, evCallM_of_sev Vok q1_1_3⟩
  · exact ⟨by kernel_rfl, by kernel_rfl, _, call0, evCallM_of_sev Vok q1_1_4⟩
  · exact ⟨by kernel_rfl, by kernel_rfl, _, call0, evCallM_of_sev Vok q1_1_5⟩
  · exact ⟨by kernel_rfl, by kernel_rfl, _, call0, evCallM_of_sev Vok q1_1_9⟩
  · exact ⟨by kernel_rfl, by kernel_rfl, _, call0, evCallM_of_sev Vok q1_1_11⟩
  · exact ⟨by kernel_rfl, by kernel_rfl, _, call0, evCallM_of_sev Vok q1_1_13⟩
  · exact ⟨by kernel_rfl, by kernel_rfl, _, call0, evCallM_of_sev Vok q1_1_15⟩
  · exact ⟨by kernel_rfl, by kernel_rfl, _, call0, evCallM_of_sev Vok q1_1_17⟩
  · exact ⟨by kernel_rfl, by kernel_rfl, _, call0, evCallM_of_sev Vok q1_1_30⟩
def a1_65 : Ans := [([.str [48, 49, 50, 51, 52, 53, 54, 55, 56, 57]], .tuple [.agg [.bool false, .bool false, .bool false, .bool false, .bool false, .bool false, .bool false, .bool false, .bool false, .bool false, .bool false, .bool false, .bool false, .bool false, .bool false, .bool false, .bool false, .bool false, .bool false, .bool false, .bool false, .bool false, .bool false, .bool false, .bool false, .bool false, .bool false, .bool false, .bool false, .bool false, .bool false, .bool false, .bool false, .bool false, .bool false, .bool false, .bool false, .bool false, .bool false, .bool false, .bool false, .bool false, .bool false, .bool false, .bool false, .bool false, .bool false, .bool false, .bool true, .bool true, .bool true, .bool true, .bool true, .bool true, .bool true, .bool true, .bool true, .bool true, .bool false, .bool false, .bool false, .bool false, .bool false, .bool false, .bool false, .bool false, .bool false, .bool false, .bool false, .bool false, .bool false, .bool false, .bool false, .bool false, .bool false, .bool false, .bool false, .bool false, .bool false, .bool false, .bool false, .bool false, .bool false, .bool false, .bool false, .bool false, .bool false, .bool false, .bool false, .bool false, .bool false, .bool false, .bool false, .bool false, .bool false, .bool false, .bool false, .bool false, .bool false, .bool false, .bool false, .bool false, .bool false, .bool false, .bool false, .bool false, .bool false, .bool false, .bool false, .bool false, .bool false, .bool false, .bool false, .bool false, .bool false, .bool false, .bool false, .bool false, .bool false, .bool false, .bool false, .bool false, .bool false, .bool false, .bool false, .bool false, .bool false, .bool false, .bool false, .bool false, .bool false, .bool false, .bool false, .bool false, .bool false, .bool false, .bool false, .bool false, .bool false, .bool false, .bool false, .bool false, .bool false, .bool false, .bool false, .bool false, .bool false, .bool false, .bool false, .bool false, .bool false, .bool false, .bool false, .bool false, .bool false, .bool false, .bool false, .bool false, .bool false, .bool false, .bool false, .bool false, .bool false, .bool false, .bool false, .bool false, .bool false, .bool false, .bool false, .bool false, .bool false, .bool false, .bool false, .bool false, .bool false, .bool false, .bool false, .bool false, .bool false, .bool false, .bool false, .bool false, .bool false, .bool false, .bool false, .bool false, .bool false, .bool false, .bool false, .bool false, .bool false, .bool false, .bool false, .bool false, .bool false, .bool false, .bool false, .bool false, .bool false, .bool false, .bool false, .bool false, .bool false, .bool false, .bool false, .bool false, .bool false, .bool false, .bool false, .bool false, .bool false, .bool false, .bool false, .bool false, .bool false, .bool false, .bool false, .bool false, .bool false, .bool false, .bool false, .bool false, .bool false, .bool false, .bool false, .bool false, .bool false, .bool false, .bool false, .bool false, .bool false, .bool false, .bool false, .bool false, .bool false, .bool false, .bool false, .bool false, .bool false, .bool false, .bool false, .bool false, .bool false, .bool false, .bool false, .bool false, .bool false, .bool false, .bool false, .bool false, .bool false, .bool false, .bool false, .bool false, .bool false, .bool false], .bool true])]
theorem a1_65Ok : AnsOk Tryz.prog 65 a1_65 := by
  intro e he
  simp only [a1_65, List.mem_cons, List.mem_nil_iff, or_false] at he
  rcases he with rfl
  · exact ⟨by kernel_rfl, by kernel_rfl, _, call0, evCallM_of_sev Vok q1_1_8⟩
def a1_71 : Ans := [([.str [48, 54]], .tuple [.int .i64 (.ofNat 6), .int .i64 (.ofNat 0)]), ([.str [49, 57, 57, 52]], .tuple [.int .i64 (.ofNat 1994), .int .i64 (.ofNat 0)]), ([.str [48, 56]], .tuple [.int .i64 (.ofNat 8), .int .i64 (.ofNat 0)]), ([.str [52, 57]], .tuple [.int .i64 (.ofNat 49), .int .i64 (.ofNat 0)]), ([.str [51, 55]], .tuple [.int .i64 (.ofNat 37), .int .i64 (.ofNat 0)])]
theorem a1_71Ok : AnsOk Tryz.prog 71 a1_71 := by
  intro e he
  simp only [a1_71, List.mem_cons, List.mem_nil_iff, or_false] at he
  rcases he with rfl | rfl | rfl | rfl | rfl
  · exact ⟨by kernel_rfl, by kernel_rfl, _, call0, evCallM_of_sev Vok q1_1_10⟩
  · exact ⟨by kernel_rfl, by kernel_rfl, _, call0, evCallM_of_sev Vok q1_1_12⟩
  · exact ⟨by kernel_rfl, by kernel_rfl, _, call0, evCallM_of_sev Vok q1_1_14⟩
  · exact ⟨by kernel_rfl, by kernel_rfl, _, call0, evCallM_of_sev Vok q1_1_16⟩
  · exact ⟨by kernel_rfl, by kernel_rfl, _, call0, evCallM_of_sev Vok q1_1_18⟩
def a1_57 : Ans := [([.int .i64 (.ofNat 1994), .int .i64 (.ofNat 11), .int .i64 (.ofNat 6)], .tuple [.int .i64 (.ofNat 9075), .int .i64 (.ofNat 0)]), ([.int .i64 (.ofNat 1971), .int .i64 (.ofNat 1), .int .i64 (.ofNat 1)], .tuple [.int .i64 (.ofNat 365), .int .i64 (.ofNat 0)]), ([.int .i64 (.ofNat 1970), .int .i64 (.ofNat 1), .int .i64 (.ofNat 1)], .tuple [.int .i64 (.ofNat 0), .int .i64 (.ofNat 0)]), ([.int .i64 (.ofNat 1995), .int .i64 (.ofNat 1), .int .i64 (.ofNat 1)], .tuple [.int .i64 (.ofNat 9131), .int .i64 (.ofNat 0)]), ([.int .i64 (.ofNat 1994), .int .i64 (.ofNat 1), .int .i64 (.ofNat 1)], .tuple [.int .i64 (.ofNat 8766), .int .i64 (.ofNat 0)])]
theorem a1_57Ok : AnsOk Tryz.prog 57 a1_57 := by
  intro e he
  simp only [a1_57, List.mem_cons, List.mem_nil_iff, or_false] at he
  rcases he with rfl | rfl | rfl | rfl | rfl
  · exact ⟨by kernel_rfl, by kernel_rfl, _, call0, evCallM_of_sev Vok q1_1_19⟩
  · exact ⟨by kernel_rfl, by kernel_rfl, _, call0, evCallM_of_sev Vok q1_1_20⟩
  · exact ⟨by kernel_rfl, by kernel_rfl, _, call0, evCallM_of_sev Vok q1_1_21⟩
  · exact ⟨by kernel_rfl, by kernel_rfl, _, call0, evCallM_of_sev Vok q1_1_28⟩
  · exact ⟨by kernel_rfl, by kernel_rfl, _, call0, evCallM_of_sev Vok q1_1_29⟩
def a1_28 : Ans := [([.str [65], .str [65]], .bool true), ([.str [73, 102, 45, 78, 111, 110, 101, 45, 77, 97, 116, 99, 104], .str [73, 102, 45, 78, 111, 110, 101, 45, 77, 97, 116, 99, 104]], .bool true), ([.str [73, 102, 45, 77, 111, 100, 105, 102, 105, 101, 100, 45, 83, 105, 110, 99, 101], .str [73, 102, 45, 77, 111, 100, 105, 102, 105, 101, 100, 45, 83, 105, 110, 99, 101]], .bool true)]
theorem a1_28Ok : AnsOk Tryz.prog 28 a1_28 := by
  intro e he
  simp only [a1_28, List.mem_cons, List.mem_nil_iff, or_false] at he
  rcases he with rfl | rfl | rfl
  · exact ⟨by kernel_rfl, by kernel_rfl, _, call0, evCallM_of_sev Vok q1_1_31⟩
  · exact ⟨by kernel_rfl, by kernel_rfl, _, call0, evCallM_of_sev Vok q1_1_33⟩
  · exact ⟨by kernel_rfl, by kernel_rfl, _, call0, evCallM_of_sev Vok q1_1_35⟩
def a1_47 : Ans := [([.str [73, 102, 45, 78, 111, 110, 101, 45, 77, 97, 116, 99, 104]], .str [105, 102, 45, 110, 111, 110, 101, 45, 109, 97, 116, 99, 104]), ([.str [73, 102, 45, 77, 111, 100, 105, 102, 105, 101, 100, 45, 83, 105, 110, 99, 101]], .str [105, 102, 45, 109, 111, 100, 105, 102, 105, 101, 100, 45, 115, 105, 110, 99, 101])]
theorem a1_47Ok : AnsOk Tryz.prog 47 a1_47 := by
  intro e he
  simp only [a1_47, List.mem_cons, List.mem_nil_iff, or_false] at he
  rcases he with rfl | rfl
  · exact ⟨by kernel_rfl, by kernel_rfl, _, call0, evCallM_of_sev Vok q1_1_32⟩
  · exact ⟨by kernel_rfl, by kernel_rfl, _, call0, evCallM_of_sev Vok q1_1_34⟩
def T1 : List (Nat × Ans) := [(60, a1_60), (50, a1_50), (65, a1_65), (71, a1_71), (57, a1_57), (28, a1_28), (47, a1_47)]
theorem T1Ok : ∀ p ∈ T1, AnsOk Tryz.prog p.1 p.2 := by
  intro p hp
  simp only [T1, List.mem_cons, List.mem_nil_iff, or_false] at hp
  rcases hp with rfl | rfl | rfl | rfl | rfl | rfl | rfl
  · exact a1_60Ok
  · exact a1_50Ok
  · exact a1_65Ok
  · exact a1_71Ok
  · exact a1_57Ok
  · exact a1_28Ok
  · exact a1_47Ok
noncomputable def env1 : Env := ⟨Tryz.prog, orcP T1 env0.orc⟩
theorem env1Ok : CallOk env1.P env1.orc := orcP_ok T1Ok env0Ok
theorem call1 : CallOk Tryz.prog (evCallM env1 V (evM env1 V 400)) := callM_ok (E := env1) Vok names0 mixed0 env1Ok 400
end Go.Proofs.YtnflmiaaijcgkaaGreatDoor.etagNames

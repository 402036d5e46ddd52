/- What the law ReviseDrops calls is as it is told. -/
import Derived.Test.YtepohfmphgbknaaRdT
import Derived.Test.YtepohfmphgbknaaRdS
set_option linter.unusedSimpArgs false
set_option linter.unusedVariables false
namespace Go.Proofs.Ytepohfmphgbknaa
open Go Go.Ve
set_option maxRecDepth 20000
theorem livD_vc : HoldsD vLivD := by
  refine ⟨?_⟩
  rw [vLivD_eq]
  exact ⟨(), trivial, trivial, rfl, trivial⟩
theorem SC.oneD {V : VE} (hP : V.P.funcs.all (fun fn => !(fn.name == "runtime.NumGoroutine")) = true) (hm : V.P.follows .mixedOrders = true) (hS : SpecOk V.P V.sp) (hO : CallOk V.P V.orc) {md : List (Nat × DMode)} {k : Nat} {A : Anns} {hs : List (Nat × AV)} {f : FuncId} {args : List AV} {v : AV} (h : HoldsD (vcF V md k A hs f args [] (one v))) : SC V.P f args [] (fun v' H' => v' = v ∧ H' = []) := SC.one hP hm hS hO h.h
theorem livD_sc : SC Try.prog 4 [] [] (fun v' H' => v' = .bool true ∧ H' = []) := by
  have h : HoldsD vLivD := livD_vc
  unfold vLivD at h
  exact SC.oneD (V := VPl) names0 mixed0 noS_ok noO_ok h
theorem gLvD_ok : EntryOk Try.prog 4 (flatE gLvD) := by
  refine flatE_ok fun args b v hg hb => ?_
  unfold gLvD at hg
  split at hg
  · cases hg
    exact ⟨rfl, rfl, livD_sc⟩
  · cases hg
theorem TLw_ok : SpecOk Try.prog (tabS TLw noS) := by
  refine tabS_ok (fun p hp => ?_) noS_ok
  simp only [TLw, List.mem_cons, List.mem_nil_iff, or_false] at hp
  rcases hp with rfl | rfl | rfl | rfl
  · exact gLvD_ok
  · exact eFew_ok
  · exact eDr_ok
  · exact gPr_ok
theorem law_ok (m : Bs) (st : Int) (ho pa : Bs) (s : SlA (Bs × Bs)) (h : s.all.length ≤ 9223372036854775807) :
    SC Try.prog 3 [.str m, .int .i64 st, .str ho, .str pa, s.av 0] (s.blk (fun a => [.str a.1, .str a.2]) 0) fun v _ => v = .bool true := by
  match s, h with
  | .nil, _ =>
    refine (SC.ofF (V := VLw) names0 mixed0 TLw_ok noO_ok (lwN_vc m st ho pa)).mono fun v H h => ?_
    obtain ⟨_, _, h1, _⟩ := outE_one h
    exact h1
  | .zero, _ =>
    refine (SC.ofF (V := VLw) names0 mixed0 TLw_ok noO_ok (lwZ_vc m st ho pa)).mono fun v H h => ?_
    obtain ⟨_, _, h1, _⟩ := outE_one h
    exact h1
  | .at l r, h =>
    have h : (l ++ r).length ≤ 9223372036854775807 := h
    refine (SC.ofF (V := VLw) names0 mixed0 TLw_ok noO_ok (lw_vc m st ho pa l r 0 true (l.length + r.length) true (by rw [List.length_append] at h; omega))).mono fun v H h => ?_
    obtain ⟨_, _, h1, _⟩ := outE_one h
    exact h1
end Go.Proofs.Ytepohfmphgbknaa

/- The law ScoreFades of layer 23 returns true for any numbers; nothing that was there is changed. No conditions. -/
import Derived.Test.YtainjcpocodehaaRows
import Derived.Test.YtainjcpocodehaaScF
set_option linter.unusedSimpArgs false
set_option linter.unusedVariables false
namespace Go.Proofs.Ytainjcpocodehaa.scoreFades
open Go.Ve Go.ChangeShapes Go.WideShapes Go.ChangeAt Go.RowKit
set_option maxRecDepth 20000

theorem eLiv_ok : EntryOk Try.prog 10 (flatE gLiv) := by
  refine flatE_ok fun args b v hg hb => ?_
  unfold gLiv at hg
  split at hg
  · cases hg
    exact ⟨rfl, rfl, oneS (SC.ofF (V := VLv) names0 mixed0 TLv_ok noO_ok liv_vc.h)⟩
  · cases hg
theorem TSf_ok : SpecOk Try.prog (tabS TSf noS) := by
  refine tabS_ok (fun p hp => ?_) noS_ok
  simp only [TSf, List.mem_cons, List.mem_nil_iff, or_false] at hp
  rcases hp with rfl | rfl | rfl | rfl | rfl | rfl | rfl
  · exact eLiv_ok
  · exact gCmpF_ok
  · exact gChk_ok
  · exact gLoad_ok
  · exact gFade_ok
  · exact gAbs_ok
  · exact gSame_ok
theorem ints_flatMap (l : List Int) : l.flatMap (fun n => [AV.int .i32 n]) = ints l := by
  unfold ints
  induction l with
  | nil => rfl
  | cons a r ih => rw [List.flatMap_cons, ih]; rfl
theorem fact (x : Nat × Nat × Nat × SlA Int × Int × Nat × Unit) (h1 : x.1 < 2 ^ 64) (h2 : x.2.1 < 2 ^ 64) (h3 : x.2.2.1 < 2 ^ 64) (h4 : (∀ y ∈ x.2.2.2.1.all, (Lit.int .i32 y).wf = true) ∧ x.2.2.2.1.all.length ≤ maxLen) (h6 : x.2.2.2.2.2.1 < 2 ^ 64) :
    SC Try.prog 3 [.float .f64 x.1, .float .f64 x.2.1, .float .f64 x.2.2.1, x.2.2.2.1.av 0, .int .i64 x.2.2.2.2.1, .float .f64 x.2.2.2.2.2.1] (x.2.2.2.1.blk (fun n => [.int .i32 n]) 0) fun v _ => v = .bool true := by
  obtain ⟨a, b, c, s, o, w, _⟩ := x
  match s, h4 with
  | .nil, _ => exact (oneS (SC.ofF (V := VSf []) names0 mixed0 TSf_ok noO_ok (sfN_vc a b c o w h1 h2 h3 h6))).mono fun v H h => h.1
  | .zero, _ => exact (oneS (SC.ofF (V := VSf []) names0 mixed0 TSf_ok noO_ok (sfZ_vc a b c o w h1 h2 h3 h6))).mono fun v H h => h.1
  | .at l r, h4 =>
    show SC _ _ _ [ABlk.cells ((l ++ r).flatMap fun n => [AV.int .i32 n]) 0 true] _
    rw [ints_flatMap]
    refine (SC.ofF (V := VSf l) names0 mixed0 TSf_ok noO_ok (sf_vc l r 0 true _ true a b c o w h1 h2 h3 h6 fun z hz => ?_)).mono fun v H h => ?_
    · have := h4.1 z (List.mem_append_left _ hz)
      simp only [Lit.wf, Bool.and_eq_true, decide_eq_true_eq] at this
      have e1 : IntKind.i32.min = -2147483648 := by decide
      have e2 : IntKind.i32.max = 2147483647 := by decide
      rw [e1, e2] at this
      exact this
    · obtain ⟨_, _, h1, _⟩ := outE_one h
      exact h1

theorem own : ownKnob Try.prog.godebug = none := by kernel_rfl
theorem allNames : Try.prog.funcs.all (fun fn => !(fn.name == "runtime.NumGoroutine")) = true := by kernel_rfl
theorem mixed : Try.prog.follows .mixedOrders = true := by kernel_rfl

set_option maxHeartbeats 4000000 in
set_option maxRecDepth 100000 in
theorem lifted (os : Os) (started : os.Started) (H : Type) (enc : TypeId × Value → H) :
    ReturnsInHanded {} Try.checked os 3 .any (Rows.scoreFadesSpec.pre6 enc Try.prog Try.f3 Rows.scoreFadesRow.domain false) (Rows.scoreFadesSpec.post enc Try.prog Try.f3 false true false false) := by
  refine returnsInHanded_of_change (C := Try.checked) own started (by kernel_rfl) Try.func3
    (ChangeSpec.witness6 (enc := enc) (C := Try.checked) false ⟨#[], #[.float .f64 0, .float .f64 0, .float .f64 0, .slice none 0 0, .int .i64 0, .float .f64 0], []⟩ 8 (by kernel_rfl) (by kernel_rfl) (by kernel_rfl) (by kernel_rfl)) ?_
  intro W base args ds gs before hval hW hcnd _
  exact contract_of_sc (tb := 4) (by kernel_rfl) (by kernel_rfl) rfl Try.underlying4 rfl
    (fun ds h => match ds, h with | [_, _, _, _, _, _], _ => ⟨rfl, rfl, rfl⟩) (opensArgs_cons (t := 22) (b := false) (by kernel_rfl) (flat_float Try.underlying22).opens (opensArgs_cons (t := 22) (b := false) (by kernel_rfl) (flat_float Try.underlying22).opens (opensArgs_cons (t := 22) (b := false) (by kernel_rfl) (flat_float Try.underlying22).opens (opensArgs_cons (t := 23) (b := false) (by kernel_rfl) (opens_slice (e := 21) Try.underlying23 (of_decide_eq_true (by kernel_rfl)) (flat_int Try.underlying21) (fun _ => (by kernel_rfl : 1 = Try.prog.cellsOf 21)) 0) (opensArgs_cons (t := 3) (b := false) (by kernel_rfl) (flat_int Try.underlying3).opens (opensArgs_cons (t := 22) (b := false) (by kernel_rfl) (flat_float Try.underlying22).opens opensArgs_nil)))))) (fun x hx => (List.append_nil (x.2.2.2.1.blk (fun n => [AV.int .i32 n]) 0)).symm ▸ fact x hx.1 hx.2.1 hx.2.2.1 hx.2.2.2.1 hx.2.2.2.2.2.1) hval hW

theorem over : Rows.scoreFadesRow.holds Try.pinned (OpenSpec.ofChange Rows.scoreFadesSpec) :=
  OpenClaim.holds_of_wide 3 Try.f3 rfl rfl rfl rfl rfl rfl rfl ⟨rfl, rfl, rfl, rfl, rfl⟩ rfl rfl rfl rfl rfl (by kernel_rfl) Try.func3 (by kernel_rfl)
    (of_decide_eq_true (by kernel_rfl)) (by unfold Func.isWrapper; first | (rw [if_pos (by decide +kernel)]; kernel_rfl) | (rw [if_neg (by decide +kernel)]; exact ⟨rfl, rfl⟩))
    (fun os started H enc _ => lifted os started H enc)

/-- THE STATEMENT. -/
theorem proved : Rows.ScoreFadesSaid :=
  over
#print axioms proved
end Go.Proofs.Ytainjcpocodehaa.scoreFades

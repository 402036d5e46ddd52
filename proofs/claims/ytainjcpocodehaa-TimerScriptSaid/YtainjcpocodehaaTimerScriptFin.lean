/- The law TimerScript of layer 18 returns true for any limit and calls; nothing that was there is changed. No conditions. -/
import Derived.Test.YtainjcpocodehaaRows
import Derived.Test.YtainjcpocodehaaRfY
import Derived.Test.YtainjcpocodehaaRfV
import Derived.Test.YtainjcpocodehaaRfL
import Derived.Test.YtainjcpocodehaaRfH
import Derived.Test.YtainjcpocodehaaTmE
set_option linter.unusedSimpArgs false
set_option linter.unusedVariables false
namespace Go.Proofs.Ytainjcpocodehaa.timerScript
open Go.Ve Go.ChangeShapes Go.WideShapes Go.ChangeAt Go.RowKit
set_option maxRecDepth 20000
theorem Flat.turn {H : Type} {enc : TypeId × Value → H} {P : Program} {w : World} {t : TypeId} {α β : Type} {f : α → List AV} {G : α → Prop} (h : Flat enc P w t f G) (g : α → β) (f' : β → List AV) (G' : β → Prop) (hf : ∀ x, f x = f' (g x)) (hG : ∀ x, G x → G' (g x)) : Flat enc P w t f' G' := by
  intro fuel cs d ps hd
  obtain ⟨x, h1, h2⟩ := h fuel cs d ps hd
  exact ⟨g x, hG x h1, fun φ => by rw [← hf]; exact h2 φ⟩
set_option maxHeartbeats 4000000 in
set_option maxHeartbeats 4000000 in
set_option maxRecDepth 100000 in
theorem act_flat {H : Type} {enc : TypeId × Value → H} {w : World} : Flat enc Try.prog w 49 (fun a : Int × Int × Int => [.int .i64 a.1, .int .i64 a.2.1, .int .i64 a.2.2]) (fun _ => True) :=
  Flat.turn (flat_struct (n := 3) Try.underlying49 (flatFs_cons (n := 1) (flat_int Try.underlying3) (flatFs_cons (n := 1) (flat_int Try.underlying3) (flatFs_cons (n := 1) (flat_int Try.underlying2) (flatFs_nil 3))))) (fun x => (x.1, x.2.1, x.2.2.1)) (fun a : Int × Int × Int => [.int .i64 a.1, .int .i64 a.2.1, .int .i64 a.2.2]) (fun _ => True) (fun _ => rfl) (fun _ _ => trivial)
theorem TSk_ok : SpecOk Try.prog (tabS TSk noS) := by
  refine tabS_ok (fun p hp => ?_) noS_ok
  simp only [TSk, List.mem_cons, List.mem_nil_iff, or_false] at hp
  rcases hp with rfl | rfl | rfl | rfl | rfl | rfl | rfl | rfl | rfl | rfl | rfl | rfl | rfl | rfl | rfl | rfl
  · exact eLv_ok
  · exact eSet_ok
  · exact eCan_ok
  · exact eAt_ok
  · exact eNx_ok
  · exact eDue_ok
  · exact gPickN_ok
  · exact eSm_ok
  · exact eSmQ_ok
  · exact eRNx_ok
  · exact eRAt_ok
  · exact eRCan_ok
  · exact eRDu_ok
  · exact eRSe_ok
  · exact eNwT_ok
  · exact eNwR_ok
theorem TBk_ok : SpecOk Try.prog (tabS TBk noS) := by
  refine tabS_ok (fun p hp => ?_) noS_ok
  simp only [TBk, List.mem_cons, List.mem_nil_iff, or_false] at hp
  rcases hp with rfl | rfl | rfl
  · exact eLv_ok
  · exact eNwTB_ok
  · exact eNwRB_ok
theorem factN (most : Int) (hm : 0 ≤ most ∧ most ≤ 1048576) : SC Try.prog 9 [.int .i64 most, .nilsl] [] fun v _ => v = .bool true :=
  (oneS (SC.ofF (V := VSk) names0 mixed0 TSk_ok noO_ok (skN_vc most hm))).mono fun v H h => h.1
theorem factZ (most : Int) (hm : 0 ≤ most ∧ most ≤ 1048576) : SC Try.prog 9 [.int .i64 most, .slz] [] fun v _ => v = .bool true :=
  (oneS (SC.ofF (V := VSk) names0 mixed0 TSk_ok noO_ok (skZ_vc most hm))).mono fun v H h => h.1
theorem factNB (most : Int) (hm : ¬ (0 ≤ most ∧ most ≤ 1048576)) : SC Try.prog 9 [.int .i64 most, .nilsl] [] fun v _ => v = .bool true :=
  (oneS (SC.ofF (V := VBk) names0 mixed0 TBk_ok noO_ok (skNB_vc most hm))).mono fun v H h => h.1
theorem factZB (most : Int) (hm : ¬ (0 ≤ most ∧ most ≤ 1048576)) : SC Try.prog 9 [.int .i64 most, .slz] [] fun v _ => v = .bool true :=
  (oneS (SC.ofF (V := VBk) names0 mixed0 TBk_ok noO_ok (skZB_vc most hm))).mono fun v H h => h.1
theorem fact (x : Int × SlA (Int × Int × Int) × Unit) :
    SC Try.prog 9 [.int .i64 x.1, x.2.1.av 0] (x.2.1.blk (fun a => [AV.int .i64 a.1, .int .i64 a.2.1, .int .i64 a.2.2]) 0) fun v _ => v = .bool true := by
  obtain ⟨most, s, _⟩ := x
  by_cases hm : 0 ≤ most ∧ most ≤ 1048576
  · match s with
    | .nil => exact factN most hm
    | .zero => exact factZ most hm
    | .at l r =>
      refine (SC.ofF (V := VSk) names0 mixed0 TSk_ok noO_ok (sk_vc most l r 0 true _ true hm)).mono fun v H h => ?_
      obtain ⟨_, _, h1, _⟩ := outE_one h
      exact h1
  · match s with
    | .nil => exact factNB most hm
    | .zero => exact factZB most hm
    | .at l r =>
      refine (SC.ofF (V := VBk) names0 mixed0 TBk_ok noO_ok (skB_vc most l r 0 true _ true hm)).mono fun v H h => ?_
      obtain ⟨_, _, h1, _⟩ := outE_one h
      exact h1

theorem own : ownKnob Try.prog.godebug = none := by kernel_rfl
theorem allNames : Try.prog.funcs.all (fun fn => !(fn.name == "runtime.NumGoroutine")) = true := by kernel_rfl
theorem mixed : Try.prog.follows .mixedOrders = true := by kernel_rfl

set_option maxHeartbeats 4000000 in
set_option maxRecDepth 100000 in
theorem lifted (os : Os) (started : os.Started) (H : Type) (enc : TypeId × Value → H) :
    ReturnsInHanded {} Try.checked os 9 .any (Rows.timerScriptSpec.pre6 enc Try.prog Try.f9 Rows.timerScriptRow.domain false) (Rows.timerScriptSpec.post enc Try.prog Try.f9 false true false false) := by
  refine returnsInHanded_of_change (C := Try.checked) own started (by kernel_rfl) Try.func9
    (ChangeSpec.witness6 (enc := enc) (C := Try.checked) false ⟨#[], #[.int .i64 0, .slice none 0 0], []⟩ 8 (by kernel_rfl) (by kernel_rfl) (by kernel_rfl) (by kernel_rfl)) ?_
  intro W base args ds gs before hval hW hcnd _
  exact contract_of_sc (tb := 4) (by kernel_rfl) (by kernel_rfl) rfl Try.underlying4 rfl
    (fun ds h => match ds, h with | [_, _], _ => ⟨rfl, rfl, rfl⟩) (opensArgs_cons (t := 3) (b := false) (by kernel_rfl) (flat_int Try.underlying3).opens (opensArgs_cons (t := 43) (b := false) (by kernel_rfl) (opens_slice (e := 49) Try.underlying43 (of_decide_eq_true (by kernel_rfl)) act_flat (fun _ => (by kernel_rfl : 3 = Try.prog.cellsOf 49)) 0) opensArgs_nil)) (fun x hx => by have h := fact x; rw [← List.append_nil (x.2.1.blk (fun a => [AV.int .i64 a.1, .int .i64 a.2.1, .int .i64 a.2.2]) 0)] at h; exact h) hval hW

theorem over : Rows.timerScriptRow.holds Try.pinned (OpenSpec.ofChange Rows.timerScriptSpec) :=
  OpenClaim.holds_of_wide 9 Try.f9 rfl rfl rfl rfl rfl rfl rfl ⟨rfl, rfl, rfl, rfl, rfl⟩ rfl rfl rfl rfl rfl (by kernel_rfl) Try.func9 (by kernel_rfl)
    (of_decide_eq_true (by kernel_rfl)) (by unfold Func.isWrapper; first | (rw [if_pos (by decide +kernel)]; kernel_rfl) | (rw [if_neg (by decide +kernel)]; exact ⟨rfl, rfl⟩))
    (fun os started H enc _ => lifted os started H enc)

theorem proved : Rows.TimerScriptSaid :=
  over
#print axioms proved
end Go.Proofs.Ytainjcpocodehaa.timerScript

/- The evaluator with ranges over functions does what it says. -/
import Derived.Test.YtkgkbpfjdlnoeaaVeL2
namespace Go.Ve
open Go Go.RowKit

section
variable {E : Env} {V : VM}
theorem loopI_ok {md : RM} {b : Code} (hg : goodC md b = true) {ar : Option Nat} : ∀ (n : Nat), (∀ m, m < n → RecOkI E.P (evI E V m)) → ∀ fr H lo ds ex fr' H' lo' ds', evI E V n ar md (.loop b) fr H lo ds = some (ex, fr', H', lo', ds') → (lo' ≤ lo ∧ Keeps lo' H H') ∧
    ∀ (w0 : Base) (φ : List Loc) (w : World) (a : Act) (r0 : Option Nat) (Q : Exit → Act → World → Prop), ArR φ ar r0 → VRs φ fr a.tmps.toList → Marks φ ds a.defers → Rel w0 φ H w →
      (∀ φ' a' w', Ext φ φ' → VRs φ' fr' a'.tmps.toList → Marks φ' ds' a'.defers → Rel w0 φ' H' w' → Q ex.to a' w') → Code.roundsIn (wideR r0) 0 E.P b Q n a w := by
  intro n
  induction n with
  | zero => intro _ fr H lo ds ex fr' H' lo' ds' h; simp [evI] at h
  | succ n ih =>
    intro hall fr H lo ds ex fr' H' lo' ds' h
    simp only [evI] at h
    split at h
    · rename_i fr1 H1 lo1 ds1 he
      obtain ⟨⟨l1, k1⟩, w1⟩ := hall n (by omega) _ _ _ hg _ _ _ _ _ _ _ _ _ he
      obtain ⟨⟨l2, k2⟩, w2⟩ := ih (fun m hm => hall m (by omega)) _ _ _ _ _ _ _ _ _ h
      refine ⟨⟨by omega, (k1.mono l2).trans k2⟩, fun w0 φ w a r0 Q har ha hm hr hQ => ?_⟩
      rw [roundsIn_succ]
      exact w1 w0 φ w a r0 _ har ha hm hr fun φ' a' w' hx ha' hm' hr' => w2 w0 φ' w' a' r0 _ (har.mono hx) ha' hm' hr' fun φ2 a2 w2 hx2 => hQ φ2 a2 w2 (hx.trans hx2)
    · rename_i hne
      obtain ⟨k1, w1⟩ := hall n (by omega) _ _ _ hg _ _ _ _ _ _ _ _ _ h
      refine ⟨k1, fun w0 φ w a r0 Q har ha hm hr hQ => ?_⟩
      rw [roundsIn_succ]
      refine w1 w0 φ w a r0 _ har ha hm hr fun φ' a' w' hx ha' hm' hr' => ?_
      cases ex with
      | normal => exact absurd h (hne _ _ _ _)
      | exit id => exact hQ φ' a' w' hx ha' hm' hr'
      | ret => exact hQ φ' a' w' hx ha' hm' hr'
theorem evI_ok (hV : ∀ p ∈ V, goodF E.P p = true) (hP : E.P.funcs.all (fun fn => !(fn.name == "runtime.NumGoroutine")) = true) (hm0 : E.P.follows .mixedOrders = true) (hO : CallOk E.P E.orc) : ∀ n, RecOkI E.P (evI E V n) := by
  intro n
  induction n using Nat.strongRecOn with
  | _ n all =>
  cases n with
  | zero => intro ar m c hg fr H lo ds ex fr' H' lo' ds' h; simp [evI] at h
  | succ n =>
    have ih := all n (Nat.lt_succ_self n)
    have hC := callI_ok hV hO ih
    have hR := rndI_ok ih
    have hS : ∀ r, StOk E.P r (opStep E.P (callI E V (evI E V n)) (rndI (evI E V n))) := fun r => opStep_ok hP hC hR
    have hF : StFree (opStep E.P (callI E V (evI E V n)) (rndI (evI E V n))) := opStep_free
    intro ar m c hg fr H lo ds ex fr' H' lo' ds' h
    cases c with
    | skip =>
      simp only [evI] at h; cases h
      exact ⟨⟨Nat.le_refl _, Keeps.refl _ _⟩, fun w0 φ w a r0 Q har ha hm hr hQ => wpIn_skip (hQ φ a w (Ext.refl _) ha hm hr)⟩
    | label l =>
      simp only [evI] at h; cases h
      exact ⟨⟨Nat.le_refl _, Keeps.refl _ _⟩, fun w0 φ w a r0 Q har ha hm hr hQ => wpIn_label (hQ φ a w (Ext.refl _) ha hm hr)⟩
    | exit id =>
      simp only [evI] at h; cases h
      exact ⟨⟨Nat.le_refl _, Keeps.refl _ _⟩, fun w0 φ w a r0 Q har ha hm hr hQ => wpIn_exit (hQ φ a w (Ext.refl _) ha hm hr)⟩
    | ret =>
      simp only [evI] at h; cases h
      exact ⟨⟨Nat.le_refl _, Keeps.refl _ _⟩, fun w0 φ w a r0 Q har ha hm hr hQ => wpIn_ret (hQ φ a w (Ext.refl _) ha hm hr)⟩
    | region id ops draw =>
      cases draw with
      | false =>
        simp only [evI] at h
        split at h
        · rename_i fr1 H1 lo1 he
          cases h
          refine ⟨evOpsI_keeps (hS none) _ he, fun w0 φ w a r0 Q har ha hm hr hQ => wpIn_region_list (evOpsI_ok (hS r0) (D := a.defers) _ he ha rfl hr fun φ' a' w' hx ha' hd' hr' => hQ φ' a' w' hx ha' (hd' ▸ hm.mono hx) hr')⟩
        · cases h
      | true =>
        simp only [evI] at h
        split at h
        · rename_i fr1 H1 lo1 he
          cases h
          have hg' : okM ops (assoc .dyn m id) = true := hg
          revert hg' he
          generalize assoc Mode.dyn m id = md
          intro he hg'
          have chain : fwdB ops = true → nodupD ops.toList = true → evChainI (opStep E.P (callI E V (evI E V n)) (rndI (evI E V n))) ops fr H lo = some (fr', H', lo') → (lo' ≤ lo ∧ Keeps lo' H H') ∧
              ∀ (w0 : Base) (φ : List Loc) (w : World) (a : Act) (r0 : Option Nat) (Q : Exit → Act → World → Prop), ArR φ ar r0 → VRs φ fr a.tmps.toList → Marks φ ds a.defers → Rel w0 φ H w →
                (∀ φ' a' w', Ext φ φ' → VRs φ' fr' a'.tmps.toList → Marks φ' ds a'.defers → Rel w0 φ' H' w' → Q AEx.normal.to a' w') → (Code.region id ops true).wpIn (wideR r0) 0 E.P Q a w := fun hf hn hc =>
            ⟨evChainI_keeps (hS none) hF hf hn hc, fun w0 φ w a r0 Q har ha hm hr hQ => evChainI_ok hm0 (hS r0) hF hf hn (D := a.defers) hc ha rfl hr fun φ' a' w' hx ha' hd' hr' => hQ φ' a' w' hx ha' (hd' ▸ hm.mono hx) hr'⟩
          cases md with
          | dyn =>
            simp only [evDrawI] at he
            split at he
            · rename_i hst
              rw [Bool.and_eq_true] at hst
              exact chain hst.1 hst.2 he
            · cases he
          | chain hms ums =>
            simp only [evDrawI] at he
            simp only [okM, Bool.and_eq_true] at hg'
            exact chain hg'.1.1 hg'.1.2 he
          | gen k =>
            simp only [evDrawI] at he
            split at he
            · rw [← evGenS_eq hg'] at he
              refine ⟨evGen_keeps hC he, fun w0 φ w a r0 Q har ha hm hr hQ => ?_⟩
              obtain rfl : r0 = none := har
              have hd : a.defers = [] := hm
              exact (wpIn_wide (n := 0)).2 (evGen_ok hP hm0 hC he ha hd hr fun φ' a' w' hx ha' hd' hr' => hQ φ' a' w' hx ha' hd' hr')
            · cases he
        · cases h
    | seq x y =>
      simp only [goodC, Bool.and_eq_true] at hg
      simp only [evI] at h
      split at h
      · rename_i fr1 H1 lo1 ds1 he
        obtain ⟨⟨l1, k1⟩, w1⟩ := ih _ _ _ hg.1 _ _ _ _ _ _ _ _ _ he
        obtain ⟨⟨l2, k2⟩, w2⟩ := ih _ _ _ hg.2 _ _ _ _ _ _ _ _ _ h
        refine ⟨⟨by omega, (k1.mono l2).trans k2⟩, fun w0 φ w a r0 Q har ha hm hr hQ => wpIn_seq ?_⟩
        exact w1 w0 φ w a r0 _ har ha hm hr fun φ' a' w' hx ha' hm' hr' => w2 w0 φ' w' a' r0 _ (har.mono hx) ha' hm' hr' fun φ2 a2 w2 hx2 => hQ φ2 a2 w2 (hx.trans hx2)
      · rename_i hne
        obtain ⟨k1, w1⟩ := ih _ _ _ hg.1 _ _ _ _ _ _ _ _ _ h
        refine ⟨k1, fun w0 φ w a r0 Q har ha hm hr hQ => wpIn_seq ?_⟩
        refine w1 w0 φ w a r0 _ har ha hm hr fun φ' a' w' hx ha' hm' hr' => ?_
        cases ex with
        | normal => exact absurd h (hne _ _ _ _)
        | exit id => exact hQ φ' a' w' hx ha' hm' hr'
        | ret => exact hQ φ' a' w' hx ha' hm' hr'
    | cond c x y =>
      simp only [goodC, Bool.and_eq_true] at hg
      simp only [evI] at h
      split at h
      · rename_i hc
        obtain ⟨k1, w1⟩ := ih _ _ _ hg.1 _ _ _ _ _ _ _ _ _ h
        refine ⟨k1, fun w0 φ w a r0 Q har ha hm hr hQ => ?_⟩
        have hv := aeval_ok ha c
        rw [hc] at hv
        generalize hcu : a.eval c = cu at hv
        cases hv
        exact wpIn_cond_true hcu (w1 w0 φ w a r0 _ har ha hm hr hQ)
      · rename_i hc
        obtain ⟨k1, w1⟩ := ih _ _ _ hg.2 _ _ _ _ _ _ _ _ _ h
        refine ⟨k1, fun w0 φ w a r0 Q har ha hm hr hQ => ?_⟩
        have hv := aeval_ok ha c
        rw [hc] at hv
        generalize hcu : a.eval c = cu at hv
        cases hv
        exact wpIn_cond_false hcu (w1 w0 φ w a r0 _ har ha hm hr hQ)
      · cases h
    | block id b =>
      simp only [evI] at h
      split at h
      · rename_i i fr1 H1 lo1 ds1 he
        obtain ⟨k1, w1⟩ := ih _ _ _ (show goodC m b = true from hg) _ _ _ _ _ _ _ _ _ he
        split at h
        · rename_i hi
          cases h
          refine ⟨k1, fun w0 φ w a r0 Q har ha hm hr hQ => wpIn_block ?_⟩
          refine w1 w0 φ w a r0 _ har ha hm hr fun φ' a' w' hx ha' hm' hr' => ?_
          have := hQ φ' a' w' hx ha' hm' hr'
          simpa [Exit.inBlock, AEx.to, hi] using this
        · rename_i hi
          cases h
          refine ⟨k1, fun w0 φ w a r0 Q har ha hm hr hQ => wpIn_block ?_⟩
          refine w1 w0 φ w a r0 _ har ha hm hr fun φ' a' w' hx ha' hm' hr' => ?_
          have := hQ φ' a' w' hx ha' hm' hr'
          simpa [Exit.inBlock, AEx.to, hi] using this
      · rename_i hne
        obtain ⟨k1, w1⟩ := ih _ _ _ (show goodC m b = true from hg) _ _ _ _ _ _ _ _ _ h
        refine ⟨k1, fun w0 φ w a r0 Q har ha hm hr hQ => wpIn_block ?_⟩
        refine w1 w0 φ w a r0 _ har ha hm hr fun φ' a' w' hx ha' hm' hr' => ?_
        have := hQ φ' a' w' hx ha' hm' hr'
        cases ex with
        | normal => exact this
        | exit id => exact absurd h (hne _ _ _ _ _)
        | ret => exact this
    | loop b =>
      obtain ⟨k1, w1⟩ := loopI_ok (show goodC m b = true from hg) (n + 1) all _ _ _ _ _ _ _ _ _ h
      exact ⟨k1, fun w0 φ w a r0 Q har ha hm hr hQ => wpIn_loop_rounds (n + 1) (w1 w0 φ w a r0 Q har ha hm hr hQ)⟩
    | scope b =>
      simp only [evI] at h
      obtain ⟨k1, w1⟩ := ih _ _ _ (show goodC m b = true from hg) _ _ _ _ _ _ _ _ _ h
      refine ⟨k1, fun w0 φ w a r0 Q har ha hm hr hQ => wpIn_scope_straight ?_⟩
      refine w1 w0 φ w a r0 _ har ha hm hr fun φ' a' w' hx ha' hm' hr' => ?_
      have := hQ φ' a' w' hx ha' hm' hr'
      cases ex <;> exact this
    | rangeFunc f ps as bd =>
      simp only [evI] at h
      exact rfI_ok hP hC h
    | goto l => simp [evI] at h
    | refuse why => simp [evI] at h
end
end Go.Ve

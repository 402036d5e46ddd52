/- The evaluator: code and calls do what it says. -/
import Derived.Test.YtkgkbpfjdlnoeaaDoorVeH
import Derived.LoopN
namespace Go.Ve
open Go Go.RowKit

section
variable {P : Program} {w0 : Base} {w : World} {φ : List Loc} {H : AH}

def RecOk (P : Program) (rec : Code → List AV → AH → Nat → Option (AEx × List AV × AH × Nat)) : Prop :=
  ∀ c fr H lo ex fr' H' lo', rec c fr H lo = some (ex, fr', H', lo') → (lo' ≤ lo ∧ Keeps lo' H H') ∧
    ∀ (w0 : Base) (φ : List Loc) (w : World) (a : Act) (Q : Exit → Act → World → Prop), VRs φ fr a.tmps.toList → a.defers = [] → Rel w0 φ H w →
      (∀ φ' a' w', Ext φ φ' → VRs φ' fr' a'.tmps.toList → a'.defers = [] → Rel w0 φ' H' w' → Q ex.to a' w') → c.wp P Q a w

theorem aresults_ok (hr : Rel w0 φ H w) {fr : List AV} {tmps : Array Value} (ha : VRs φ fr tmps.toList) : ∀ {rs : List ResultVar} {vs : List AV}, aresults P fr H rs = some vs →
    ∃ us : List Value, VRs φ vs us ∧ (rs.mapM (m := Sem) fun | .tmp t => pure (tmps.getD t undef) | .cell a t => do loadVar t (← asAddr (tmps.getD a undef))).run P w = .ok us w
  | [], vs, h => by simp [aresults] at h; subst h; exact ⟨[], .nil, rfl⟩
  | r :: rs, vs, h => by
    simp only [aresults] at h
    split at h
    · rename_i v vs' hv hvs
      cases h
      obtain ⟨us, h1, h2⟩ := aresults_ok hr ha hvs
      cases r with
      | tmp t =>
        simp only [aresult] at hv
        cases hv
        refine ⟨tmps.getD t undef :: us, .cons ?_ h1, ?_⟩
        · rw [array_getD_toList]; exact ha.getD t (.tuple .nil)
        · simp only [List.mapM_cons, Sem.run_bind, Sem.run_pure, Result.andThen_ok, h2]
      | cell a t =>
        simp only [aresult] at hv
        have hp : VR φ (fr.getD a (.tuple [])) (tmps.getD a undef) := by rw [array_getD_toList]; exact ha.getD a (.tuple .nil)
        obtain ⟨ad, u, h3, h4, h5⟩ := aload_ok (P := P) hr hp hv
        refine ⟨u :: us, .cons h4 h1, ?_⟩
        have e1 : (asAddr (tmps.getD a undef)).run P w = .ok ad w := by rw [h3]; rfl
        simp only [List.mapM_cons, Sem.run_bind, e1, Sem.run_pure, Result.andThen_ok, h5, h2]
    · cases h

theorem results_ok (hr : Rel w0 φ H w) {fn : Func} {fr : List AV} {tmps : Array Value} (ha : VRs φ fr tmps.toList) {vs : List AV} (h : aresults P fr H fn.results.toList = some vs) :
    ∃ u, VR φ (oneOf vs) u ∧ (results fn tmps).run P w = .ok u w := by
  obtain ⟨us, h1, h2⟩ := aresults_ok (P := P) hr ha h
  have h3 := mapM_toList (P := P) _ fn.results w us h2
  refine ⟨if h : us.toArray.size = 1 then us.toArray[0] else .tuple us.toArray, ?_, ?_⟩
  · cases h1 with
    | nil => exact .tuple .nil
    | cons a as =>
      cases as with
      | nil => exact a
      | cons b bs =>
        rw [dif_neg (by simp)]
        exact .tuple (.cons a (.cons b bs))
  · unfold results
    rw [Sem.run_bind]
    exact Eq.trans (congrArg (fun r => Result.andThen r _) h3) rfl

theorem evCall_ok {E : Env} (hO : CallOk E.P E.orc) {rec : Code → List AV → AH → Nat → Option (AEx × List AV × AH × Nat)} (hR : RecOk E.P rec) : CallOk E.P (evCall E rec) := by
  intro f args H v ch h
  unfold evCall at h
  split at h
  · rename_i r ho
    cases h
    exact hO f args H v ch ho
  · split at h
    · cases h
    · rename_i fn hf
      split at h
      · cases h
      · rename_i c hb
        split at h
        · cases h
        · rename_i ex fr H' lo hne hrec
          obtain ⟨⟨hlo, hkeep⟩, hwp⟩ := hR _ _ _ _ _ _ _ _ hrec
          split at h
          · rename_i vs hvs
            have hcall : ∀ (R : Base → List Loc → World → Ending → World → Prop),
                (∀ w0 φ w u φ' w', Rel w0 φ H w → Ext φ φ' → VR φ' (oneOf vs) u → Rel w0 φ' H' w' → R w0 φ w (.returned u) w') →
                ∀ w0 φ w us, Rel w0 φ H w → VRs φ args us.toList → Calls E.P f us w (R w0 φ w) := by
              intro R hRR w0 φ w us hr hargs
              refine calls_of_wp hf hb ?_
              have hlen := hargs.length
              simp only [Array.length_toList] at hlen
              refine hwp w0 φ w _ _ ?_ rfl hr ?_
              · show VRs φ _ (us ++ Array.replicate (fn.ntmps - us.size) undef).toList
                rw [Array.toList_append, Array.toList_replicate, hlen]
                exact hargs.append (VRs.replicate _ (.tuple .nil))
              · intro φ' a' w' hx ha' hd' hr'
                obtain ⟨u, h1, h2⟩ := results_ok (P := E.P) hr' ha' hvs
                have hfin := hRR w0 φ w u φ' w' hr hx h1 hr'
                cases ex with
                | normal => exact ⟨hd', u, h2, hfin⟩
                | ret => exact ⟨hd', u, h2, hfin⟩
                | exit id => first | exact (hne _ rfl).elim | exact (hne _ _ rfl).elim
            split at h
            · rename_i hc
              obtain ⟨hc1, hc2⟩ := hc
              cases h
              refine ⟨?_, fun H'' lo'' hch => by cases hch⟩
              refine hcall (fun w0 φ w => CallPost w0 φ H (oneOf vs) none) ?_
              intro w0 φ w u φ' w' hr hx hv hr'
              subst hc1
              exact ⟨u, φ, rfl, Ext.refl _, VR.flat φ hc2 hv, rfl, hr.restrict hx hkeep hr'⟩
            · cases h
              refine ⟨?_, fun H'' lo'' hch => by cases hch; exact hkeep⟩
              refine hcall (fun w0 φ w => CallPost w0 φ H (oneOf vs) (some (H', lo))) ?_
              intro w0 φ w u φ' w' hr hx hv hr'
              exact ⟨u, φ', rfl, hx, hv, hr'⟩
          · cases h
        · cases h

theorem loop_ok {E : Env} {b : Code} : ∀ (n : Nat), (∀ m, m < n → RecOk E.P (ev E m)) → ∀ fr H lo ex fr' H' lo', ev E n (.loop b) fr H lo = some (ex, fr', H', lo') → (lo' ≤ lo ∧ Keeps lo' H H') ∧
    ∀ (w0 : Base) (φ : List Loc) (w : World) (a : Act) (Q : Exit → Act → World → Prop), VRs φ fr a.tmps.toList → a.defers = [] → Rel w0 φ H w →
      (∀ φ' a' w', Ext φ φ' → VRs φ' fr' a'.tmps.toList → a'.defers = [] → Rel w0 φ' H' w' → Q ex.to a' w') → Code.rounds E.P b Q n a w := by
  intro n
  induction n with
  | zero => intro _ fr H lo ex fr' H' lo' h; simp [ev] at h
  | succ n ih =>
    intro hall fr H lo ex fr' H' lo' h
    simp only [ev] at h
    split at h
    · rename_i fr1 H1 lo1 he
      obtain ⟨⟨l1, k1⟩, w1⟩ := hall n (by omega) _ _ _ _ _ _ _ _ he
      obtain ⟨⟨l2, k2⟩, w2⟩ := ih (fun m hm => hall m (by omega)) _ _ _ _ _ _ _ h
      refine ⟨⟨by omega, (k1.mono l2).trans k2⟩, fun w0 φ w ac Q ha hd hr hQ => ?_⟩
      rw [rounds_succ]
      exact w1 w0 φ w ac _ ha hd hr fun φ' a' w' hx ha' hd' hr' => w2 w0 φ' w' a' _ ha' hd' hr' fun φ2 a2 w2 hx2 => hQ φ2 a2 w2 (hx.trans hx2)
    · rename_i hne
      obtain ⟨k1, w1⟩ := hall n (by omega) _ _ _ _ _ _ _ _ h
      refine ⟨k1, fun w0 φ w ac Q ha hd hr hQ => ?_⟩
      rw [rounds_succ]
      refine w1 w0 φ w ac _ ha hd hr fun φ' a' w' hx ha' hd' hr' => ?_
      cases ex with
      | normal => exact absurd h (hne _ _ _)
      | exit id => exact hQ φ' a' w' hx ha' hd' hr'
      | ret => exact hQ φ' a' w' hx ha' hd' hr'

theorem ev_ok {E : Env} (hP : E.P.funcs.all (fun fn => !(fn.name == "runtime.NumGoroutine")) = true) (hm : E.P.follows .mixedOrders = true) (hO : CallOk E.P E.orc) : ∀ n, RecOk E.P (ev E n) := by
  intro n
  induction n using Nat.strongRecOn with
  | _ n all =>
  cases n with
  | zero => intro c fr H lo ex fr' H' lo' h; simp [ev] at h
  | succ n =>
    have ih := all n (Nat.lt_succ_self n)
    have hC := evCall_ok hO ih
    intro c fr H lo ex fr' H' lo' h
    cases c with
    | skip =>
      simp only [ev] at h; cases h
      exact ⟨⟨Nat.le_refl _, Keeps.refl _ _⟩, fun w0 φ w a Q ha hd hr hQ => wp_skip (hQ φ a w (Ext.refl _) ha hd hr)⟩
    | label l =>
      simp only [ev] at h; cases h
      exact ⟨⟨Nat.le_refl _, Keeps.refl _ _⟩, fun w0 φ w a Q ha hd hr hQ => wp_label (hQ φ a w (Ext.refl _) ha hd hr)⟩
    | region id ops draw =>
      cases draw with
      | false =>
        simp only [ev] at h
        split at h
        · rename_i fr1 H1 lo1 he
          cases h
          exact ⟨evOps_keeps hC _ he, fun w0 φ w a Q ha hd hr hQ => wp_region_list (evOps_ok hP hC _ he ha hd hr hQ)⟩
        · cases h
      | true =>
        simp only [ev] at h
        split at h
        · rename_i fr1 H1 lo1 he
          cases h
          unfold evDraw at he
          split at he
          · exact ⟨evGen_keeps hC he, fun w0 φ w a Q ha hd hr hQ => evGen_ok hP hm hC he ha hd hr hQ⟩
          · unfold evDraw0 at he
            split at he
            · rename_i fr2 hq
              cases he
              split at hq
              · rename_i hqb
                simp only [stillB, Bool.and_eq_true] at hqb
                refine ⟨⟨Nat.le_refl _, Keeps.refl _ _⟩, fun w0 φ w a Q ha hd hr hQ => ?_⟩
                exact wp_region_quiet (C := fun w' => Rel w0 φ H w') hm hqb.1 hr.drew
                  (evQuiet_ok (w := w) hP hC _ hq ha hd hr fun a' ha' hd' => fun w' hr' => hQ φ a' w' (Ext.refl _) ha' hd' hr')
              · cases hq
            · split at he
              · split at he
                · cases he
                · exact ⟨evGen_keeps hC he, fun w0 φ w a Q ha hd hr hQ => evGen_ok hP hm hC he ha hd hr hQ⟩
              · rename_i k hk
                have hk' : tailAt ops = some k := by
                  unfold tailQ at hk
                  split at hk
                  · rename_i k' hk'
                    split at hk
                    · cases hk
                    · cases hk; exact hk'
                  · cases hk
                have hB : Region.lexTailB .any ops k = true := by simpa using List.find?_some hk'
                split at he
                · cases he
                · rename_i fr2 hq
                  refine ⟨evOps_keeps hC _ he, fun w0 φ w a Q ha hd hr hQ => ?_⟩
                  exact wp_region_quiet_tail (C := fun w' => Rel w0 φ H w') k hm hB hr.drew
                    (evQuiet_ok (w := w) hP hC _ hq ha hd hr fun a' ha' hd' => fun w' hr' => evOps_ok hP hC _ he ha' hd' hr' hQ)
        · cases h
    | seq a b =>
      simp only [ev] at h
      split at h
      · rename_i fr1 H1 lo1 he
        obtain ⟨⟨l1, k1⟩, w1⟩ := ih _ _ _ _ _ _ _ _ he
        obtain ⟨⟨l2, k2⟩, w2⟩ := ih _ _ _ _ _ _ _ _ h
        refine ⟨⟨by omega, (k1.mono l2).trans k2⟩, fun w0 φ w ac Q ha hd hr hQ => wp_seq ?_⟩
        exact w1 w0 φ w ac _ ha hd hr fun φ' a' w' hx ha' hd' hr' => w2 w0 φ' w' a' _ ha' hd' hr' fun φ2 a2 w2 hx2 => hQ φ2 a2 w2 (hx.trans hx2)
      · rename_i hne
        obtain ⟨k1, w1⟩ := ih _ _ _ _ _ _ _ _ h
        refine ⟨k1, fun w0 φ w ac Q ha hd hr hQ => wp_seq ?_⟩
        refine w1 w0 φ w ac _ ha hd hr fun φ' a' w' hx ha' hd' hr' => ?_
        cases ex with
        | normal => exact absurd h (hne _ _ _)
        | exit id => exact hQ φ' a' w' hx ha' hd' hr'
        | ret => exact hQ φ' a' w' hx ha' hd' hr'
    | cond c x y =>
      simp only [ev] at h
      split at h
      · rename_i hc
        obtain ⟨k1, w1⟩ := ih _ _ _ _ _ _ _ _ h
        refine ⟨k1, fun w0 φ w ac Q ha hd hr hQ => ?_⟩
        have hv := aeval_ok ha c
        rw [hc] at hv
        generalize hcu : ac.eval c = cu at hv
        cases hv
        exact wp_cond_true hcu (w1 w0 φ w ac _ ha hd hr hQ)
      · rename_i hc
        obtain ⟨k1, w1⟩ := ih _ _ _ _ _ _ _ _ h
        refine ⟨k1, fun w0 φ w ac Q ha hd hr hQ => ?_⟩
        have hv := aeval_ok ha c
        rw [hc] at hv
        generalize hcu : ac.eval c = cu at hv
        cases hv
        exact wp_cond_false hcu (w1 w0 φ w ac _ ha hd hr hQ)
      · cases h
    | block id b =>
      simp only [ev] at h
      split at h
      · rename_i i fr1 H1 lo1 he
        obtain ⟨k1, w1⟩ := ih _ _ _ _ _ _ _ _ he
        split at h
        · rename_i hi
          cases h
          refine ⟨k1, fun w0 φ w ac Q ha hd hr hQ => wp_block ?_⟩
          refine w1 w0 φ w ac _ ha hd hr fun φ' a' w' hx ha' hd' hr' => ?_
          have := hQ φ' a' w' hx ha' hd' hr'
          simpa [Exit.inBlock, AEx.to, hi] using this
        · rename_i hi
          cases h
          refine ⟨k1, fun w0 φ w ac Q ha hd hr hQ => wp_block ?_⟩
          refine w1 w0 φ w ac _ ha hd hr fun φ' a' w' hx ha' hd' hr' => ?_
          have := hQ φ' a' w' hx ha' hd' hr'
          simpa [Exit.inBlock, AEx.to, hi] using this
      · rename_i hne
        obtain ⟨k1, w1⟩ := ih _ _ _ _ _ _ _ _ h
        refine ⟨k1, fun w0 φ w ac Q ha hd hr hQ => wp_block ?_⟩
        refine w1 w0 φ w ac _ ha hd hr fun φ' a' w' hx ha' hd' hr' => ?_
        have := hQ φ' a' w' hx ha' hd' hr'
        cases ex with
        | normal => exact this
        | exit id => exact absurd h (hne _ _ _ _)
        | ret => exact this
    | loop b =>
      obtain ⟨k1, w1⟩ := loop_ok (n + 1) all _ _ _ _ _ _ _ h
      exact ⟨k1, fun w0 φ w ac Q ha hd hr hQ => wp_loop_rounds (n + 1) (w1 w0 φ w ac Q ha hd hr hQ)⟩
    | exit id =>
      simp only [ev] at h; cases h
      exact ⟨⟨Nat.le_refl _, Keeps.refl _ _⟩, fun w0 φ w a Q ha hd hr hQ => wp_exit (hQ φ a w (Ext.refl _) ha hd hr)⟩
    | ret =>
      simp only [ev] at h; cases h
      exact ⟨⟨Nat.le_refl _, Keeps.refl _ _⟩, fun w0 φ w a Q ha hd hr hQ => wp_ret (hQ φ a w (Ext.refl _) ha hd hr)⟩
    | scope b =>
      simp only [ev] at h
      obtain ⟨k1, w1⟩ := ih _ _ _ _ _ _ _ _ h
      refine ⟨k1, fun w0 φ w ac Q ha hd hr hQ => wp_scope_straight ?_⟩
      refine w1 w0 φ w ac _ ha hd hr fun φ' a' w' hx ha' hd' hr' => ?_
      have := hQ φ' a' w' hx ha' hd' hr'
      cases ex <;> exact this
    | rangeFunc f ps as b => simp [ev] at h
    | goto l => simp [ev] at h
    | refuse why => simp [ev] at h
end
end Go.Ve

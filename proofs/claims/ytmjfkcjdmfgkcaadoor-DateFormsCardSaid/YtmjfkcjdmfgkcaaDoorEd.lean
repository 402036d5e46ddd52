/- The evaluator: code and calls do what it says. -/
import Derived.Test.YtmjfkcjdmfgkcaaDoorEc
import Derived.LoopN
import Derived.ProofKit
import Derived.OpenShut
import Derived.ShutString
import Derived.Below
import Derived.ChangeSame
import Derived.Carry
import Derived.WideKeyArgs
import Derived.IntWalk
import Derived.RangeFuncNested
namespace Go.Ve
open Go Go.RowKit

section
variable {P : Program} {w0 : Base} {w : World} {φ : List Loc} {H : AH}

def RecOk (P : Program) (rec : Code → List AV → AH → Nat → Option (AEx × List AV × AH × Nat)) : Prop :=
  ∀ c fr H lo ex fr' H' lo', rec c fr H lo = some (ex, fr', H', lo') → (lo' ≤ lo ∧ Keeps lo' H H') ∧
    ∀ (w0 : Base) (φ : List Loc) (w : World) (a : Act) (Q : Exit → Act → World → Prop), VRs φ fr a.tmps.toList → a.defers = [] → Rel w0 φ H w →
      (∀ φ' a' w', Ext φ φ' → VRs φ' fr' a'.tmps.toList → a'.defers = [] → Rel w0 φ' H' w' → Q ex.to a' w') → c.wp P Q a w

theorem aresults_ok (hr : Rel w0 φ H w) {fr : List AV} {tmps : Array Value} (ha : VRs φ fr tmps.toList) : ∀ {rs : List ResultVar} {vs : List AV}, aresults P fr H rs = some vs →
    ∃ us : List Value, VRs φ vs us ∧ (rs.mapM (m := Sem) fun | .tmp t => pure (tmps.getD t undef) | .cell a t => do loadVar t (← asAddr (tmps.getD a undef))).run P w = .ok us w
  | [], vs, h => by simp [aresults] at h; subst h; exact ⟨[], .nil, rfl⟩
  | r :: rs, vs, h => by
    simp only [aresults] at h
    split at h
    · rename_i v vs' hv hvs
      cases h
      obtain ⟨us, h1, h2⟩ := aresults_ok hr ha hvs
      cases r with
      | tmp t =>
        simp only [aresult] at hv
        cases hv
        refine ⟨tmps.getD t undef :: us, .cons ?_ h1, ?_⟩
        · rw [array_getD_toList]; exact ha.getD t (.tuple .nil)
        · simp only [List.mapM_cons, Sem.run_bind, Sem.run_pure, Result.andThen_ok, h2]
      | cell a t =>
        simp only [aresult] at hv
        have hp : VR φ (fr.getD a (.tuple [])) (tmps.getD a undef) := by rw [array_getD_toList]; exact ha.getD a (.tuple .nil)
        obtain ⟨ad, u, h3, h4, h5⟩ := aload_ok (P := P) hr hp hv
        refine ⟨u :: us, .cons h4 h1, ?_⟩
        have e1 : (asAddr (tmps.getD a undef)).run P w = .ok ad w := by rw [h3]; rfl
        simp only [List.mapM_cons, Sem.run_bind, e1, Sem.run_pure, Result.andThen_ok, h5, h2]
    · cases h

theorem results_ok (hr : Rel w0 φ H w) {fn : Func} {fr : List AV} {tmps : Array Value} (ha : VRs φ fr tmps.toList) {vs : List AV} (h : aresults P fr H fn.results.toList = some vs) :
    ∃ u, VR φ (oneOf vs) u ∧ (results fn tmps).run P w = .ok u w := by
  obtain ⟨us, h1, h2⟩ := aresults_ok (P := P) hr ha h
  have h3 := mapM_toList (P := P) _ fn.results w us h2
  refine ⟨if h : us.toArray.size = 1 then us.toArray[0] else .tuple us.toArray, ?_, ?_⟩
  · cases h1 with
    | nil => exact .tuple .nil
    | cons a as =>
      cases as with
      | nil => exact a
      | cons b bs =>
        rw [dif_neg (by simp)]
        exact .tuple (.cons a (.cons b bs))
  · unfold results
    rw [Sem.run_bind]
    exact Eq.trans (congrArg (fun r => Result.andThen r _) h3) rfl

theorem evCall_ok {E : Env} (hO : CallOk E.P E.orc) {rec : Code → List AV → AH → Nat → Option (AEx × List AV × AH × Nat)} (hR : RecOk E.P rec) : CallOk E.P (evCall E rec) := by
  intro f args H v ch h
  unfold evCall at h
  split at h
  · rename_i r ho
    cases h
    exact hO f args H v ch ho
  · split at h
    · cases h
    · rename_i fn hf
      split at h
      · cases h
      · rename_i c hb
        split at h
        · cases h
        · rename_i ex fr H' lo hne hrec
          obtain ⟨⟨hlo, hkeep⟩, hwp⟩ := hR _ _ _ _ _ _ _ _ hrec
          split at h
          · rename_i vs hvs
            have hcall : ∀ (R : Base → List Loc → World → Ending → World → Prop),
                (∀ w0 φ w u φ' w', Rel w0 φ H w → Ext φ φ' → VR φ' (oneOf vs) u → Rel w0 φ' H' w' → R w0 φ w (.returned u) w') →
                ∀ w0 φ w us, Rel w0 φ H w → VRs φ args us.toList → Calls E.P f us w (R w0 φ w) := by
              intro R hRR w0 φ w us hr hargs
              refine calls_of_wp hf hb ?_
              have hlen := hargs.length
              simp only [Array.length_toList] at hlen
              refine hwp w0 φ w _ _ ?_ rfl hr ?_
              · show VRs φ _ (us ++ Array.replicate (fn.ntmps - us.size) undef).toList
                rw [Array.toList_append, Array.toList_replicate, hlen]
                exact hargs.append (VRs.replicate _ (.tuple .nil))
              · intro φ' a' w' hx ha' hd' hr'
                obtain ⟨u, h1, h2⟩ := results_ok (P := E.P) hr' ha' hvs
                have hfin := hRR w0 φ w u φ' w' hr hx h1 hr'
                cases ex with
                | normal => exact ⟨hd', u, h2, hfin⟩
                | ret => exact ⟨hd', u, h2, hfin⟩
                | exit id => first | exact (hne _ rfl).elim | exact (hne _ _ rfl).elim
            split at h
            · rename_i hc
              obtain ⟨hc1, hc2⟩ := hc
              cases h
              refine ⟨?_, fun H'' lo'' hch => by cases hch⟩
              refine hcall (fun w0 φ w => CallPost w0 φ H (oneOf vs) none) ?_
              intro w0 φ w u φ' w' hr hx hv hr'
              subst hc1
              exact ⟨u, φ, rfl, Ext.refl _, VR.flat φ hc2 hv, rfl, hr.restrict hx hkeep hr'⟩
            · cases h
              refine ⟨?_, fun H'' lo'' hch => by cases hch; exact hkeep⟩
              refine hcall (fun w0 φ w => CallPost w0 φ H (oneOf vs) (some (H', lo))) ?_
              intro w0 φ w u φ' w' hr hx hv hr'
              exact ⟨u, φ', rfl, hx, hv, hr'⟩
          · cases h
        · cases h

theorem loop_ok {E : Env} {b : Code} : ∀ (n : Nat), (∀ m, m < n → RecOk E.P (ev E m)) → ∀ fr H lo ex fr' H' lo', ev E n (.loop b) fr H lo = some (ex, fr', H', lo') → (lo' ≤ lo ∧ Keeps lo' H H') ∧
    ∀ (w0 : Base) (φ : List Loc) (w : World) (a : Act) (Q : Exit → Act → World → Prop), VRs φ fr a.tmps.toList → a.defers = [] → Rel w0 φ H w →
      (∀ φ' a' w', Ext φ φ' → VRs φ' fr' a'.tmps.toList → a'.defers = [] → Rel w0 φ' H' w' → Q ex.to a' w') → Code.rounds E.P b Q n a w := by
  intro n
  induction n with
  | zero => intro _ fr H lo ex fr' H' lo' h; simp [ev] at h
  | succ n ih =>
    intro hall fr H lo ex fr' H' lo' h
    simp only [ev] at h
    split at h
    · rename_i fr1 H1 lo1 he
      obtain ⟨⟨l1, k1⟩, w1⟩ := hall n (by omega) _ _ _ _ _ _ _ _ he
      obtain ⟨⟨l2, k2⟩, w2⟩ := ih (fun m hm => hall m (by omega)) _ _ _ _ _ _ _ h
      refine ⟨⟨by omega, (k1.mono l2).trans k2⟩, fun w0 φ w ac Q ha hd hr hQ => ?_⟩
      rw [rounds_succ]
      exact w1 w0 φ w ac _ ha hd hr fun φ' a' w' hx ha' hd' hr' => w2 w0 φ' w' a' _ ha' hd' hr' fun φ2 a2 w2 hx2 => hQ φ2 a2 w2 (hx.trans hx2)
    · rename_i hne
      obtain ⟨k1, w1⟩ := hall n (by omega) _ _ _ _ _ _ _ _ h
      refine ⟨k1, fun w0 φ w ac Q ha hd hr hQ => ?_⟩
      rw [rounds_succ]
      refine w1 w0 φ w ac _ ha hd hr fun φ' a' w' hx ha' hd' hr' => ?_
      cases ex with
      | normal => exact absurd h (hne _ _ _)
      | exit id => exact hQ φ' a' w' hx ha' hd' hr'
      | ret => exact hQ φ' a' w' hx ha' hd' hr'

theorem ev_ok {E : Env} (hP : E.P.funcs.all (fun fn => !(fn.name == "runtime.NumGoroutine")) = true) (hm : E.P.follows .mixedOrders = true) (hO : CallOk E.P E.orc) : ∀ n, RecOk E.P (ev E n) := by
  intro n
  induction n using Nat.strongRecOn with
  | _ n all =>
  cases n with
  | zero => intro c fr H lo ex fr' H' lo' h; simp [ev] at h
  | succ n =>
    have ih := all n (Nat.lt_succ_self n)
    have hC := evCall_ok hO ih
    intro c fr H lo ex fr' H' lo' h
    cases c with
    | skip =>
      simp only [ev] at h; cases h
      exact ⟨⟨Nat.le_refl _, Keeps.refl _ _⟩, fun w0 φ w a Q ha hd hr hQ => wp_skip (hQ φ a w (Ext.refl _) ha hd hr)⟩
    | label l =>
      simp only [ev] at h; cases h
      exact ⟨⟨Nat.le_refl _, Keeps.refl _ _⟩, fun w0 φ w a Q ha hd hr hQ => wp_label (hQ φ a w (Ext.refl _) ha hd hr)⟩
    | region id ops draw =>
      cases draw with
      | false =>
        simp only [ev] at h
        split at h
        · rename_i fr1 H1 lo1 he
          cases h
          exact ⟨evOps_keeps hC _ he, fun w0 φ w a Q ha hd hr hQ => wp_region_list (evOps_ok hP hC _ he ha hd hr hQ)⟩
        · cases h
      | true =>
        simp only [ev] at h
        split at h
        · rename_i fr1 H1 lo1 he
          cases h
          unfold evDraw at he
          split at he
          · exact ⟨evGen_keeps hC he, fun w0 φ w a Q ha hd hr hQ => evGen_ok hP hm hC he ha hd hr hQ⟩
          · unfold evDraw0 at he
            split at he
            · rename_i fr2 hq
              cases he
              split at hq
              · rename_i hqb
                simp only [stillB, Bool.and_eq_true] at hqb
                refine ⟨⟨Nat.le_refl _, Keeps.refl _ _⟩, fun w0 φ w a Q ha hd hr hQ => ?_⟩
                exact wp_region_quiet (C := fun w' => Rel w0 φ H w') hm hqb.1 hr.drew
                  (evQuiet_ok (w := w) hP hC _ hq ha hd hr fun a' ha' hd' => fun w' hr' => hQ φ a' w' (Ext.refl _) ha' hd' hr')
              · cases hq
            · split at he
              · split at he
                · cases he
                · exact ⟨evGen_keeps hC he, fun w0 φ w a Q ha hd hr hQ => evGen_ok hP hm hC he ha hd hr hQ⟩
              · rename_i k hk
                have hk' : tailAt ops = some k := by
                  unfold tailQ at hk
                  split at hk
                  · rename_i k' hk'
                    split at hk
                    · cases hk
                    · cases hk; exact hk'
                  · cases hk
                have hB : Region.lexTailB .any ops k = true := by simpa using List.find?_some hk'
                split at he
                · cases he
                · rename_i fr2 hq
                  refine ⟨evOps_keeps hC _ he, fun w0 φ w a Q ha hd hr hQ => ?_⟩
                  exact wp_region_quiet_tail (C := fun w' => Rel w0 φ H w') k hm hB hr.drew
                    (evQuiet_ok (w := w) hP hC _ hq ha hd hr fun a' ha' hd' => fun w' hr' => evOps_ok hP hC _ he ha' hd' hr' hQ)
        · cases h
    | seq a b =>
      simp only [ev] at h
      split at h
      · rename_i fr1 H1 lo1 he
        obtain ⟨⟨l1, k1⟩, w1⟩ := ih _ _ _ _ _ _ _ _ he
        obtain ⟨⟨l2, k2⟩, w2⟩ := ih _ _ _ _ _ _ _ _ h
        refine ⟨⟨by omega, (k1.mono l2).trans k2⟩, fun w0 φ w ac Q ha hd hr hQ => wp_seq ?_⟩
        exact w1 w0 φ w ac _ ha hd hr fun φ' a' w' hx ha' hd' hr' => w2 w0 φ' w' a' _ ha' hd' hr' fun φ2 a2 w2 hx2 => hQ φ2 a2 w2 (hx.trans hx2)
      · rename_i hne
        obtain ⟨k1, w1⟩ := ih _ _ _ _ _ _ _ _ h
        refine ⟨k1, fun w0 φ w ac Q ha hd hr hQ => wp_seq ?_⟩
        refine w1 w0 φ w ac _ ha hd hr fun φ' a' w' hx ha' hd' hr' => ?_
        cases ex with
        | normal => exact absurd h (hne _ _ _)
        | exit id => exact hQ φ' a' w' hx ha' hd' hr'
        | ret => exact hQ φ' a' w' hx ha' hd' hr'
    | cond c x y =>
      simp only [ev] at h
      split at h
      · rename_i hc
        obtain ⟨k1, w1⟩ := ih _ _ _ _ _ _ _ _ h
        refine ⟨k1, fun w0 φ w ac Q ha hd hr hQ => ?_⟩
        have hv := aeval_ok ha c
        rw [hc] at hv
        generalize hcu : ac.eval c = cu at hv
        cases hv
        exact wp_cond_true hcu (w1 w0 φ w ac _ ha hd hr hQ)
      · rename_i hc
        obtain ⟨k1, w1⟩ := ih _ _ _ _ _ _ _ _ h
        refine ⟨k1, fun w0 φ w ac Q ha hd hr hQ => ?_⟩
        have hv := aeval_ok ha c
        rw [hc] at hv
        generalize hcu : ac.eval c = cu at hv
        cases hv
        exact wp_cond_false hcu (w1 w0 φ w ac _ ha hd hr hQ)
      · cases h
    | block id b =>
      simp only [ev] at h
      split at h
      · rename_i i fr1 H1 lo1 he
        obtain ⟨k1, w1⟩ := ih _ _ _ _ _ _ _ _ he
        split at h
        · rename_i hi
          cases h
          refine ⟨k1, fun w0 φ w ac Q ha hd hr hQ => wp_block ?_⟩
          refine w1 w0 φ w ac _ ha hd hr fun φ' a' w' hx ha' hd' hr' => ?_
          have := hQ φ' a' w' hx ha' hd' hr'
          simpa [Exit.inBlock, AEx.to, hi] using this
        · rename_i hi
          cases h
          refine ⟨k1, fun w0 φ w ac Q ha hd hr hQ => wp_block ?_⟩
          refine w1 w0 φ w ac _ ha hd hr fun φ' a' w' hx ha' hd' hr' => ?_
          have := hQ φ' a' w' hx ha' hd' hr'
          simpa [Exit.inBlock, AEx.to, hi] using this
      · rename_i hne
        obtain ⟨k1, w1⟩ := ih _ _ _ _ _ _ _ _ h
        refine ⟨k1, fun w0 φ w ac Q ha hd hr hQ => wp_block ?_⟩
        refine w1 w0 φ w ac _ ha hd hr fun φ' a' w' hx ha' hd' hr' => ?_
        have := hQ φ' a' w' hx ha' hd' hr'
        cases ex with
        | normal => exact this
        | exit id => exact absurd h (hne _ _ _ _)
        | ret => exact this
    | loop b =>
      obtain ⟨k1, w1⟩ := loop_ok (n + 1) all _ _ _ _ _ _ _ h
      exact ⟨k1, fun w0 φ w ac Q ha hd hr hQ => wp_loop_rounds (n + 1) (w1 w0 φ w ac Q ha hd hr hQ)⟩
    | exit id =>
      simp only [ev] at h; cases h
      exact ⟨⟨Nat.le_refl _, Keeps.refl _ _⟩, fun w0 φ w a Q ha hd hr hQ => wp_exit (hQ φ a w (Ext.refl _) ha hd hr)⟩
    | ret =>
      simp only [ev] at h; cases h
      exact ⟨⟨Nat.le_refl _, Keeps.refl _ _⟩, fun w0 φ w a Q ha hd hr hQ => wp_ret (hQ φ a w (Ext.refl _) ha hd hr)⟩
    | scope b =>
      simp only [ev] at h
      obtain ⟨k1, w1⟩ := ih _ _ _ _ _ _ _ _ h
      refine ⟨k1, fun w0 φ w ac Q ha hd hr hQ => wp_scope_straight ?_⟩
      refine w1 w0 φ w ac _ ha hd hr fun φ' a' w' hx ha' hd' hr' => ?_
      have := hQ φ' a' w' hx ha' hd' hr'
      cases ex <;> exact this
    | rangeFunc f ps as b => simp [ev] at h
    | goto l => simp [ev] at h
    | refuse why => simp [ev] at h
end
end Go.Ve

namespace Go.Ve
open Go Go.RowKit Go.WideShapes Go.ChangeShapes

section
variable {H : Type} {enc : TypeId × Value → H} {P : Program}

/-- The row's last step where the world is known below its old size alone. -/
theorem post_of_below {f : Func} {s : ChangeSpec} {apart fresh handsOn again : Bool} {W W' : World} {args : Array Value} {v : Value} {ds gs : List (DataW H)} {before pa pv : List MemPlace}
    (hW : DataW.Whole enc P f.params.toList s.vars apart W args.toList ds gs before)
    (hres : ∀ (b : Nat) (sp : Nat → Bool) (hd : Bool), DataW.TrodAll enc P W' b sp hd f.resultTypes.toList (v.resultList f.resultTypes.size) (s.fn H (ds ++ gs)).results [])
    (hargs : ∀ sp : Nat → Bool, (∀ p ∈ before, sp p.block = true) → DataW.TrodAll enc P W' 0 sp true f.params.toList args.toList (s.fn H (ds ++ gs)).args pa)
    (hvars : ∀ sp : Nat → Bool, (∀ p ∈ before, sp p.block = true) → DataW.TrodVars enc P W' sp s.vars (s.fn H (ds ++ gs)).vars pv)
    (hps : before = pa ++ pv) (hb : Below W.heap.size W W')
    (hok : ∀ (j : Nat) (t : TypeId) (r : Value), f.resultTypes[j]? = some t → (v.resultList f.resultTypes.size)[j]? = some r → Value.okWide P W' .any 0 t r) :
    s.post enc P f apart fresh handsOn again W args v W' := by
  have hlt : ∀ p ∈ before, p.block < W.heap.size := fun p hp => hW.lt p hp
  have hold : ∀ p ∈ before, (fun b => decide (b < W.heap.size)) p.block = true := fun p hp => by simpa using hlt p hp
  refine ⟨ds, gs, before, [], pa, pv, hW, hres _ _ _, hargs _ hold, hvars _ hold, World.keptBut_mono (fun p hp => ⟨hp, ?_⟩) (hb.frame (· ∈ before)), fun _ => ?_⟩
  · rw [hps, List.mem_append] at hp
    exact Or.inr hp
  · obtain ⟨_, _, _, _, _, hz, hn⟩ := hW
    refine ⟨hok, _, _, ([] ++ pa) ++ pv, ⟨[] ++ pa, pv, trodAll_append (hargs _ (fun _ _ => rfl)) (hres _ _ _), hvars _ (fun _ _ => rfl), rfl, ?_, ?_⟩, ?_⟩
    · intro b off hp
      have hin : MemPlace.cell b off ∈ before := by rw [hps]; simpa using hp
      rw [hb.frozen (hlt _ hin)]
      exact hz b off hin
    · intro ha
      have := hn ha
      rw [hps] at this
      simpa using this
    · intro p hp _
      rw [hps]
      simpa using hp

/-- Data of type t, read in w, as abstract cells: 'f x n' the cells, where the new blocks 'g x n' are numbered from n on. -/
def Opens (enc : TypeId × Value → H) (P : Program) (w : World) (t : TypeId) {α : Type} (f : α → Nat → List AV) (g : α → Nat → List ABlk) (G : α → Prop) : Prop :=
  ∀ fuel cs d ps, DataW.trod enc P w 0 (fun _ => true) true fuel t cs = some (d, ps) →
    ∃ x : α, G x ∧ ∀ φ H, Rel (Base.all w) φ H w → ∃ φ', Ext φ φ' ∧ VRs φ' (f x H.length) cs ∧ Rel (Base.all w) φ' (H ++ g x H.length) w
/-- The same where no new block is wanted. -/
def Flat (enc : TypeId × Value → H) (P : Program) (w : World) (t : TypeId) {α : Type} (f : α → List AV) (G : α → Prop) : Prop :=
  ∀ fuel cs d ps, DataW.trod enc P w 0 (fun _ => true) true fuel t cs = some (d, ps) → ∃ x : α, G x ∧ ∀ φ, VRs φ (f x) cs
variable {w : World} {t e : TypeId}
theorem Flat.opens {α : Type} {f : α → List AV} {G : α → Prop} (h : Flat enc P w t f G) : Opens enc P w t (fun x _ => f x) (fun _ _ => []) G := by
  intro fuel cs d ps hd
  obtain ⟨x, h1, h2⟩ := h fuel cs d ps hd
  exact ⟨x, h1, fun φ H hr => ⟨φ, Ext.refl _, h2 φ, by simpa using hr⟩⟩

theorem flat_bool (ht : P.underlying t = some .bool) : Flat enc P w t (fun b : Bool => [.bool b]) (fun _ => True) := by
  intro fuel cs d ps hd
  cases fuel with
  | zero => simp [DataW.trod] at hd
  | succ fuel =>
    unfold DataW.trod at hd
    rw [ht] at hd
    split at hd <;> rename_i h1 <;> simp at h1 <;> try (cases hd; done)
    exact ⟨_, trivial, fun φ => .cons (.bool _) .nil⟩
theorem flat_int {k : IntKind} (ht : P.underlying t = some (.int k)) : Flat enc P w t (fun n : Int => [.int k n]) (fun n => (Lit.int k n).wf = true) := by
  intro fuel cs d ps hd
  cases fuel with
  | zero => simp [DataW.trod] at hd
  | succ fuel =>
    obtain ⟨n, h1, _, h3⟩ := DataW.trod_int ht hd
    subst h1
    exact ⟨n, h3, fun φ => .cons (.int _ _) .nil⟩
theorem flat_float (ht : P.underlying t = some (.float .f64)) : Flat enc P w t (fun n : Nat => [.float .f64 n]) (fun n => n < 2 ^ 64) := by
  intro fuel cs d ps hd
  cases fuel with
  | zero => simp [DataW.trod] at hd
  | succ fuel =>
    unfold DataW.trod at hd
    rw [ht] at hd
    split at hd <;> rename_i h1 <;> simp at h1 <;> try (cases hd; done)
    subst h1
    split at hd
    · rename_i hc
      obtain ⟨rfl, hw⟩ := hc
      simp [Lit.wf] at hw
      exact ⟨_, hw, fun φ => .cons (.float _ _) .nil⟩
    · cases hd
theorem flat_str (ht : P.underlying t = some .string) : Flat enc P w t (fun s : List UInt8 => [.str s]) (fun s => s.length ≤ maxLen) := by
  intro fuel cs d ps hd
  cases fuel with
  | zero => simp [DataW.trod] at hd
  | succ fuel =>
    obtain ⟨s, h1, _, h3⟩ := DataW.trod_string ht hd
    subst h1
    exact ⟨s.data.toList, by simpa using h3, fun φ => .cons (.str s.data.toList) .nil⟩

/-! ### The arguments -/
def packA (b : Bool) (l : List AV) : AV := if b then .agg l else l.headD .bad
theorem packA_ok {φ : List Loc} {r : Reach} {b0 : Nat} {b : Bool} {v : Value} {l : List AV} (hb : isAggP P t = some b) (hok : Value.okWide P w r b0 t v) (hv : VRs φ l v.cells.toList) : VR φ (packA b l) v := by
  unfold isAggP at hb
  unfold Value.okWide at hok
  split at hb
  · rename_i fs hu
    cases hb
    rw [hu] at hok
    obtain ⟨cs, rfl, _⟩ := hok
    exact .agg hv
  · rename_i n e hu
    cases hb
    rw [hu] at hok
    obtain ⟨cs, rfl, _⟩ := hok
    exact .agg hv
  · rename_i d hns hna hu
    cases hb
    rw [hu] at hok
    have hone : v.cells = #[v] := by
      cases v with
      | agg cs => cases d <;> simp_all [Cell.okWide, Cell.ok]
      | _ => rfl
    rw [hone] at hv
    cases hv with
    | cons h1 h2 => cases h2; exact h1
  · cases hb

def OpensArgs (enc : TypeId × Value → H) (P : Program) (w : World) (ts : List TypeId) {α : Type} (f : α → Nat → List AV) (g : α → Nat → List ABlk) (G : α → Prop) : Prop :=
  ∀ (b0 : Nat) vs ds ps, DataW.TrodAll enc P w 0 (fun _ => true) true ts vs ds ps → (∀ (j : Nat) (t : TypeId) (v : Value), ts[j]? = some t → vs[j]? = some v → Value.okWide P w .any b0 t v) →
    ∃ x : α, G x ∧ ∀ φ H, Rel (Base.all w) φ H w → ∃ φ', Ext φ φ' ∧ VRs φ' (f x H.length) vs ∧ Rel (Base.all w) φ' (H ++ g x H.length) w
theorem opensArgs_nil : OpensArgs enc P w [] (fun (_ : Unit) _ => []) (fun _ _ => []) (fun _ => True) := by
  intro b0 vs ds ps h _
  cases vs with
  | nil => exact ⟨(), trivial, fun φ H hr => ⟨φ, Ext.refl _, .nil, by simpa using hr⟩⟩
  | cons v vs => exact h.elim
theorem opensArgs_cons {ts : List TypeId} {α β : Type} {f1 : α → Nat → List AV} {g1 : α → Nat → List ABlk} {G1 : α → Prop} {f2 : β → Nat → List AV} {g2 : β → Nat → List ABlk} {G2 : β → Prop} {b : Bool}
    (hb : isAggP P t = some b) (h1 : Opens enc P w t f1 g1 G1) (h2 : OpensArgs enc P w ts f2 g2 G2) :
    OpensArgs enc P w (t :: ts) (fun (x : α × β) n => packA b (f1 x.1 n) :: f2 x.2 (n + (g1 x.1 n).length)) (fun x n => g1 x.1 n ++ g2 x.2 (n + (g1 x.1 n).length)) (fun x => G1 x.1 ∧ G2 x.2) := by
  intro b0 vs ds ps h hok
  cases vs with
  | nil => cases ds <;> exact h.elim
  | cons v vs =>
    cases ds with
    | nil => exact h.elim
    | cons d ds =>
      obtain ⟨p, q, ⟨fuel, hd⟩, hrest, _⟩ := h
      obtain ⟨x, hx, hxf⟩ := h1 fuel _ d p hd
      obtain ⟨y, hy, hyf⟩ := h2 b0 vs ds q hrest (fun j t v hj hv => hok (j + 1) t v (by simpa using hj) (by simpa using hv))
      refine ⟨(x, y), ⟨hx, hy⟩, fun φ H hr => ?_⟩
      obtain ⟨φ1, e1, v1, r1⟩ := hxf φ H hr
      obtain ⟨φ2, e2, v2, r2⟩ := hyf φ1 _ r1
      simp only [List.length_append] at v2 r2
      refine ⟨φ2, e1.trans e2, .cons ((packA_ok hb (hok 0 t v rfl rfl) v1).mono e2) v2, ?_⟩
      rw [List.append_assoc] at r2
      exact r2

theorem trodAll_keep {W W' : World} {sp : Nat → Bool} (hl : laidOutB P = true) : ∀ {ts : List TypeId} {vs : List Value} {ds : List (DataW H)} {ps : List MemPlace},
    (ts.all fun t => P.readableRec t && decide (t < P.types.size)) = true → DataW.TrodAll enc P W 0 (fun _ => true) true ts vs ds ps → Below W.heap.size W W' → (∀ p ∈ ps, p.block < W.heap.size) → (∀ p ∈ ps, sp p.block = true) →
    DataW.TrodAll enc P W' 0 sp true ts vs ds ps
  | [], [], [], _, _, h, _, _, _ => h
  | t :: ts, v :: vs, d :: ds, ps, hall, h, hb, hlt, hsp => by
    obtain ⟨p, q, h1, h2, rfl⟩ := h
    simp only [List.all_cons, Bool.and_eq_true, decide_eq_true_eq] at hall
    refine ⟨p, q, WideElems.Trod_stays hl hall.1.1 hall.1.2 h1 (fun x hx => hb.same (hlt x (by simp [hx]))) (fun x hx => hsp x (by simp [hx])), ?_, rfl⟩
    exact trodAll_keep hl (by simpa using hall.2) h2 hb (fun x hx => hlt x (by simp [hx])) (fun x hx => hsp x (by simp [hx]))
  | [], [], _ :: _, _, _, h, _, _, _ => h.elim
  | [], _ :: _, _, _, _, h, _, _, _ => h.elim
  | _ :: _, [], _, _, _, h, _, _, _ => h.elim
  | _ :: _, _ :: _, [], _, _, h, _, _, _ => h.elim

/-- THE LAW's STEP: the evaluator answers true; so does the call, and all that was there is as it was. -/
theorem contract_of_ev {E : Env} (hP : E.P.funcs.all (fun fn => !(fn.name == "runtime.NumGoroutine")) = true) (hm : E.P.follows .mixedOrders = true) (hO : CallOk E.P E.orc) {f : FuncId} {fn : Func} {s : ChangeSpec} {tb : TypeId}
    (hl : laidOutB E.P = true) (hall : (fn.params.toList.all fun t => E.P.readableRec t && decide (t < E.P.types.size)) = true) (hrt : fn.resultTypes = #[tb]) (htb : E.P.underlying tb = some .bool) (hv : s.vars = [])
    (hspec : ∀ ds : List (DataW H), ds.length = fn.params.size → (s.fn H ds).results = [.lit (.bool true)] ∧ (s.fn H ds).args = ds ∧ (s.fn H ds).vars = [])
    {α : Type} {fa : α → Nat → List AV} {ga : α → Nat → List ABlk} {G : α → Prop} {W : World} (hopen : OpensArgs enc E.P W fn.params.toList fa ga G)
    (hev : ∀ x, G x → ∃ n ch, evCall E (ev E n) f (fa x 0) (ga x 0) = some (.bool true, ch))
    {base : Nat} {args : Array Value} {ds gs : List (DataW H)} {before : List MemPlace}
    (hval : ∀ (j : Nat) t v, fn.params[j]? = some t → args[j]? = some v → Value.okWide E.P W .any base t v)
    (hW : DataW.Whole enc E.P fn.params.toList s.vars false W args.toList ds gs before) :
    Calls E.P f args W fun e W' => ∃ v, e = .returned v ∧ s.post enc E.P fn false true false false W args v W' := by
  have hW' := hW
  obtain ⟨p, q, hA, hV, hps, hfz, hnd⟩ := hW
  rw [hv] at hV
  obtain ⟨rfl, rfl⟩ := trodVars_none hV
  have hlen : ds.length = fn.params.size := by
    have : ∀ {ts : List TypeId} {vs : List Value} {ds : List (DataW H)} {ps : List MemPlace}, DataW.TrodAll enc E.P W 0 (fun _ => true) true ts vs ds ps → ds.length = ts.length := by
      intro ts
      induction ts with
      | nil => intro vs ds ps h; cases vs <;> cases ds <;> first | rfl | exact h.elim
      | cons t ts ih =>
        intro vs ds ps h
        cases vs with
        | nil => cases ds <;> exact h.elim
        | cons v vs => cases ds with
          | nil => exact h.elim
          | cons d ds => obtain ⟨p, q, _, h2, _⟩ := h; simp [ih h2]
    simpa using this hA
  obtain ⟨e1, e2, e3⟩ := hspec ds hlen
  obtain ⟨x, hx, hxf⟩ := hopen base args.toList ds p hA (fun j t v hj hv2 => hval j t v (by simpa using hj) (by simpa using hv2))
  obtain ⟨φ, _, hvr, hrel⟩ := hxf [] [] (Rel.empty W)
  simp only [List.length_nil, List.nil_append] at hvr hrel
  obtain ⟨n, ch, hn⟩ := hev x hx
  have hcall := ((evCall_ok hO (ev_ok hP hm hO n)) f _ _ _ _ hn).1 (Base.all W) φ W args hrel hvr
  refine hcall.mono ?_
  rintro e W' ⟨u, φ', rfl, _, hu, hch⟩
  cases hu
  have hbelow : Below W.heap.size W W' := by
    cases ch with
    | none => exact hch.2.below.to
    | some c => exact hch.below.to
  have hplt : ∀ x ∈ p, x.block < W.heap.size := fun x hx => hW'.lt x (by rw [hps]; simpa using hx)
  refine ⟨_, rfl, post_of_below (pa := p) (pv := []) hW' (fun b sp hd => ?_) (fun sp hsp => ?_) (fun sp hsp => ?_) hps hbelow ?_⟩
  · rw [List.append_nil, e1]
    have : fn.resultTypes.toList = [tb] := by rw [hrt]
    rw [this, hrt]
    exact trodAll_cons_mk (shut_bool htb _) trodAll_mk0
  · rw [List.append_nil, e2]
    exact trodAll_keep hl hall hA hbelow hplt (fun x hx => hsp x (by rw [hps]; simpa using hx))
  · rw [List.append_nil, e3, hv]
    rfl
  · exact ok_one hrt rfl (okWide_bool_mk htb _)
/-- The same, some variables of packages known at the start. -/
theorem contract_of_evG {E : Env} (hP : E.P.funcs.all (fun fn => !(fn.name == "runtime.NumGoroutine")) = true) (hm : E.P.follows .mixedOrders = true) (hO : CallOk E.P E.orc) {f : FuncId} {fn : Func} {s : ChangeSpec} {tb : TypeId}
    (hl : laidOutB E.P = true) (hall : (fn.params.toList.all fun t => E.P.readableRec t && decide (t < E.P.types.size)) = true) (hrt : fn.resultTypes = #[tb]) (htb : E.P.underlying tb = some .bool) (hv : s.vars = [])
    (hspec : ∀ ds : List (DataW H), ds.length = fn.params.size → (s.fn H ds).results = [.lit (.bool true)] ∧ (s.fn H ds).args = ds ∧ (s.fn H ds).vars = [])
    {α : Type} {fa : α → Nat → List AV} {ga : α → Nat → List ABlk} {G : α → Prop} {W : World} (hopen : OpensArgs enc E.P W fn.params.toList fa ga G) {φ0 : List Loc} {G0 : AH} (hG : Rel (Base.all W) φ0 G0 W)
    (hev : ∀ x, G x → ∃ n ch, evCall E (ev E n) f (fa x G0.length) (G0 ++ ga x G0.length) = some (.bool true, ch))
    {base : Nat} {args : Array Value} {ds gs : List (DataW H)} {before : List MemPlace}
    (hval : ∀ (j : Nat) t v, fn.params[j]? = some t → args[j]? = some v → Value.okWide E.P W .any base t v)
    (hW : DataW.Whole enc E.P fn.params.toList s.vars false W args.toList ds gs before) :
    Calls E.P f args W fun e W' => ∃ v, e = .returned v ∧ s.post enc E.P fn false true false false W args v W' := by
  have hW' := hW
  obtain ⟨p, q, hA, hV, hps, hfz, hnd⟩ := hW
  rw [hv] at hV
  obtain ⟨rfl, rfl⟩ := trodVars_none hV
  have hlen : ds.length = fn.params.size := by
    have : ∀ {ts : List TypeId} {vs : List Value} {ds : List (DataW H)} {ps : List MemPlace}, DataW.TrodAll enc E.P W 0 (fun _ => true) true ts vs ds ps → ds.length = ts.length := by
      intro ts
      induction ts with
      | nil => intro vs ds ps h; cases vs <;> cases ds <;> first | rfl | exact h.elim
      | cons t ts ih =>
        intro vs ds ps h
        cases vs with
        | nil => cases ds <;> exact h.elim
        | cons v vs => cases ds with
          | nil => exact h.elim
          | cons d ds => obtain ⟨p, q, _, h2, _⟩ := h; simp [ih h2]
    simpa using this hA
  obtain ⟨e1, e2, e3⟩ := hspec ds hlen
  obtain ⟨x, hx, hxf⟩ := hopen base args.toList ds p hA (fun j t v hj hv2 => hval j t v (by simpa using hj) (by simpa using hv2))
  obtain ⟨φ, _, hvr, hrel⟩ := hxf φ0 G0 hG
  obtain ⟨n, ch, hn⟩ := hev x hx
  have hcall := ((evCall_ok hO (ev_ok hP hm hO n)) f _ _ _ _ hn).1 (Base.all W) φ W args hrel hvr
  refine hcall.mono ?_
  rintro e W' ⟨u, φ', rfl, _, hu, hch⟩
  cases hu
  have hbelow : Below W.heap.size W W' := by
    cases ch with
    | none => exact hch.2.below.to
    | some c => exact hch.below.to
  have hplt : ∀ x ∈ p, x.block < W.heap.size := fun x hx => hW'.lt x (by rw [hps]; simpa using hx)
  refine ⟨_, rfl, post_of_below (pa := p) (pv := []) hW' (fun b sp hd => ?_) (fun sp hsp => ?_) (fun sp hsp => ?_) hps hbelow ?_⟩
  · rw [List.append_nil, e1]
    have : fn.resultTypes.toList = [tb] := by rw [hrt]
    rw [this, hrt]
    exact trodAll_cons_mk (shut_bool htb _) trodAll_mk0
  · rw [List.append_nil, e2]
    exact trodAll_keep hl hall hA hbelow hplt (fun x hx => hsp x (by rw [hps]; simpa using hx))
  · rw [List.append_nil, e3, hv]
    rfl
  · exact ok_one hrt rfl (okWide_bool_mk htb _)
end
end Go.Ve

namespace Go.Ve
open Go Go.RowKit Go.WideShapes Go.ChangeShapes

section
variable {H : Type} {enc : TypeId × Value → H} {P : Program} {w : World} {t : TypeId}

/-- The fields of a struct, from the cell 'off' on. -/
def FlatFs (enc : TypeId × Value → H) (P : Program) (w : World) (off : Nat) (l : List Field) {α : Type} (f : α → List AV) (G : α → Prop) (total : Nat) : Prop :=
  ∀ fuel (cs : List Value) ds, cs.length = total → (l.mapM fun fd => DataW.trod enc P w 0 (fun _ => true) true fuel fd.type ((cs.drop fd.offset).take (P.cellsOf fd.type))) = some ds → ∃ x : α, G x ∧ ∀ φ, VRs φ (f x) (cs.drop off)
theorem flatFs_nil (n : Nat) : FlatFs enc P w n [] (fun _ : Unit => []) (fun _ => True) n := by
  intro fuel cs ds hl _
  refine ⟨(), trivial, fun φ => ?_⟩
  rw [List.drop_eq_nil_of_le (by omega)]
  exact .nil
theorem flatFs_cons {off n total : Nat} {fd : Field} {l : List Field} {α β : Type} {f1 : α → List AV} {G1 : α → Prop} {f2 : β → List AV} {G2 : β → Prop}
    (h1 : Flat enc P w fd.type f1 G1) (h2 : FlatFs enc P w (off + n) l f2 G2 total) (ho : fd.offset = off := by rfl) (hn : P.cellsOf fd.type = n := by kernel_rfl) :
    FlatFs enc P w off (fd :: l) (fun x : α × β => f1 x.1 ++ f2 x.2) (fun x => G1 x.1 ∧ G2 x.2) total := by
  intro fuel cs ds hl hd
  rw [List.mapM_cons] at hd
  cases ha : DataW.trod enc P w 0 (fun _ => true) true fuel fd.type ((cs.drop fd.offset).take (P.cellsOf fd.type)) with
  | none => rw [ha] at hd; cases hd
  | some y =>
    rw [ha] at hd
    cases hb : (l.mapM fun fd => DataW.trod enc P w 0 (fun _ => true) true fuel fd.type ((cs.drop fd.offset).take (P.cellsOf fd.type))) with
    | none => rw [hb] at hd; cases hd
    | some ys =>
      obtain ⟨x1, h3, h4⟩ := h1 _ _ _ _ ha
      obtain ⟨x2, h5, h6⟩ := h2 _ _ _ hl hb
      refine ⟨(x1, x2), ⟨h3, h5⟩, fun φ => ?_⟩
      have e : cs.drop off = (cs.drop off).take n ++ cs.drop (off + n) := by
        rw [← List.drop_drop]; exact (List.take_append_drop n _).symm
      rw [e]
      have h4 := h4 φ
      rw [ho, hn] at h4
      exact h4.append (h6 φ)
theorem flat_struct {fs : Array Field} {n : Nat} {α : Type} {f : α → List AV} {G : α → Prop} (ht : P.underlying t = some (.struct fs)) (h : FlatFs enc P w 0 fs.toList f G n) (hn : P.cellsOf t = n := by kernel_rfl) : Flat enc P w t f G := by
  intro fuel cs d ps hd
  cases fuel with
  | zero => simp [DataW.trod] at hd
  | succ fuel =>
    unfold DataW.trod at hd
    rw [ht] at hd
    simp only at hd
    split at hd
    · rename_i hl
      cases hm : (fs.toList.mapM fun f => DataW.trod enc P w 0 (fun _ => true) true fuel f.type ((cs.drop f.offset).take (P.cellsOf f.type))) with
      | none => rw [hm] at hd; cases hd
      | some xs =>
        obtain ⟨x, h1, h2⟩ := h fuel cs xs (by rw [hl, hn]) hm
        exact ⟨x, h1, fun φ => by simpa using h2 φ⟩
    · cases hd
end
end Go.Ve

namespace Go.Ve
open Go Go.RowKit

section
variable {E : Env}

/-- More fuel, the same answer. -/
def Grows (a b : CallF) : Prop := ∀ f args H r, a f args H = some r → b f args H = some r
theorem evOps_grows {P : Program} {a b : CallF} (h : Grows a b) {ops : Array Oper} : ∀ (l : List Oper) {fr : List AV} {H : AH} {lo : Nat} {r : List AV × AH × Nat}, evOps P a ops l fr H lo = some r → evOps P b ops l fr H lo = some r := by
  intro l
  induction l with
  | nil => intro fr H lo r hr; exact hr
  | cons o l ih =>
    intro fr H lo r hr
    simp only [evOps] at hr ⊢
    split at hr
    · cases hr
    · exact ih hr
    · split at hr
      · cases hr
      · exact ih hr
      · exact ih hr
      · rename_i f args hop
        split at hr
        · cases hr
        · rename_i v hc
          rw [h _ _ _ _ hc]
          exact ih hr
        · rename_i v H1 wr hc
          rw [h _ _ _ _ hc]
          exact ih hr
      · cases hr
theorem evQuiet_grows {P : Program} {a b : CallF} (h : Grows a b) {ops : Array Oper} : ∀ (l : List Oper) {fr : List AV} {H : AH} {r : List AV}, evQuiet P a ops l fr H = some r → evQuiet P b ops l fr H = some r := by
  intro l
  induction l with
  | nil => intro fr H r hr; exact hr
  | cons o l ih =>
    intro fr H r hr
    simp only [evQuiet] at hr ⊢
    split at hr
    · cases hr
    · exact ih hr
    · split at hr
      · split at hr
        · rename_i hd
          rw [if_pos hd]
          exact ih hr
        · cases hr
      · rename_i f args hop
        split at hr
        · rename_i v hc
          rw [h _ _ _ _ hc]
          split at hr
          · rename_i hd
            simp only [hd, if_true]
            exact ih hr
          · cases hr
        · cases hr
      · cases hr
theorem evQuiet_evOps {P : Program} {a : CallF} {ops : Array Oper} : ∀ (l : List Oper) {fr fr' : List AV} {H : AH} {lo : Nat}, evQuiet P a ops l fr H = some fr' → evOps P a ops l fr H lo = some (fr', H, lo) := by
  intro l
  induction l with
  | nil => intro fr fr' H lo h; simp only [evQuiet] at h; cases h; rfl
  | cons o l ih =>
    intro fr fr' H lo h
    simp only [evQuiet] at h
    simp only [evOps]
    split at h
    · cases h
    · exact ih h
    · split at h
      · rename_i v hop
        simp only [hop]
        split at h
        · exact ih h
        · cases h
      · rename_i f args hop
        simp only [hop]
        split at h
        · rename_i v hc
          simp only [hc]
          split at h
          · exact ih h
          · cases h
        · cases h
      · cases h
theorem evQuiet_append {P : Program} {a : CallF} {ops : Array Oper} : ∀ (l l2 : List Oper) {fr fr' : List AV} {H : AH}, evQuiet P a ops (l ++ l2) fr H = some fr' → ∃ fr1, evQuiet P a ops l fr H = some fr1 ∧ evQuiet P a ops l2 fr1 H = some fr' := by
  intro l
  induction l with
  | nil => intro l2 fr fr' H h; exact ⟨fr, rfl, h⟩
  | cons o l ih =>
    intro l2 fr fr' H h
    simp only [List.cons_append, evQuiet] at h
    simp only [evQuiet]
    split at h
    · cases h
    · exact ih l2 h
    · split at h
      · split at h
        · rename_i hd
          simp only [hd, if_true]
          exact ih l2 h
        · cases h
      · split at h
        · split at h
          · rename_i hd
            simp only [hd, if_true]
            exact ih l2 h
          · cases h
        · cases h
      · cases h
theorem genStep_grows {P : Program} {a b : CallF} (h : Grows a b) {ops : Array Oper} {hd : List Oper} {bs als : List Nat} {N0 i : Nat} {o : Oper} {fr : List AV} {H : AH} {r : Rec} (hr : genStep P a ops hd bs als N0 i o fr H = some r) : genStep P b ops hd bs als N0 i o fr H = some r := by
  unfold genStep at hr ⊢
  split at hr
  · cases hr
  · exact hr
  · unfold genOp at hr ⊢
    split at hr
    · exact hr
    · exact hr
    · split at hr
      · exact hr
      · exact hr
      · rename_i f args hop
        split at hr
        · rename_i v hc
          rw [h _ _ _ _ hc]
          exact hr
        · rename_i v H' lo hc
          rw [h _ _ _ _ hc]
          exact hr
        · cases hr
      · cases hr
theorem genLex_grows {P : Program} {a b : CallF} (h : Grows a b) {ops : Array Oper} {hd : List Oper} {bs als : List Nat} {N0 : Nat} : ∀ (l : List Oper) {i : Nat} {fr : List AV} {H : AH} {acc recs : List Rec}, genLex P a ops hd bs als N0 i l fr H acc = some recs → genLex P b ops hd bs als N0 i l fr H acc = some recs := by
  intro l
  induction l with
  | nil => intro i fr H acc recs hr; exact hr
  | cons o l ih =>
    intro i fr H acc recs hr
    simp only [genLex] at hr ⊢
    split at hr
    · cases hr
    · rename_i rc hs
      rw [genStep_grows h hs]
      exact ih hr
theorem evGen_grows {P : Program} {a b : CallF} (h : Grows a b) {ops : Array Oper} {n : Nat} {fr : List AV} {H : AH} {lo : Nat} {r : List AV × AH × Nat} (hr : evGen P a ops n fr H lo = some r) : evGen P b ops n fr H lo = some r := by
  unfold evGen at hr ⊢
  split at hr
  · rename_i hg
    rw [if_pos hg]
    split at hr
    · cases hr
    · rename_i recs hl
      rw [genLex_grows h _ hl]
      simp only
      split at hr
      · rename_i hk
        rw [if_pos hk]
        exact evOps_grows h _ hr
      · cases hr
  · cases hr
theorem evDraw_of_tail {P : Program} {b : CallF} {ops : Array Oper} {fr fr1 : List AV} {H : AH} {lo : Nat} {r : List AV × AH × Nat} {k : Nat} (hk : tailQ ops = some k) (h1 : evQuiet P b ops (ops.toList.take k) fr H = some fr1) (h2 : evOps P b ops (ops.toList.drop k) fr1 H lo = some r) : evDraw0 P b ops fr H lo = some r := by
  unfold evDraw0
  split
  · rename_i fr' hq'
    split at hq'
    · rw [← List.take_append_drop k ops.toList] at hq'
      obtain ⟨fr2, h3, h4⟩ := evQuiet_append _ _ hq'
      rw [h1] at h3
      cases h3
      rw [evQuiet_evOps _ h4] at h2
      exact h2
    · cases hq'
  · simp only [hk, h1]
    exact h2
theorem evDraw0_grows {P : Program} {a b : CallF} (h : Grows a b) {ops : Array Oper} {fr : List AV} {H : AH} {lo : Nat} {r : List AV × AH × Nat} (hr : evDraw0 P a ops fr H lo = some r) : evDraw0 P b ops fr H lo = some r := by
  unfold evDraw0 at hr
  split at hr
  · rename_i fr' hq
    split at hq
    · rename_i hl
      unfold evDraw0
      rw [if_pos hl, evQuiet_grows h _ hq]
      exact hr
    · cases hq
  · split at hr
    · rename_i hk
      split at hr
      · cases hr
      · rename_i hs
        unfold evDraw0
        rw [if_neg hs]
        simp only [hk]
        rw [if_neg hs]
        exact evGen_grows h hr
    · rename_i k hk
      split at hr
      · cases hr
      · rename_i fr1 hq
        exact evDraw_of_tail hk (evQuiet_grows h _ hq) (evOps_grows h _ hr)
theorem evDraw_grows {P : Program} {a b : CallF} (h : Grows a b) {ops : Array Oper} {fr : List AV} {H : AH} {lo : Nat} {r : List AV × AH × Nat} (hr : evDraw P a ops fr H lo = some r) : evDraw P b ops fr H lo = some r := by
  unfold evDraw at hr ⊢
  split at hr
  · rename_i hn
    rw [if_pos hn]; exact evGen_grows h hr
  · rename_i hn
    rw [if_neg hn]; exact evDraw0_grows h hr
theorem evCall_grows {rec rec' : Code → List AV → AH → Nat → Option (AEx × List AV × AH × Nat)} (h : ∀ c fr H lo r, rec c fr H lo = some r → rec' c fr H lo = some r) : Grows (evCall E rec) (evCall E rec') := by
  intro f args H r hr
  unfold evCall at hr ⊢
  split at hr
  · rename_i r0 ho
    exact hr
  · split at hr
    · cases hr
    · rename_i fn hf
      split at hr
      · cases hr
      · rename_i c hb
        split at hr
        · cases hr
        · rename_i ex fr H' lo hne hrec
          rw [h _ _ _ _ _ hrec]
          split at hr
          · rename_i vs hvs
            cases ex with
            | exit id => first | exact (hne _ rfl).elim | exact (hne _ _ rfl).elim
            | normal => simp only [hvs]; exact hr
            | ret => simp only [hvs]; exact hr
          · cases hr
        · cases hr
theorem ev_succ : ∀ n c fr H lo r, ev E n c fr H lo = some r → ev E (n + 1) c fr H lo = some r := by
  intro n
  induction n with
  | zero => intro c fr H lo r h; simp [ev] at h
  | succ n ih =>
    intro c fr H lo r h
    have hg := evCall_grows (E := E) ih
    cases c with
    | skip => exact h
    | label l => exact h
    | exit id => exact h
    | ret => exact h
    | rangeFunc f ps as b => simp [ev] at h
    | goto l => simp [ev] at h
    | refuse why => simp [ev] at h
    | region id ops draw =>
      cases draw with
      | false =>
        rw [ev] at h ⊢
        split at h
        · rename_i fr1 H1 lo1 he
          rw [evOps_grows hg _ he]
          exact h
        · cases h
      | true =>
        rw [ev] at h ⊢
        split at h
        · rename_i fr1 H1 lo1 he
          rw [evDraw_grows hg he]
          exact h
        · cases h
    | seq a b =>
      rw [ev] at h ⊢
      split at h
      · rename_i fr1 H1 lo1 he
        rw [ih _ _ _ _ _ he]
        exact ih _ _ _ _ _ h
      · rename_i hne
        rw [ih _ _ _ _ _ h]
        obtain ⟨ex, fr1, H1, lo1⟩ := r
        cases ex with
        | normal => exact absurd h (hne _ _ _)
        | exit id => rfl
        | ret => rfl
    | cond c x y =>
      rw [ev] at h ⊢
      split at h
      · exact ih _ _ _ _ _ h
      · exact ih _ _ _ _ _ h
      · cases h
    | block id b =>
      rw [ev] at h ⊢
      split at h
      · rename_i i fr1 H1 lo1 he
        rw [ih _ _ _ _ _ he]
        exact h
      · rename_i hne
        rw [ih _ _ _ _ _ h]
        obtain ⟨ex, fr1, H1, lo1⟩ := r
        cases ex with
        | normal => rfl
        | exit id => exact absurd h (hne _ _ _ _)
        | ret => rfl
    | loop b =>
      rw [ev] at h ⊢
      split at h
      · rename_i fr1 H1 lo1 he
        rw [ih _ _ _ _ _ he]
        exact ih _ _ _ _ _ h
      · rename_i hne
        rw [ih _ _ _ _ _ h]
        obtain ⟨ex, fr1, H1, lo1⟩ := r
        cases ex with
        | normal => exact absurd h (hne _ _ _)
        | exit id => rfl
        | ret => rfl
    | scope b =>
      rw [ev] at h ⊢
      exact ih _ _ _ _ _ h
theorem ev_le {n m : Nat} (hnm : n ≤ m) {c : Code} {fr : List AV} {H : AH} {lo : Nat} {r : AEx × List AV × AH × Nat} (h : ev E n c fr H lo = some r) : ev E m c fr H lo = some r := by
  induction hnm with
  | refl => exact h
  | step _ ih => exact ev_succ _ _ _ _ _ _ ih

abbrev Post := AEx → List AV → AH → Nat → Prop
/-- The evaluator answers, and the answer is as asked. -/
def WP (E : Env) (c : Code) (fr : List AV) (H : AH) (lo : Nat) (Q : Post) : Prop :=
  ∃ n ex fr' H' lo', ev E n c fr H lo = some (ex, fr', H', lo') ∧ Q ex fr' H' lo'
/-- A call answers. -/
def CW (E : Env) (f : FuncId) (args : List AV) (H : AH) (K : AV → Option (AH × Nat) → Prop) : Prop :=
  ∃ n v ch, evCall E (ev E n) f args H = some (v, ch) ∧ K v ch
theorem CW.le {f : FuncId} {args : List AV} {H : AH} {n m : Nat} (hnm : n ≤ m) {r : AV × Option (AH × Nat)} (h : evCall E (ev E n) f args H = some r) : evCall E (ev E m) f args H = some r :=
  evCall_grows (fun _ _ _ _ _ => ev_le hnm) _ _ _ _ h

theorem WP.mono {c : Code} {fr : List AV} {H : AH} {lo : Nat} {Q Q' : Post} (h : WP E c fr H lo Q) (hq : ∀ ex fr H lo, Q ex fr H lo → Q' ex fr H lo) : WP E c fr H lo Q' := by
  obtain ⟨n, ex, fr', H', lo', h1, h2⟩ := h
  exact ⟨n, ex, fr', H', lo', h1, hq _ _ _ _ h2⟩
def thenQ (K : List AV → AH → Nat → Prop) (Q : Post) : Post
  | .normal, fr, H, lo => K fr H lo
  | e, fr, H, lo => Q e fr H lo
theorem WP.seq {a b : Code} {fr : List AV} {H : AH} {lo : Nat} {Q : Post} (h : WP E a fr H lo (thenQ (fun fr H lo => WP E b fr H lo Q) Q)) : WP E (.seq a b) fr H lo Q := by
  obtain ⟨n, ex, fr1, H1, lo1, h1, h2⟩ := h
  cases ex with
  | normal =>
    obtain ⟨m, ex2, fr2, H2, lo2, h3, h4⟩ := h2
    refine ⟨max n m + 1, ex2, fr2, H2, lo2, ?_, h4⟩
    rw [ev, ev_le (Nat.le_max_left n m) h1]
    exact ev_le (Nat.le_max_right n m) h3
  | exit id => exact ⟨n + 1, .exit id, fr1, H1, lo1, by rw [ev, h1], h2⟩
  | ret => exact ⟨n + 1, .ret, fr1, H1, lo1, by rw [ev, h1], h2⟩
theorem WP.loop {b : Code} {fr : List AV} {H : AH} {lo : Nat} {Q : Post} (h : WP E b fr H lo (thenQ (fun fr H lo => WP E (.loop b) fr H lo Q) Q)) : WP E (.loop b) fr H lo Q := by
  obtain ⟨n, ex, fr1, H1, lo1, h1, h2⟩ := h
  cases ex with
  | normal =>
    obtain ⟨m, ex2, fr2, H2, lo2, h3, h4⟩ := h2
    refine ⟨max n m + 1, ex2, fr2, H2, lo2, ?_, h4⟩
    rw [ev, ev_le (Nat.le_max_left n m) h1]
    exact ev_le (Nat.le_max_right n m) h3
  | exit id => exact ⟨n + 1, .exit id, fr1, H1, lo1, by rw [ev, h1], h2⟩
  | ret => exact ⟨n + 1, .ret, fr1, H1, lo1, by rw [ev, h1], h2⟩
theorem thenQ.norm {K : List AV → AH → Nat → Prop} {Q : Post} {fr : List AV} {H : AH} {lo : Nat} (h : K fr H lo) : thenQ K Q .normal fr H lo := h
theorem thenQ.ret {K : List AV → AH → Nat → Prop} {Q : Post} {fr : List AV} {H : AH} {lo : Nat} (h : Q .ret fr H lo) : thenQ K Q .ret fr H lo := h
theorem thenQ.exit {K : List AV → AH → Nat → Prop} {Q : Post} {fr : List AV} {H : AH} {lo i : Nat} (h : Q (.exit i) fr H lo) : thenQ K Q (.exit i) fr H lo := h
def blockQ (id : Nat) (Q : Post) : Post
  | .exit i, fr, H, lo => if i = id then Q .normal fr H lo else Q (.exit i) fr H lo
  | e, fr, H, lo => Q e fr H lo
theorem blockQ.norm {id : Nat} {Q : Post} {fr : List AV} {H : AH} {lo : Nat} (h : Q .normal fr H lo) : blockQ id Q .normal fr H lo := h
theorem blockQ.ret {id : Nat} {Q : Post} {fr : List AV} {H : AH} {lo : Nat} (h : Q .ret fr H lo) : blockQ id Q .ret fr H lo := h
theorem blockQ.here {id : Nat} {Q : Post} {fr : List AV} {H : AH} {lo : Nat} (h : Q .normal fr H lo) : blockQ id Q (.exit id) fr H lo := by
  simp only [blockQ, if_true]; exact h
theorem blockQ.on {id i : Nat} {Q : Post} {fr : List AV} {H : AH} {lo : Nat} (hi : (i == id) = false) (h : Q (.exit i) fr H lo) : blockQ id Q (.exit i) fr H lo := by
  have : ¬ i = id := by simpa using hi
  simp only [blockQ, if_neg this]; exact h
theorem WP.block {id : Nat} {b : Code} {fr : List AV} {H : AH} {lo : Nat} {Q : Post} (h : WP E b fr H lo (blockQ id Q)) : WP E (.block id b) fr H lo Q := by
  obtain ⟨n, ex, fr1, H1, lo1, h1, h2⟩ := h
  cases ex with
  | normal => exact ⟨n + 1, .normal, fr1, H1, lo1, by rw [ev, h1], h2⟩
  | exit i =>
    simp only [blockQ] at h2
    by_cases hi : i = id
    · rw [if_pos hi] at h2
      exact ⟨n + 1, .normal, fr1, H1, lo1, by rw [ev, h1]; simp [hi], h2⟩
    · rw [if_neg hi] at h2
      exact ⟨n + 1, .exit i, fr1, H1, lo1, by rw [ev, h1]; simp [hi], h2⟩
  | ret => exact ⟨n + 1, .ret, fr1, H1, lo1, by rw [ev, h1], h2⟩
theorem WP.scope {b : Code} {fr : List AV} {H : AH} {lo : Nat} {Q : Post} (h : WP E b fr H lo Q) : WP E (.scope b) fr H lo Q := by
  obtain ⟨n, ex, fr1, H1, lo1, h1, h2⟩ := h
  exact ⟨n + 1, ex, fr1, H1, lo1, by rw [ev, h1], h2⟩
theorem WP.here {c : Code} {fr : List AV} {H : AH} {lo : Nat} {Q : Post} {ex : AEx} (hc : ∀ n, ev E (n + 1) c fr H lo = some (ex, fr, H, lo)) (h : Q ex fr H lo) : WP E c fr H lo Q := ⟨1, ex, fr, H, lo, hc 0, h⟩

/-- The operations of a region, as a proposition: calls by 'CW'. 'q': the region draws its order: then nothing is changed, and each value is told whole. -/
def opsW (E : Env) (q : Bool) (ops : Array Oper) : List Oper → List AV → AH → Nat → (List AV → AH → Nat → Prop) → Prop
  | [], fr, H, lo, K => K fr H lo
  | o :: r, fr, H, lo, K =>
    match awanted ops o fr with
    | none => False
    | some w =>
      (w = false → opsW E q ops r (aput fr o.dst (.tuple [])) H lo K) ∧
      (w = true →
        ∃ ao, aop E.P o (aeval fr) H = some ao ∧
          match ao with
          | .val v none => (q = true → v.det = true) ∧ opsW E q ops r (aput fr o.dst v) H lo K
          | .val v (some (H', wr)) => q = false ∧ opsW E q ops r (aput fr o.dst v) H' (min lo wr) K
          | .call f args => CW E f args H fun v ch =>
              match ch with
              | none => (q = true → v.det = true) ∧ opsW E q ops r (aput fr o.dst v) H lo K
              | some (H', wr) => q = false ∧ opsW E q ops r (aput fr o.dst v) H' (min lo wr) K
          | .round .. => False)
theorem opsW_ok {ops : Array Oper} : ∀ (l : List Oper) {fr : List AV} {H : AH} {lo : Nat} {K : List AV → AH → Nat → Prop}, opsW E false ops l fr H lo K → ∃ n fr' H' lo', evOps E.P (evCall E (ev E n)) ops l fr H lo = some (fr', H', lo') ∧ K fr' H' lo' := by
  intro l
  induction l with
  | nil => intro fr H lo K h; exact ⟨0, fr, H, lo, rfl, h⟩
  | cons o l ih =>
    intro fr H lo K h
    simp only [opsW] at h
    simp only [evOps]
    split at h
    · exact h.elim
    · rename_i w hw
      rw [hw]
      cases w with
      | false => exact ih (h.1 rfl)
      | true =>
        obtain ⟨ao, h1, h2⟩ := h.2 rfl
        simp only [h1]
        cases ao with
        | val v ch =>
          cases ch with
          | none => exact ih h2.2
          | some c => obtain ⟨H', wr⟩ := c; exact ih h2.2
        | call f args =>
          obtain ⟨n, v, ch, h3, h4⟩ := h2
          cases ch with
          | none =>
            obtain ⟨m, fr', H', lo', h5, h6⟩ := ih h4.2
            refine ⟨max n m, fr', H', lo', ?_, h6⟩
            simp only [CW.le (Nat.le_max_left n m) h3]
            exact evOps_grows (evCall_grows fun _ _ _ _ _ => ev_le (Nat.le_max_right n m)) _ h5
          | some c =>
            obtain ⟨H1, wr⟩ := c
            obtain ⟨m, fr', H', lo', h5, h6⟩ := ih h4.2
            refine ⟨max n m, fr', H', lo', ?_, h6⟩
            simp only [CW.le (Nat.le_max_left n m) h3]
            exact evOps_grows (evCall_grows fun _ _ _ _ _ => ev_le (Nat.le_max_right n m)) _ h5
        | round b f as bd => exact h2.elim
theorem opsQ_ok {ops : Array Oper} : ∀ (l : List Oper) {fr : List AV} {H : AH} {lo : Nat} {K : List AV → AH → Nat → Prop}, opsW E true ops l fr H lo K → ∃ n fr', evQuiet E.P (evCall E (ev E n)) ops l fr H = some fr' ∧ K fr' H lo := by
  intro l
  induction l with
  | nil => intro fr H lo K h; exact ⟨0, fr, rfl, h⟩
  | cons o l ih =>
    intro fr H lo K h
    simp only [opsW] at h
    simp only [evQuiet]
    split at h
    · exact h.elim
    · rename_i w hw
      rw [hw]
      cases w with
      | false => exact ih (h.1 rfl)
      | true =>
        obtain ⟨ao, h1, h2⟩ := h.2 rfl
        simp only [h1]
        cases ao with
        | val v ch =>
          cases ch with
          | none =>
            obtain ⟨n, fr', h3, h4⟩ := ih h2.2
            exact ⟨n, fr', by simp only [h2.1 trivial, if_true]; exact h3, h4⟩
          | some c => obtain ⟨H', wr⟩ := c; exact absurd h2.1 (by simp)
        | call f args =>
          obtain ⟨n, v, ch, h3, h4⟩ := h2
          cases ch with
          | none =>
            obtain ⟨m, fr', h5, h6⟩ := ih h4.2
            refine ⟨max n m, fr', ?_, h6⟩
            simp only [CW.le (Nat.le_max_left n m) h3, h4.1 trivial, if_true]
            exact evQuiet_grows (evCall_grows fun _ _ _ _ _ => ev_le (Nat.le_max_right n m)) _ h5
          | some c => obtain ⟨H', wr⟩ := c; exact absurd h4.1 (by simp)
        | round b f as bd => exact h2.elim
theorem WP.regionQ {id : Nat} {ops : Array Oper} {fr : List AV} {H : AH} {lo : Nat} {Q : Post} (hl : (stillB ops && !newB E.P ops) = true) (h : opsW E true ops ops.toList fr H lo (Q .normal)) : WP E (.region id ops true) fr H lo Q := by
  obtain ⟨n, fr', h1, h2⟩ := opsQ_ok _ h
  rw [Bool.and_eq_true] at hl
  have hn : newB E.P ops = false := by simpa using hl.2
  exact ⟨n + 1, .normal, fr', H, lo, by simp only [ev, evDraw, evDraw0, hn, Bool.false_eq_true, if_false, if_pos hl.1, h1], h2⟩
theorem WP.regionT {id : Nat} {ops : Array Oper} {fr : List AV} {H : AH} {lo : Nat} {Q : Post} (k : Nat) (hk : (if newB E.P ops = true then none else tailQ ops) = some k) (h : opsW E true ops (ops.toList.take k) fr H lo (fun fr1 H1 lo1 => H1 = H ∧ lo1 = lo ∧ opsW E false ops (ops.toList.drop k) fr1 H lo (Q .normal))) : WP E (.region id ops true) fr H lo Q := by
  obtain ⟨n, fr1, h1, _, _, h2⟩ := opsQ_ok _ h
  obtain ⟨m, fr', H', lo', h3, h4⟩ := opsW_ok _ h2
  refine ⟨max n m + 1, .normal, fr', H', lo', ?_, h4⟩
  have h5 := evQuiet_grows (evCall_grows (E := E) fun _ _ _ _ _ => ev_le (Nat.le_max_left n m)) _ h1
  have h6 := evOps_grows (evCall_grows (E := E) fun _ _ _ _ _ => ev_le (Nat.le_max_right n m)) _ h3
  have hn : newB E.P ops = false := by
    cases hb : newB E.P ops with
    | true => rw [hb] at hk; cases hk
    | false => rfl
  rw [hn] at hk
  simp only [ev, evDraw, hn, Bool.false_eq_true, if_false, evDraw_of_tail hk h5 h6]
theorem WP.regionG {id : Nat} {ops : Array Oper} {fr : List AV} {H : AH} {lo : Nat} {Q : Post} {m : Nat} {fr' : List AV} {H' : AH} {lo' : Nat} (hl : (stillB ops || newB E.P ops) = false) (hk : tailQ ops = none)
    (h : evGen E.P (evCall E (ev E m)) ops (genAt ops) fr H lo = some (fr', H', lo')) (hq : Q .normal fr' H' lo') : WP E (.region id ops true) fr H lo Q :=
  have hl' := (Bool.or_eq_false_iff).1 hl
  ⟨m + 1, .normal, fr', H', lo', by simp only [ev, evDraw, evDraw0, hl'.1, hl'.2, Bool.false_eq_true, if_false, hk, h], hq⟩
theorem WP.region {id : Nat} {ops : Array Oper} {fr : List AV} {H : AH} {lo : Nat} {Q : Post} (h : opsW E false ops ops.toList fr H lo (Q .normal)) : WP E (.region id ops false) fr H lo Q := by
  obtain ⟨n, fr', H', lo', h1, h2⟩ := opsW_ok _ h
  exact ⟨n + 1, .normal, fr', H', lo', by rw [ev, h1], h2⟩
/-- At a body's end: the results, and whether anything was changed. -/
def RetQ (E : Env) (fn : Func) (n : Nat) (K : AV → Option (AH × Nat) → Prop) : Post := fun ex fr H' lo =>
  (∀ id, ex ≠ .exit id) ∧ ∃ vs, aresults E.P fr H' fn.results.toList = some vs ∧
    ((lo = n ∧ (oneOf vs).flat = true → K (oneOf vs) none) ∧ (¬ (lo = n ∧ (oneOf vs).flat = true) → K (oneOf vs) (some (H', lo))))
theorem CW.body {f : FuncId} {fn : Func} {c : Code} {args : List AV} {H : AH} {K : AV → Option (AH × Nat) → Prop} (ho : E.orc f args H = none) (hf : E.P.funcs[f]? = some fn) (hb : fn.body = some c) {m : Nat} (hm : fn.ntmps = m)
    {fr0 : List AV} (h : WP E c fr0 H H.length (RetQ E fn H.length K))
    (hfr : args ++ List.replicate (m - args.length) (.tuple []) = fr0 := by simp only [List.length_cons, List.length_nil, Nat.reduceAdd, Nat.reduceSub, List.replicate, List.cons_append, List.nil_append, List.append_nil]; rfl) : CW E f args H K := by
  subst hfr; subst hm
  obtain ⟨n, ex, fr, H', lo, h1, hne, vs, h2, h3⟩ := h
  have key : evCall E (ev E n) f args H = if lo = H.length ∧ (oneOf vs).flat = true then some (oneOf vs, none) else some (oneOf vs, some (H', lo)) := by
    unfold evCall
    simp only [ho, hf, hb, h1]
    cases ex with
    | normal => simp only [h2]
    | ret => simp only [h2]
    | exit id => exact absurd rfl (hne id)
  by_cases hc : lo = H.length ∧ (oneOf vs).flat = true
  · rw [if_pos hc] at key
    exact ⟨n, _, _, key, h3.1 hc⟩
  · rw [if_neg hc] at key
    exact ⟨n, _, _, key, h3.2 hc⟩
theorem CW.orc {f : FuncId} {args : List AV} {H : AH} {K : AV → Option (AH × Nat) → Prop} {v : AV} {ch : Option (AH × Nat)} (ho : E.orc f args H = some (v, ch)) (h : K v ch) : CW E f args H K :=
  ⟨0, v, ch, by simp only [evCall, ho], h⟩

section steps
variable {q : Bool} {ops : Array Oper} {o : Oper} {r : List Oper} {fr : List AV} {H : AH} {lo : Nat} {K : List AV → AH → Nat → Prop}
theorem opsW.done (h : K fr H lo) : opsW E q ops [] fr H lo K := h
theorem opsW.skip (hw : awanted ops o fr = some false) {fr' : List AV} (h : opsW E q ops r fr' H lo K) (hfr : aput fr o.dst (.tuple []) = fr' := by simp only [aput, List.set_cons_succ, List.set_cons_zero]; rfl) : opsW E q ops (o :: r) fr H lo K := by
  subst hfr
  rw [opsW, hw]
  exact ⟨fun _ => h, nofun⟩
theorem opsW.val (hw : awanted ops o fr = some true) {v : AV} (ha : aop E.P o (aeval fr) H = some (.val v none)) {fr' : List AV} (h : opsW E q ops r fr' H lo K) (hfr : aput fr o.dst v = fr' := by simp only [aput, List.set_cons_succ, List.set_cons_zero]; rfl) (hq : q = true → v.det = true := by first | exact fun h => Bool.noConfusion h | exact fun _ => rfl) : opsW E q ops (o :: r) fr H lo K := by
  subst hfr
  rw [opsW, hw]
  exact ⟨nofun, fun _ => ⟨_, ha, hq, h⟩⟩
theorem opsW.chg (hw : awanted ops o fr = some true) {v : AV} {H' : AH} {wr : Nat} (ha : aop E.P o (aeval fr) H = some (.val v (some (H', wr)))) {fr' : List AV} (h : opsW E q ops r fr' H' (min lo wr) K) (hfr : aput fr o.dst v = fr' := by simp only [aput, List.set_cons_succ, List.set_cons_zero]; rfl) (hq : q = false := by rfl) : opsW E q ops (o :: r) fr H lo K := by
  subst hfr
  rw [opsW, hw]
  exact ⟨nofun, fun _ => ⟨_, ha, hq, h⟩⟩
theorem opsW.call (hw : awanted ops o fr = some true) {f : FuncId} {args : List AV} (ha : aop E.P o (aeval fr) H = some (.call f args))
    (h : CW E f args H fun v ch => match ch with | none => (q = true → v.det = true) ∧ opsW E q ops r (aput fr o.dst v) H lo K | some (H', wr) => q = false ∧ opsW E q ops r (aput fr o.dst v) H' (min lo wr) K) : opsW E q ops (o :: r) fr H lo K := by
  rw [opsW, hw]
  exact ⟨nofun, fun _ => ⟨_, ha, h⟩⟩
theorem WP.cond_true {c : Operand} {x y : Code} {Q : Post} (hc : aeval fr c = .bool true) (h : WP E x fr H lo Q) : WP E (.cond c x y) fr H lo Q := by
  obtain ⟨n, ex, fr1, H1, lo1, h1, h2⟩ := h
  exact ⟨n + 1, ex, fr1, H1, lo1, by rw [ev, hc]; exact h1, h2⟩
theorem WP.cond_false {c : Operand} {x y : Code} {Q : Post} (hc : aeval fr c = .bool false) (h : WP E y fr H lo Q) : WP E (.cond c x y) fr H lo Q := by
  obtain ⟨n, ex, fr1, H1, lo1, h1, h2⟩ := h
  exact ⟨n + 1, ex, fr1, H1, lo1, by rw [ev, hc]; exact h1, h2⟩
theorem WP.cond {c : Operand} {x y : Code} {Q : Post} {t : Bool} (hc : aeval fr c = .bool t) (h1 : t = true → WP E x fr H lo Q) (h2 : t = false → WP E y fr H lo Q) : WP E (.cond c x y) fr H lo Q := by
  cases t with
  | true => exact WP.cond_true hc (h1 rfl)
  | false => exact WP.cond_false hc (h2 rfl)
theorem WP.skip {Q : Post} (h : Q .normal fr H lo) : WP E .skip fr H lo Q := WP.here (fun _ => rfl) h
theorem WP.label {l : Nat} {Q : Post} (h : Q .normal fr H lo) : WP E (.label l) fr H lo Q := WP.here (fun _ => rfl) h
theorem WP.exit {id : Nat} {Q : Post} (h : Q (.exit id) fr H lo) : WP E (.exit id) fr H lo Q := WP.here (fun _ => rfl) h
theorem WP.ret {Q : Post} (h : Q .ret fr H lo) : WP E .ret fr H lo Q := WP.here (fun _ => rfl) h
end steps

/-- A loop, by what holds at each round's head and a measure that each round lowers. -/
theorem WP.loopI {b : Code} {fr : List AV} {H : AH} {lo : Nat} {Q : Post} (I : List AV → AH → Nat → Prop) (μ : List AV → AH → Nat → Nat) (h0 : I fr H lo)
    (round : ∀ fr H lo, I fr H lo → WP E b fr H lo (thenQ (fun fr' H' lo' => I fr' H' lo' ∧ μ fr' H' lo' < μ fr H lo) Q)) : WP E (.loop b) fr H lo Q := by
  have key : ∀ n fr H lo, μ fr H lo = n → I fr H lo → WP E (.loop b) fr H lo Q := by
    intro n
    induction n using Nat.strongRecOn with
    | _ n ih =>
      intro fr H lo hn hI
      refine WP.loop ((round fr H lo hI).mono fun ex fr' H' lo' hq => ?_)
      cases ex with
      | normal => exact ih _ (hn ▸ hq.2) fr' H' lo' rfl hq.1
      | exit id => exact hq
      | ret => exact hq
  exact key _ fr H lo rfl h0
/-- A loop whose rounds are counted. -/
theorem WP.loopN {b : Code} {fr : List AV} {H : AH} {lo : Nat} {Q : Post} (n : Nat) (I : Nat → List AV → AH → Nat → Prop) (h0 : I n fr H lo)
    (round : ∀ k fr H lo, k ≤ n → I k fr H lo → WP E b fr H lo (thenQ (fun fr' H' lo' => ∃ j, j < k ∧ I j fr' H' lo') Q)) : WP E (.loop b) fr H lo Q := by
  have key : ∀ k, k ≤ n → ∀ fr H lo, I k fr H lo → WP E (.loop b) fr H lo Q := by
    intro k
    induction k using Nat.strongRecOn with
    | _ k ih =>
      intro hk fr H lo hI
      refine WP.loop ((round k fr H lo hk hI).mono fun ex fr' H' lo' hq => ?_)
      cases ex with
      | normal => obtain ⟨j, hj, hI'⟩ := hq; exact ih j hj (by omega) fr' H' lo' hI'
      | exit id => exact hq
      | ret => exact hq
  exact key n (Nat.le_refl n) fr H lo h0
end
end Go.Ve

namespace Go.Ve
open Go Go.RowKit

/-! ### Lists, by their recursor alone -/
section
variable {α β : Type}
def natK (n : Nat) (k : Nat → β) : β :=
  match n with
  | 0 => k 0
  | m + 1 => k (Nat.succ m)
theorem natK_eq (n : Nat) (k : Nat → β) : natK n k = k n := by cases n <;> rfl
def intK (n : Int) (k : Int → β) : β :=
  match n with
  | .ofNat m => natK m fun m => k (.ofNat m)
  | .negSucc m => natK m fun m => k (.negSucc m)
theorem intK_eq (n : Int) (k : Int → β) : intK n k = k n := by cases n <;> simp [intK, natK_eq]
def boolK (b : Bool) (k : Bool → β) : β :=
  match b with
  | true => k true
  | false => k false
theorem boolK_eq (b : Bool) (k : Bool → β) : boolK b k = k b := by cases b <;> rfl
noncomputable def listK (e : α → (α → β) → β) (l : List α) (k : List α → β) : β :=
  List.rec (motive := fun _ => (List α → β) → β) (fun k => k []) (fun a _ ih k => e a fun a' => ih fun t' => k (a' :: t')) l k
theorem listK_eq {e : α → (α → β) → β} (he : ∀ a k, e a k = k a) (l : List α) : ∀ (k : List α → β), listK e l k = k l := by
  induction l with
  | nil => intro k; rfl
  | cons a t ih =>
    intro k
    show e a (fun a' => listK e t fun t' => k (a' :: t')) = _
    rw [he, ih]
def idK (a : α) (k : α → β) : β := k a
noncomputable def getR (l : List α) (n : Nat) : Option α :=
  List.rec (motive := fun _ => Nat → Option α) (fun _ => none) (fun a _ ih n => Nat.rec (motive := fun _ => Option α) (some a) (fun m _ => ih m) n) l n
theorem getR_eq (l : List α) : ∀ n, getR l n = l[n]? := by
  induction l with
  | nil => intro n; rfl
  | cons a t ih =>
    intro n
    cases n with
    | zero => rfl
    | succ m => show getR t m = _; rw [ih]; rfl
/-- One cell set; 'd' where there is none. -/
noncomputable def setR (l : List α) (n : Nat) (x : α) (k : List α → β) (d : β) : β :=
  List.rec (motive := fun _ => Nat → (List α → β) → β) (fun _ _ => d) (fun a t ih n k => Nat.rec (motive := fun _ => β) (k (x :: t)) (fun m _ => ih m fun t' => k (a :: t')) n) l n k
theorem setR_eq (l : List α) : ∀ (n : Nat) (x : α) (k : List α → β) (d : β), setR l n x k d = if n < l.length then k (l.set n x) else d := by
  induction l with
  | nil => intro n x k d; rfl
  | cons a t ih =>
    intro n x k d
    cases n with
    | zero => rfl
    | succ m =>
      show setR t m x (fun t' => k (a :: t')) d = _
      rw [ih]
      simp
noncomputable def lenR (l : List α) : Nat := List.rec (motive := fun _ => Nat → Nat) (fun n => n) (fun _ _ ih n => ih (Nat.succ n)) l 0
/-! ### Trees -/
inductive Tr (α : Type) where
  | leaf
  | node (v : α) (l r : Tr α)
noncomputable def Tr.get (t : Tr α) (n : Nat) : Option α :=
  Tr.rec (motive := fun _ => Nat → Option α) (fun _ => none) (fun v _ _ gl gr n => Nat.rec (motive := fun _ => Option α) (some v) (fun m _ => Bool.rec (motive := fun _ => Option α) (gr (Nat.div m 2)) (gl (Nat.div m 2)) (Nat.beq (Nat.mod m 2) 0)) n) t n
noncomputable def Tr.set (t : Tr α) (n : Nat) (x : α) (k : Tr α → β) : β :=
  Tr.rec (motive := fun _ => Nat → (Tr α → β) → β) (fun _ k => k .leaf) (fun v l r sl sr n k => Nat.rec (motive := fun _ => β) (k (.node x l r)) (fun m _ => Bool.rec (motive := fun _ => β) (sr (Nat.div m 2) fun r => k (.node v l r)) (sl (Nat.div m 2) fun l => k (.node v l r)) (Nat.beq (Nat.mod m 2) 0)) n) t n k
/-- The tree with one cell set. -/
noncomputable def Tr.put (t : Tr α) (n : Nat) (x : α) : Tr α := t.set n x fun t => t
theorem Tr.set_eq (t : Tr α) : ∀ {β : Type} (n : Nat) (x : α) (k : Tr α → β), t.set n x k = k (t.put n x) := by
  induction t with
  | leaf => intro β n x k; rfl
  | node v l r ihl ihr =>
    intro β n x k
    cases n with
    | zero => rfl
    | succ m =>
      show Bool.rec (motive := fun _ => β) (r.set (Nat.div m 2) x fun r => k (.node v l r)) (l.set (Nat.div m 2) x fun l => k (.node v l r)) (Nat.beq (Nat.mod m 2) 0) = k (Bool.rec (motive := fun _ => Tr α) (r.set (Nat.div m 2) x fun r => .node v l r) (l.set (Nat.div m 2) x fun l => .node v l r) (Nat.beq (Nat.mod m 2) 0))
      cases Nat.beq (Nat.mod m 2) 0 with
      | true => show l.set _ x _ = k (l.set _ x _); rw [ihl, ihl (β := Tr α)]
      | false => show r.set _ x _ = k (r.set _ x _); rw [ihr, ihr (β := Tr α)]
theorem Tr.get_node (v : α) (l r : Tr α) (m : Nat) : (Tr.node v l r).get (m + 1) = if Nat.beq (Nat.mod m 2) 0 = true then l.get (Nat.div m 2) else r.get (Nat.div m 2) := by
  show Bool.rec (motive := fun _ => Option α) (r.get (Nat.div m 2)) (l.get (Nat.div m 2)) (Nat.beq (Nat.mod m 2) 0) = _
  cases Nat.beq (Nat.mod m 2) 0 <;> rfl
theorem Tr.put_node (v x : α) (l r : Tr α) (m : Nat) : (Tr.node v l r).put (m + 1) x = if Nat.beq (Nat.mod m 2) 0 = true then .node v (l.put (Nat.div m 2) x) r else .node v l (r.put (Nat.div m 2) x) := by
  show Bool.rec (motive := fun _ => Tr α) (r.set (Nat.div m 2) x fun r => .node v l r) (l.set (Nat.div m 2) x fun l => .node v l r) (Nat.beq (Nat.mod m 2) 0) = _
  cases Nat.beq (Nat.mod m 2) 0 with
  | true => show l.set _ x _ = _; rw [Tr.set_eq]; rfl
  | false => show r.set _ x _ = _; rw [Tr.set_eq]; rfl
theorem Tr.get_put (t : Tr α) : ∀ (n i : Nat) (x : α), (t.put n x).get i = if i = n then (t.get n).map (fun _ => x) else t.get i := by
  induction t with
  | leaf => intro n i x; show none = _; split <;> rfl
  | node v l r ihl ihr =>
    intro n i x
    cases n with
    | zero =>
      show (Tr.node x l r).get i = _
      cases i with
      | zero => rfl
      | succ j => rw [if_neg (by omega), Tr.get_node, Tr.get_node]
    | succ m =>
      rw [Tr.put_node]
      have hm : m % 2 = Nat.mod m 2 := rfl
      have hd : m / 2 = Nat.div m 2 := rfl
      cases i with
      | zero => rw [if_neg (show ¬ (0 = m + 1) by simp)]; split <;> rfl
      | succ j =>
        have hj : j % 2 = Nat.mod j 2 := rfl
        have hjd : j / 2 = Nat.div j 2 := rfl
        rw [Tr.get_node v l r j, Tr.get_node v l r m]
        by_cases hp : Nat.beq (Nat.mod m 2) 0 = true
        · rw [if_pos hp, if_pos hp, Tr.get_node]
          by_cases hq : Nat.beq (Nat.mod j 2) 0 = true
          · rw [if_pos hq, if_pos hq, ihl]
            have h1 := Nat.eq_of_beq_eq_true hp
            have h2 := Nat.eq_of_beq_eq_true hq
            by_cases e : j + 1 = m + 1
            · have : j = m := by omega
              subst this; simp
            · rw [if_neg e, if_neg (by omega)]
          · rw [if_neg hq, if_neg hq]
            rw [if_neg (fun e : j + 1 = m + 1 => hq (by have : j = m := by omega
                                                        subst this; exact hp))]
        · rw [if_neg hp, if_neg hp, Tr.get_node]
          by_cases hq : Nat.beq (Nat.mod j 2) 0 = true
          · rw [if_pos hq, if_pos hq]
            rw [if_neg (fun e : j + 1 = m + 1 => hp (by have : j = m := by omega
                                                        subst this; exact hq))]
          · rw [if_neg hq, if_neg hq, ihr]
            have h1 : m % 2 = 1 := by
              have : ¬ m % 2 = 0 := fun e => hp (by rw [← hm, e]; rfl)
              omega
            have h2 : j % 2 = 1 := by
              have : ¬ j % 2 = 0 := fun e => hq (by rw [← hj, e]; rfl)
              omega
            by_cases e : j + 1 = m + 1
            · have : j = m := by omega
              subst this; simp
            · rw [if_neg e, if_neg (by omega)]
/-- A tree of n cells; d: a bound of its depth. -/
noncomputable def Tr.mk (x : α) (d n : Nat) : Tr α :=
  Nat.rec (motive := fun _ => Nat → Tr α) (fun _ => .leaf) (fun _ ih n => Nat.rec (motive := fun _ => Tr α) .leaf (fun m _ => .node x (ih (Nat.div (Nat.succ m) 2)) (ih (Nat.div m 2))) n) d n
theorem Tr.get_mk (x : α) : ∀ (d n i : Nat), n < 2 ^ d → (Tr.mk x d n).get i = if i < n then some x else none
  | 0, n, i, h => by
    have : n = 0 := by omega
    subst this
    show none = _
    rw [if_neg (by omega)]
  | d + 1, n, i, h => by
    cases n with
    | zero => show none = _; rw [if_neg (by omega)]
    | succ m =>
      have e : Tr.mk x (d + 1) (m + 1) = .node x (Tr.mk x d (Nat.div (m + 1) 2)) (Tr.mk x d (Nat.div m 2)) := rfl
      have hd1 : (m + 1) / 2 = Nat.div (m + 1) 2 := rfl
      have hd2 : m / 2 = Nat.div m 2 := rfl
      have hp : 2 ^ (d + 1) = 2 * 2 ^ d := by rw [Nat.pow_succ]; omega
      rw [e]
      cases i with
      | zero => rw [if_pos (by omega)]; rfl
      | succ j =>
        have hjd : j / 2 = Nat.div j 2 := rfl
        have hjm : j % 2 = Nat.mod j 2 := rfl
        rw [Tr.get_node, Tr.get_mk x d _ _ (by omega), Tr.get_mk x d _ _ (by omega)]
        by_cases hq : Nat.beq (Nat.mod j 2) 0 = true
        · have h2 := Nat.eq_of_beq_eq_true hq
          rw [if_pos hq]
          by_cases hl : j + 1 < m + 1
          · rw [if_pos hl, if_pos (by omega)]
          · rw [if_neg hl, if_neg (by omega)]
        · have h2 : j % 2 = 1 := by
            have : ¬ j % 2 = 0 := fun e => hq (by rw [← hjm, e]; rfl)
            omega
          rw [if_neg hq]
          by_cases hl : j + 1 < m + 1
          · rw [if_pos hl, if_pos (by omega)]
          · rw [if_neg hl, if_neg (by omega)]
/-- The first cells, from i on. -/
noncomputable def Tr.list (t : Tr α) (fuel i : Nat) : List α :=
  Nat.rec (motive := fun _ => Nat → List α) (fun _ => []) (fun _ ih i => Option.rec (motive := fun _ => List α) [] (fun v => v :: ih (Nat.succ i)) (t.get i)) fuel i
def Rep (t : Tr α) (fr : List α) : Prop := ∀ i, t.get i = fr[i]?
theorem Tr.list_eq {t : Tr α} {fr : List α} (h : Rep t fr) : ∀ (fuel i : Nat), fr.length ≤ i + fuel → t.list fuel i = fr.drop i
  | 0, i, hl => by
    rw [List.drop_eq_nil_of_le (by omega)]; rfl
  | fuel + 1, i, hl => by
    show Option.rec (motive := fun _ => List α) [] (fun v => v :: t.list fuel (i + 1)) (t.get i) = _
    rw [h i]
    by_cases hi : i < fr.length
    · rw [List.getElem?_eq_getElem hi, List.drop_eq_getElem_cons hi]
      show _ :: _ = _
      rw [Tr.list_eq h fuel (i + 1) (by omega)]
    · rw [List.getElem?_eq_none (by omega), List.drop_eq_nil_of_le (by omega)]
/-- No cell more. -/
def Shr (t t' : Tr α) : Prop := ∀ i, t.get i = none → t'.get i = none
theorem Shr.refl (t : Tr α) : Shr t t := fun _ h => h
theorem Shr.trans {a b c : Tr α} (h : Shr a b) (k : Shr b c) : Shr a c := fun i hi => k i (h i hi)
theorem Shr.put (t : Tr α) (n : Nat) (x : α) : Shr t (t.put n x) := by
  intro i hi
  rw [Tr.get_put]
  split
  · rename_i e; subst e; rw [hi]; rfl
  · exact hi
def Bound (t : Tr α) (nt : Nat) : Prop := ∀ i, nt ≤ i → t.get i = none
theorem Bound.shr {t t' : Tr α} {nt : Nat} (h : Bound t nt) (k : Shr t t') : Bound t' nt := fun i hi => k i (h i hi)
theorem Bound.le {t : Tr α} {fr : List α} {nt : Nat} (h : Bound t nt) (hr : Rep t fr) : fr.length ≤ nt := by
  have := (hr nt).symm.trans (h nt (Nat.le_refl _))
  exact List.getElem?_eq_none_iff.1 this
theorem Rep.bound {t : Tr α} {fr : List α} {nt : Nat} (hr : Rep t fr) (h : fr.length ≤ nt) : Bound t nt := fun i hi => by
  rw [hr i]
  exact List.getElem?_eq_none (by omega)
theorem Rep.put {t : Tr α} {fr : List α} (h : Rep t fr) (n : Nat) (x : α) : Rep (t.put n x) (fr.set n x) := by
  intro i
  rw [Tr.get_put, List.getElem?_set]
  by_cases e : i = n
  · subst e
    rw [if_pos rfl, if_pos rfl, h i]
    by_cases hi : i < fr.length
    · rw [if_pos hi, List.getElem?_eq_getElem hi]; rfl
    · rw [if_neg hi, List.getElem?_eq_none (by omega)]; rfl
  · rw [if_neg e, if_neg (Ne.symm e), h i]
/-- The first cells set, one by one. -/
noncomputable def Tr.sets (t : Tr α) (xs : List α) (i : Nat) (k : Tr α → β) : β :=
  List.rec (motive := fun _ => Tr α → Nat → β) (fun t _ => k t) (fun x _ ih t i => t.set i x fun t => ih t (Nat.succ i)) xs t i
theorem Tr.sets_rep {d : α} : ∀ (xs : List α) (m : Nat) (pre : List α) (t : Tr α), Rep t (pre ++ List.replicate m d) → xs.length ≤ m → ∃ t', (∀ {β : Type} (k : Tr α → β), t.sets xs pre.length k = k t') ∧ Rep t' (pre ++ xs ++ List.replicate (m - xs.length) d)
  | [], m, pre, t, h, _ => ⟨t, fun _ => rfl, by simpa using h⟩
  | x :: xs, m, pre, t, h, hl => by
    simp only [List.length_cons] at hl
    have h1 := h.put pre.length x
    have e1 : (pre ++ List.replicate m d).set pre.length x = (pre ++ [x]) ++ List.replicate (m - 1) d := by
      obtain ⟨m', rfl⟩ : ∃ m', m = m' + 1 := ⟨m - 1, by omega⟩
      rw [List.set_append_right _ _ (Nat.le_refl _), Nat.sub_self, List.replicate_succ]
      simp
    rw [e1] at h1
    obtain ⟨t', h2, h3⟩ := Tr.sets_rep xs (m - 1) (pre ++ [x]) _ h1 (by omega)
    refine ⟨t', fun k => ?_, ?_⟩
    · show t.set pre.length x (fun t => t.sets xs (pre.length + 1) k) = k t'
      rw [Tr.set_eq]
      have := h2 k
      simpa using this
    · simp only [List.append_assoc, List.cons_append, List.nil_append, List.length_cons] at h3 ⊢
      rwa [show m - (xs.length + 1) = m - 1 - xs.length by omega]
end

/-! ### Values and blocks, reckoned -/
section
variable {β : Type}
noncomputable def leafK (v : AV) (k : AV → β) : β :=
  match v with
  | .bad => k .bad
  | .bool b => boolK b fun b => k (.bool b)
  | .int d n => intK n fun n => k (.int d n)
  | .float d b => natK b fun b => k (.float d b)
  | .str s => listK idK s fun s => k (.str s)
  | .nilptr => k .nilptr
  | .ptr b o => natK b fun b => natK o fun o => k (.ptr b o)
  | .gptr b o => natK b fun b => natK o fun o => k (.gptr b o)
  | .nilsl => k .nilsl
  | .sl b o l c x => natK b fun b => natK o fun o => natK l fun l => natK c fun c => boolK x fun x => k (.sl b o l c x)
  | .sle b o a => natK b fun b => natK o fun o => natK a fun a => k (.sle b o a)
  | .map b => natK b fun b => k (.map b)
  | .yld b => natK b fun b => k (.yld b)
  | v => k v
theorem leafK_eq (v : AV) (k : AV → β) : leafK v k = k v := by
  cases v <;> simp [leafK, natK_eq, intK_eq, boolK_eq, listK_eq (e := idK) (fun _ _ => rfl)]
noncomputable def avK (v : AV) (k : AV → β) : β :=
  match v with
  | .agg cs => listK leafK cs fun cs => k (.agg cs)
  | .tuple vs => listK leafK vs fun vs => k (.tuple vs)
  | .iface t v => leafK v fun v => k (.iface t v)
  | .fn f a b => listK leafK a fun a => listK leafK b fun b => k (.fn f a b)
  | v => leafK v k
theorem avK_eq (v : AV) (k : AV → β) : avK v k = k v := by
  cases v <;> simp [avK, leafK_eq, listK_eq (e := leafK) leafK_eq]
noncomputable def blkK (b : ABlk) (k : ABlk → β) : β :=
  match b with
  | .dead => k .dead
  | .cells vs e ro => listK idK vs fun vs => natK e fun e => boolK ro fun ro => k (.cells vs e ro)
  | .map es ro => listK idK es fun es => k (.map es ro)
  | .siter s p => natK p fun p => k (.siter s p)
  | b => k b
theorem blkK_eq (b : ABlk) (k : ABlk → β) : blkK b k = k b := by
  cases b <;> simp [blkK, natK_eq, boolK_eq, listK_eq (e := idK) (fun _ _ => rfl)]
noncomputable def heapK (wr old : Nat) (H : AH) (i : Nat) (k : AH → β) : β :=
  List.rec (motive := fun _ => Nat → (AH → β) → β) (fun _ k => k []) (fun b _ ih i k => (Bool.rec (motive := fun _ => (ABlk → β) → β) (idK b) (blkK b) (Bool.or (Nat.ble old i) (Nat.beq i wr))) fun b => ih (Nat.succ i) fun t => k (b :: t)) H i k
theorem heapK_eq (wr old : Nat) (H : AH) : ∀ (i : Nat) (k : AH → β), heapK wr old H i k = k H := by
  induction H with
  | nil => intro i k; rfl
  | cons b t ih =>
    intro i k
    show (Bool.rec (motive := fun _ => (ABlk → β) → β) (idK b) (blkK b) (Bool.or (Nat.ble old i) (Nat.beq i wr))) (fun b => heapK wr old t (Nat.succ i) fun t => k (b :: t)) = k (b :: t)
    cases Bool.or (Nat.ble old i) (Nat.beq i wr) with
    | true => show blkK b _ = _; rw [blkK_eq, ih]
    | false => show idK b _ = _; rw [idK, ih]
noncomputable def putT (t : Tr AV) (d : Option Tmp) (v : AV) (k : Tr AV → β) : β :=
  match d with
  | none => k t
  | some i => avK v fun v => t.set i v k
end
theorem putT_rep {t : Tr AV} {fr : List AV} (h : Rep t fr) (d : Option Tmp) (v : AV) : ∃ t', (∀ {β : Type} (k : Tr AV → β), putT t d v k = k t') ∧ Rep t' (aput fr d v) ∧ Shr t t' := by
  cases d with
  | none => exact ⟨t, fun _ => rfl, h, Shr.refl t⟩
  | some i => exact ⟨t.put i v, fun k => by simp [putT, avK_eq, Tr.set_eq], h.put i v, Shr.put t i v⟩

noncomputable def aevalT (t : Tr AV) : Operand → AV
  | .tmp i => Option.rec (motive := fun _ => AV) (.tuple []) (fun v => v) (t.get i)
  | x => aeval [] x
theorem aevalT_eq {t : Tr AV} {fr : List AV} (h : Rep t fr) : aevalT t = aeval fr := by
  funext x
  cases x with
  | tmp i =>
    show Option.rec (motive := fun _ => AV) (.tuple []) (fun v => v) (t.get i) = fr.getD i (.tuple [])
    rw [h i, List.getD_eq_getElem?_getD]
    cases fr[i]? <;> rfl
  | _ => rfl
noncomputable def awantedT (ops : Array Oper) (o : Oper) (t : Tr AV) : Option Bool :=
  match o.guard with
  | none => some true
  | some (j, want) =>
    match (getR ops.toList j).bind (·.dst) with
    | none => some false
    | some d =>
      match t.get d with
      | none => some false
      | some (.bool b) => some (b == want)
      | some .bad => none
      | some .opq => none
      | some _ => some false
theorem awantedT_eq {ops : Array Oper} {o : Oper} {t : Tr AV} {fr : List AV} (h : Rep t fr) : awantedT ops o t = awanted ops o fr := by
  unfold awantedT awanted
  cases hg : o.guard with
  | none => rfl
  | some q =>
    obtain ⟨j, want⟩ := q
    simp only [getR_eq, Array.getElem?_toList]
    cases hd : (ops[j]?).bind (·.dst) with
    | none => rfl
    | some d =>
      simp only [h d]
      rfl

/-! ### Loads and stores of one cell -/
noncomputable def fload (P : Program) (t : TypeId) (H : AH) (p : AV) : Option AV :=
  match isAggP P t, p with
  | some false, .ptr b off =>
    match getR H b with
    | some (.cells vs _ _) => getR vs off
    | _ => none
  | _, _ => none
theorem fload_eq {P : Program} {t : TypeId} {H : AH} {p v : AV} (h : fload P t H p = some v) : aload P t H p = some v := by
  unfold fload at h
  split at h
  · rename_i b off ha
    split at h
    · rename_i vs e ro hb
      rw [getR_eq] at hb h
      simp only [aload, cellsOf?, hb, aloadAt, ha, h]
    · cases h
  · cases h
def oneCell (P : Program) (t : TypeId) : Bool :=
  match P.info? t with
  | some i => Nat.beq i.size 1
  | none => false
noncomputable def fstore {β : Type} (P : Program) (t : TypeId) (H : AH) (p v : AV) (k : AH → Nat → β) (d : β) : β :=
  match p, oneCell P t, v.one with
  | .ptr b off, true, true =>
    match getR H b with
    | some (.cells vs esz false) => avK v fun v => setR vs off v (fun vs => setR H b (.cells vs esz false) (fun H => k H b) d) d
    | _ => d
  | _, _, _ => d
theorem fstore_eq {P : Program} {t : TypeId} {H : AH} {p v : AV} {r : AO} (h : fstore P t H p v (fun H b => some (AO.val (.tuple []) (some (H, b)))) none = some r) : ∃ H' b, astore P t H p v = some H' ∧ b = ptrOf p ∧ r = .val (.tuple []) (some (H', b)) := by
  unfold fstore at h
  split at h
  · rename_i b off h1 h2
    split at h
    · rename_i vs esz hb
      rw [avK_eq, setR_eq] at h
      split at h
      · rename_i hoff
        rw [setR_eq] at h
        split at h
        · rename_i hbl
          cases h
          refine ⟨_, b, ?_, rfl, rfl⟩
          rw [getR_eq] at hb
          unfold oneCell at h1
          cases hi : P.info? t with
          | none => rw [hi] at h1; cases h1
          | some i =>
            rw [hi] at h1
            have hsz : i.size = 1 := Nat.eq_of_beq_eq_true h1
            have hcells : v.cells = [v] := by cases v <;> first | rfl | (simp [AV.one] at h2)
            have hall : AV.allOne [v] = true := by simp [AV.allOne, h2]
            simp only [astore, hb, hi, hcells, hall, hsz, List.length_cons, List.length_nil, true_and]
            rw [if_pos (by omega)]
            rfl
        · cases h
      · cases h
    · cases h
  · cases h
/-! ### Numbers -/
theorem pureRun_bind {α β : Type} (P : Program) : ∀ (s : Sem α) (f : α → Sem β) {a : α}, pureRun P s = some a → pureRun P (s >>= f) = pureRun P (f a) := by
  intro s
  induction s with
  | pure b => intro f a h; simp [pureRun] at h; subst h; rfl
  | program k ih => intro f a h; simp only [pureRun] at h; exact ih P f h
  | mark m k ih => intro f a h; simp only [pureRun] at h; exact ih f h
  | _ => intro f a h; simp [pureRun] at h
theorem pureRun_underlying {P : Program} {t : TypeId} {d : TypeDesc} (h : P.underlying t = some d) : pureRun P (underlying t) = some d := by
  have e : pureRun P (underlying t) = pureRun P (match P.underlying t with | some d => pure d | none => stuck "no such type") := rfl
  rw [e, h]; rfl
theorem pureRun_int {P : Program} {s d : TypeId} {ds : TypeDesc} {k0 k : IntKind} {n : Int} (hs : P.underlying s = some ds) (hd : P.underlying d = some (.int k)) : pureRun P (convert s d (.int k0 n)) = some (.int k (k.wrap n)) := by
  unfold convert
  rw [pureRun_bind P _ _ (pureRun_underlying hs), pureRun_bind P _ _ (pureRun_underlying hd)]
  rfl
def fwrap (k : IntKind) (n : Int) : Int :=
  match k, n with
  | .i64, .ofNat m => cond (Nat.ble 9223372036854775808 m) (IntKind.i64.wrap n) n
  | .i64, .negSucc m => cond (Nat.ble 9223372036854775808 m) (IntKind.i64.wrap n) n
  | .u8, .ofNat m => .ofNat (Nat.mod m 256)
  | .u64, .ofNat m => .ofNat (Nat.mod m 18446744073709551616)
  | .u32, .ofNat m => .ofNat (Nat.mod m 4294967296)
  | .i32, .ofNat m => cond (Nat.ble 2147483648 m) (IntKind.i32.wrap n) n
  | k, n => k.wrap n
theorem cond_ble {α : Type} (c m : Nat) (x y z : α) (h1 : c ≤ m → x = z) (h2 : m < c → y = z) : cond (Nat.ble c m) x y = z := by
  cases hb : Nat.ble c m with
  | true => exact h1 (Nat.le_of_ble_eq_true hb)
  | false => exact h2 (Nat.lt_of_not_le fun h => by rw [Nat.ble_eq_true_of_le h] at hb; cases hb)
theorem fwrap_eq (k : IntKind) (n : Int) : fwrap k n = k.wrap n := by
  unfold fwrap
  split
  · rename_i m
    refine cond_ble _ _ _ _ _ (fun _ => rfl) (fun h => (IntWalk.i64_in _ ?_).symm)
    have : Int.ofNat m = (m : Int) := rfl
    omega
  · rename_i m
    refine cond_ble _ _ _ _ _ (fun _ => rfl) (fun h => (IntWalk.i64_in _ ?_).symm)
    have : Int.negSucc m = -((m : Int) + 1) := rfl
    omega
  · rename_i m
    show ((m % 256 : Nat) : Int) = _
    simp [IntKind.wrap, IntKind.signed, IntKind.bits]
  · rename_i m
    show ((m % 18446744073709551616 : Nat) : Int) = _
    simp [IntKind.wrap, IntKind.signed, IntKind.bits]
  · rename_i m
    show ((m % 4294967296 : Nat) : Int) = _
    simp [IntKind.wrap, IntKind.signed, IntKind.bits]
  · rename_i m
    refine cond_ble _ _ _ _ _ (fun _ => rfl) (fun h => (IntWalk.i32_in _ ?_).symm)
    have : Int.ofNat m = (m : Int) := rfl
    omega
  · rfl
def kidx : IntKind → Nat
  | .i8 => 0 | .i16 => 1 | .i32 => 2 | .i64 => 3 | .u8 => 4 | .u16 => 5 | .u32 => 6 | .u64 => 7
theorem kidx_inj {k k' : IntKind} (h : Nat.beq (kidx k) (kidx k') = true) : k = k' := by
  cases k <;> cases k' <;> first | rfl | (exact absurd h (by decide))
def ltI (a b : Int) : Bool :=
  match a, b with
  | .ofNat m, .ofNat n => Nat.ble (Nat.succ m) n
  | .negSucc _, .ofNat _ => true
  | .ofNat _, .negSucc _ => false
  | .negSucc m, .negSucc n => Nat.ble (Nat.succ n) m
theorem ltI_eq (a b : Int) : ltI a b = decide (a < b) := by
  have key : ∀ {p : Bool} {q : Prop} [Decidable q], (p = true ↔ q) → p = decide q := fun {p q _} h => by cases p <;> simp_all
  apply key
  cases a <;> cases b <;> simp [ltI, Nat.ble_eq] <;> omega
def eqI (a b : Int) : Bool :=
  match a, b with
  | .ofNat m, .ofNat n => Nat.beq m n
  | .negSucc m, .negSucc n => Nat.beq m n
  | _, _ => false
theorem eqI_eq (a b : Int) : eqI a b = decide (a = b) := by
  have key : ∀ {p : Bool} {q : Prop} [Decidable q], (p = true ↔ q) → p = decide q := fun {p q _} h => by cases p <;> simp_all
  apply key
  cases a <;> cases b <;> simp [eqI] <;> omega
def fbin (op : BinOp) (k : IntKind) (a b : Int) : Option AV :=
  match op with
  | .add => some (.int k (fwrap k (Int.add a b)))
  | .sub => some (.int k (fwrap k (Int.sub a b)))
  | .mul => some (.int k (fwrap k (Int.mul a b)))
  | .eql => some (.bool (eqI a b))
  | .neq => some (.bool (Bool.not (eqI a b)))
  | .lss => some (.bool (ltI a b))
  | .gtr => some (.bool (ltI b a))
  | .leq => some (.bool (Bool.not (ltI b a)))
  | .geq => some (.bool (Bool.not (ltI a b)))
  | _ => none
theorem fbin_eq {P : Program} {op : BinOp} {t : TypeId} {xo yo : Operand} {k : IntKind} {a b : Int} {v : AV} (h : fbin op k a b = some v) : abinOp P op t xo yo (.int k a) (.int k b) = some v := by
  have run : ∀ (u : Value), (pureRun P (do eqGuard op t xo yo (.int k a) (.int k b); binOp op t (.int k a) (.int k b) : Sem Value)) = some u → abinOp P op t xo yo (.int k a) (.int k b) = some (ofV1 u) := fun u hu => by
    unfold abinOp
    simp only [AV.sc]
    rw [hu]
    rfl
  unfold fbin at h
  split at h <;> cases h
  · rw [run (.int k (k.wrap (a + b))) (by cases k <;> rfl), fwrap_eq]; rfl
  · rw [run (.int k (k.wrap (a - b))) (by cases k <;> rfl), fwrap_eq]; rfl
  · rw [run (.int k (k.wrap (a * b))) (by cases k <;> rfl), fwrap_eq]; rfl
  · rw [run (.bool (a == b)) (by cases k <;> rfl), eqI_eq]; rfl
  · rw [run (.bool (a != b)) (by cases k <;> rfl), eqI_eq]; rfl
  · rw [run (.bool (a < b)) (by cases k <;> rfl), ltI_eq]; rfl
  · rw [run (.bool (a > b)) (by cases k <;> rfl), ltI_eq]; rfl
  · rw [run (.bool (a ≤ b)) (by cases k <;> rfl), ltI_eq, ← decide_not]; simp only [Int.not_lt]; rfl
  · rw [run (.bool (a ≥ b)) (by cases k <;> rfl), ltI_eq, ← decide_not]; simp only [Int.not_lt]; rfl
def fMove (ρ : Operand → AV) (x : Operand) : Option AO := some (.val (ρ x) none)
def fPick (ρ : Operand → AV) (c a b : Operand) : Option AO :=
  match ρ c with
  | .bool true => some (.val (ρ a) none)
  | .bool false => some (.val (ρ b) none)
  | _ => none
noncomputable def fLoad (P : Program) (ρ : Operand → AV) (H : AH) (t : TypeId) (a : Operand) : Option AO :=
  match fload P t H (ρ a) with
  | some v => some (.val v none)
  | none => none
noncomputable def fStore (P : Program) (ρ : Operand → AV) (H : AH) (t : TypeId) (a x : Operand) : Option AO := fstore P t H (ρ a) (ρ x) (fun H b => some (.val (.tuple []) (some (H, b)))) none
def fBin (ρ : Operand → AV) (op : BinOp) (x y : Operand) : Option AO :=
  match ρ x, ρ y with
  | .int k a, .int k' b =>
    match Nat.beq (kidx k) (kidx k') with
    | true =>
      match fbin op k a b with
      | some v => some (.val v none)
      | none => none
    | false => none
  | _, _ => none
def fConv (P : Program) (ρ : Operand → AV) (s d : TypeId) (x : Operand) : Option AO :=
  match ρ x with
  | .int _ n =>
    match P.underlying s, P.underlying d with
    | some _, some (.int k) => some (.val (.int k (fwrap k n)) none)
    | _, _ => none
  | _ => none
def fExt (ρ : Operand → AV) (x : Operand) (i : Nat) : Option AO := (aextract (ρ x) i).map fun v => .val v none
def fIdx (P : Program) (ρ : Operand → AV) (t : TypeId) (x i : Operand) : Option AO := (aindex P t (ρ x) (ρ i)).map fun v => .val v none
def fIad (P : Program) (ρ : Operand → AV) (t : TypeId) (x i : Operand) : Option AO := (aindexAt P t (ρ x) (ρ i)).map fun v => .val v none
def fFad (P : Program) (ρ : Operand → AV) (s : TypeId) (x : Operand) (f : Nat) : Option AO := (afieldAt P s (ρ x) f).map fun v => .val v none
def fFld (P : Program) (ρ : Operand → AV) (s : TypeId) (x : Operand) (f : Nat) : Option AO := (afield P s (ρ x) f).map fun v => .val v none
/-- The length of a text. -/
noncomputable def fLen (P : Program) (t : TypeId) (x : AV) : Option AO :=
  match x with
  | .str s =>
    match P.underlying t with
    | some .string => some (.val (.int .i64 (.ofNat (lenR s))) none)
    | _ => none
  | .sl _ _ n _ _ =>
    match P.underlying t with
    | some (.slice _) => some (.val (.int .i64 (.ofNat n)) none)
    | _ => none
  | _ => none
noncomputable def fCall (P : Program) (ρ : Operand → AV) (H : AH) (c : Call) : Option AO :=
  match c.callee with
  | .builtin .len =>
    match c.argTypes.toList, c.args.toList with
    | [t], [x] => fLen P t (ρ x)
    | _, _ => none
  | _ => acall P c ρ H
noncomputable def fop (P : Program) (o : Oper) (ρ : Operand → AV) (H : AH) : Option AO :=
  match o.op with
  | .move x => fMove ρ x
  | .assign x => fMove ρ x
  | .pick c a b => fPick ρ c a b
  | .load t a => fLoad P ρ H t a
  | .store t a x => fStore P ρ H t a x
  | .binOp op _ x y _ => fBin ρ op x y
  | .convert s d x => fConv P ρ s d x
  | .extract x i => fExt ρ x i
  | .index t x i => fIdx P ρ t x i
  | .indexAddr t x i => fIad P ρ t x i
  | .fieldAddr s x f => fFad P ρ s x f
  | .field s x f => fFld P ρ s x f
  | .call c => fCall P ρ H c
  | _ => none
theorem lenR_eq {α : Type} (l : List α) : lenR l = l.length := by
  have key : ∀ (l : List α) (n : Nat), (List.rec (motive := fun _ => Nat → Nat) (fun n => n) (fun _ _ ih n => ih (Nat.succ n)) l : Nat → Nat) n = n + l.length := by
    intro l
    induction l with
    | nil => intro n; rfl
    | cons a t ih =>
      intro n
      refine (ih (Nat.succ n)).trans ?_
      simp; omega
  have := key l 0
  rw [Nat.zero_add] at this
  exact this
theorem fop_eq {P : Program} {o : Oper} {ρ : Operand → AV} {H : AH} {r : AO} (h : fop P o ρ H = some r) : aop P o ρ H = some r := by
  unfold fop at h
  split at h
  · rename_i x ho; unfold aop; simp only [ho]; exact h
  · rename_i x ho; unfold aop; simp only [ho]; exact h
  · rename_i c a b ho
    unfold aop
    simp only [ho]
    unfold fPick at h
    split at h
    · rename_i hc; rw [hc]; exact h
    · rename_i hc; rw [hc]; exact h
    · cases h
  · rename_i t a ho
    unfold fLoad at h
    split at h
    · rename_i v hl
      cases h
      unfold aop
      simp only [ho, fload_eq hl]
      rfl
    · cases h
  · rename_i t a x ho
    obtain ⟨H', b, h1, h2, h3⟩ := fstore_eq h
    subst h2; subst h3
    unfold aop
    simp only [ho, h1]
    rfl
  · rename_i op t x y yt ho
    unfold fBin at h
    split at h
    · rename_i k a k' b hx hy
      split at h
      · rename_i hk
        have := kidx_inj hk
        subst this
        split at h
        · rename_i v hb
          cases h
          unfold aop
          simp only [ho, hx, hy, fbin_eq hb]
        · cases h
      · cases h
    · cases h
  · rename_i s d x ho
    unfold fConv at h
    split at h
    · rename_i k0 n hx
      split at h
      · rename_i ds k hs hd
        cases h
        unfold aop
        have hp : aptr P s d (.int k0 n) H = none := by
          unfold aptr
          simp only [hs, hd]
        have hrun : pureRun P (convert s d (.int k0 n)) = some (.int k (k.wrap n)) := pureRun_int hs hd
        simp only [ho, hx, hp, aconvert, AV.sc, hrun, fwrap_eq]
        rfl
      · cases h
    · cases h
  · rename_i x i ho; unfold aop; simp only [ho]; exact h
  · rename_i t x i ho; unfold aop; simp only [ho]; exact h
  · rename_i t x i ho; unfold aop; simp only [ho]; exact h
  · rename_i s x f ho; unfold aop; simp only [ho]; exact h
  · rename_i s x f ho; unfold aop; simp only [ho]; exact h
  · rename_i c ho
    unfold aop
    simp only [ho]
    unfold fCall at h
    split at h
    · rename_i hcal
      split at h
      · rename_i t x ht hx
        unfold fLen at h
        split at h
        · rename_i s hs
          split at h
          · rename_i hu
            cases h
            simp [acall, hcal, ht, hx, abuiltin, alenOf, hu, hs, lenR_eq]
          · cases h
        · rename_i b off n c ex hs
          split at h
          · rename_i e hu
            cases h
            simp [acall, hcal, ht, hx, abuiltin, alenOf, hu, hs]
          · cases h
        · cases h
      · cases h
    · exact h
  · cases h

/-! ### The evaluator -/
noncomputable def tOps (P : Program) (call : CallF) (ops : Array Oper) (l : List Oper) : Tr AV → AH → Nat → Option (Tr AV × AH × Nat) :=
  List.rec (motive := fun _ => Tr AV → AH → Nat → Option (Tr AV × AH × Nat)) (fun t H lo => some (t, H, lo)) (fun o _ ih t H lo =>
    match awantedT ops o t with
    | none => none
    | some false => putT t o.dst (.tuple []) fun t => ih t H lo
    | some true =>
      match fop P o (aevalT t) H with
      | some (.val v none) => putT t o.dst v fun t => ih t H lo
      | some (.val v (some (H', wr))) => putT t o.dst v fun t => natK (min lo wr) fun lo => ih t H' lo
      | _ =>
        match aop P o (aevalT t) H with
        | none => none
        | some (.val v none) => putT t o.dst v fun t => ih t H lo
        | some (.val v (some (H', wr))) => putT t o.dst v fun t => natK wr fun wr => heapK wr (lenR H) H' 0 fun H' => natK (min lo wr) fun lo => ih t H' lo
        | some (.call f args) =>
          listK leafK args fun args =>
          match call f args H with
          | none => none
          | some (v, none) => putT t o.dst v fun t => ih t H lo
          | some (v, some (H', wr)) => putT t o.dst v fun t => natK (min lo wr) fun lo => ih t H' lo
        | some (.round ..) => none) l
theorem tOps_ok {P : Program} {call call' : CallF} (hc : ∀ f args H r, call f args H = some r → call' f args H = some r) {ops : Array Oper} : ∀ (l : List Oper) {t t' : Tr AV} {fr : List AV} {H H' : AH} {lo lo' : Nat}, Rep t fr → tOps P call ops l t H lo = some (t', H', lo') →
    ∃ fr', evOps P call' ops l fr H lo = some (fr', H', lo') ∧ Rep t' fr' ∧ Shr t t' := by
  intro l
  induction l with
  | nil => intro t t' fr H H' lo lo' hr h; cases h; exact ⟨fr, rfl, hr, Shr.refl t⟩
  | cons o l ih =>
    intro t t' fr H H' lo lo' hr h
    have e : tOps P call ops (o :: l) t H lo = (match awantedT ops o t with
      | none => none
      | some false => putT t o.dst (.tuple []) fun t => tOps P call ops l t H lo
      | some true =>
        match fop P o (aevalT t) H with
        | some (.val v none) => putT t o.dst v fun t => tOps P call ops l t H lo
        | some (.val v (some (H', wr))) => putT t o.dst v fun t => natK (min lo wr) fun lo => tOps P call ops l t H' lo
        | _ =>
          match aop P o (aevalT t) H with
          | none => none
          | some (.val v none) => putT t o.dst v fun t => tOps P call ops l t H lo
          | some (.val v (some (H', wr))) => putT t o.dst v fun t => natK wr fun wr => heapK wr (lenR H) H' 0 fun H' => natK (min lo wr) fun lo => tOps P call ops l t H' lo
          | some (.call f args) =>
            listK leafK args fun args =>
            match call f args H with
            | none => none
            | some (v, none) => putT t o.dst v fun t => tOps P call ops l t H lo
            | some (v, some (H', wr)) => putT t o.dst v fun t => natK (min lo wr) fun lo => tOps P call ops l t H' lo
          | some (.round ..) => none) := rfl
    rw [e, awantedT_eq hr, aevalT_eq hr] at h
    simp only [evOps]
    split at h
    · cases h
    · rename_i hw
      obtain ⟨t1, h1, h2, hs⟩ := putT_rep hr o.dst (.tuple [])
      rw [h1] at h
      rw [hw]
      obtain ⟨fr2, g1, g2, g3⟩ := ih h2 h
      exact ⟨fr2, g1, g2, hs.trans g3⟩
    · rename_i hw
      rw [hw]
      simp only
      split at h
      · rename_i v hf
        rw [fop_eq hf]
        obtain ⟨t1, h1, h2, hs⟩ := putT_rep hr o.dst v
        rw [h1] at h
        obtain ⟨fr2, g1, g2, g3⟩ := ih h2 h
        exact ⟨fr2, g1, g2, hs.trans g3⟩
      · rename_i v H1 wr hf
        rw [fop_eq hf]
        obtain ⟨t1, h1, h2, hs⟩ := putT_rep hr o.dst v
        rw [h1, natK_eq] at h
        obtain ⟨fr2, g1, g2, g3⟩ := ih h2 h
        exact ⟨fr2, g1, g2, hs.trans g3⟩
      · split at h
        · cases h
        · rename_i v ha
          rw [ha]
          obtain ⟨t1, h1, h2, hs⟩ := putT_rep hr o.dst v
          rw [h1] at h
          obtain ⟨fr2, g1, g2, g3⟩ := ih h2 h
          exact ⟨fr2, g1, g2, hs.trans g3⟩
        · rename_i v H1 wr ha
          rw [ha]
          obtain ⟨t1, h1, h2, hs⟩ := putT_rep hr o.dst v
          rw [h1, natK_eq, heapK_eq, natK_eq] at h
          obtain ⟨fr2, g1, g2, g3⟩ := ih h2 h
          exact ⟨fr2, g1, g2, hs.trans g3⟩
        · rename_i f args ha
          rw [ha]
          simp only
          rw [listK_eq (e := leafK) leafK_eq] at h
          split at h
          · cases h
          · rename_i v hcall
            rw [hc _ _ _ _ hcall]
            obtain ⟨t1, h1, h2, hs⟩ := putT_rep hr o.dst v
            rw [h1] at h
            obtain ⟨fr2, g1, g2, g3⟩ := ih h2 h
            exact ⟨fr2, g1, g2, hs.trans g3⟩
          · rename_i v H1 wr hcall
            rw [hc _ _ _ _ hcall]
            obtain ⟨t1, h1, h2, hs⟩ := putT_rep hr o.dst v
            rw [h1, natK_eq] at h
            obtain ⟨fr2, g1, g2, g3⟩ := ih h2 h
            exact ⟨fr2, g1, g2, hs.trans g3⟩
        · cases h
noncomputable def tQuiet (P : Program) (call : CallF) (ops : Array Oper) (l : List Oper) : Tr AV → AH → Option (Tr AV) :=
  List.rec (motive := fun _ => Tr AV → AH → Option (Tr AV)) (fun t _ => some t) (fun o _ ih t H =>
    match awantedT ops o t with
    | none => none
    | some false => putT t o.dst (.tuple []) fun t => ih t H
    | some true =>
      match aop P o (aevalT t) H with
      | some (.val v none) => if v.det then putT t o.dst v fun t => ih t H else none
      | some (.call f args) =>
        listK leafK args fun args =>
        match call f args H with
        | some (v, none) => if v.det then putT t o.dst v fun t => ih t H else none
        | _ => none
      | _ => none) l
theorem tQuiet_ok {P : Program} {call call' : CallF} (hc : ∀ f args H r, call f args H = some r → call' f args H = some r) {ops : Array Oper} : ∀ (l : List Oper) {t t' : Tr AV} {fr : List AV} {H : AH}, Rep t fr → tQuiet P call ops l t H = some t' →
    ∃ fr', evQuiet P call' ops l fr H = some fr' ∧ Rep t' fr' ∧ Shr t t' := by
  intro l
  induction l with
  | nil => intro t t' fr H hr h; cases h; exact ⟨fr, rfl, hr, Shr.refl t⟩
  | cons o l ih =>
    intro t t' fr H hr h
    have e : tQuiet P call ops (o :: l) t H = (match awantedT ops o t with
      | none => none
      | some false => putT t o.dst (.tuple []) fun t => tQuiet P call ops l t H
      | some true =>
        match aop P o (aevalT t) H with
        | some (.val v none) => if v.det then putT t o.dst v fun t => tQuiet P call ops l t H else none
        | some (.call f args) =>
          listK leafK args fun args =>
          match call f args H with
          | some (v, none) => if v.det then putT t o.dst v fun t => tQuiet P call ops l t H else none
          | _ => none
        | _ => none) := rfl
    rw [e, awantedT_eq hr, aevalT_eq hr] at h
    simp only [evQuiet]
    split at h
    · cases h
    · rename_i hw
      obtain ⟨t1, h1, h2, hs⟩ := putT_rep hr o.dst (.tuple [])
      rw [h1] at h
      rw [hw]
      obtain ⟨fr2, g1, g2, g3⟩ := ih h2 h
      exact ⟨fr2, g1, g2, hs.trans g3⟩
    · rename_i hw
      rw [hw]
      simp only
      split at h
      · rename_i v ha
        rw [ha]
        simp only
        split at h
        · rename_i hd
          rw [if_pos hd]
          obtain ⟨t1, h1, h2, hs⟩ := putT_rep hr o.dst v
          rw [h1] at h
          obtain ⟨fr2, g1, g2, g3⟩ := ih h2 h
          exact ⟨fr2, g1, g2, hs.trans g3⟩
        · cases h
      · rename_i f args ha
        rw [ha]
        simp only
        rw [listK_eq (e := leafK) leafK_eq] at h
        split at h
        · rename_i v hcall
          rw [hc _ _ _ _ hcall]
          simp only
          split at h
          · rename_i hd
            rw [if_pos hd]
            obtain ⟨t1, h1, h2, hs⟩ := putT_rep hr o.dst v
            rw [h1] at h
            obtain ⟨fr2, g1, g2, g3⟩ := ih h2 h
            exact ⟨fr2, g1, g2, hs.trans g3⟩
          · cases h
        · cases h
      · cases h
/-- The frame as a list, and back. -/
noncomputable def Tr.ofL (fr : List AV) : Tr AV := (Tr.mk (.tuple []) 16 (lenR fr)).sets fr 0 fun t => t
theorem ofL_rep {fr : List AV} (h : fr.length < 65536) : Rep (Tr.ofL fr) fr := by
  have h0 : Rep (Tr.mk (.tuple [] : AV) 16 (lenR fr)) ([] ++ List.replicate fr.length (.tuple [])) := by
    intro i
    rw [Tr.get_mk _ _ _ _ (by rw [lenR_eq]; omega), lenR_eq, List.nil_append, List.getElem?_replicate]
  obtain ⟨t', h1, h2⟩ := Tr.sets_rep fr fr.length [] _ h0 (Nat.le_refl _)
  have e : Tr.ofL fr = t' := h1 fun t => t
  rw [e]
  simpa using h2
noncomputable def tDraw0 (P : Program) (call : CallF) (ops : Array Oper) (nt : Nat) (t : Tr AV) (H : AH) (lo : Nat) : Option (Tr AV × AH × Nat) :=
  match (if stillB ops then tQuiet P call ops ops.toList t H else none) with
  | some t' => some (t', H, lo)
  | none =>
    match tailQ ops with
    | none =>
      if stillB ops then none
      else listK idK (t.list nt 0) fun fr =>
        match evGen P call ops (genAt ops) fr H lo with
        | some (fr', H', lo') => listK avK fr' fun fr' => if Nat.ble 65536 (lenR fr') || Nat.ble (Nat.succ nt) (lenR fr') then none else natK lo' fun lo' => heapK lo' lo' H' 0 fun H' => some (Tr.ofL fr', H', lo')
        | none => none
    | some k =>
      match tQuiet P call ops (ops.toList.take k) t H with
      | none => none
      | some t1 => tOps P call ops (ops.toList.drop k) t1 H lo
noncomputable def tGen (P : Program) (call : CallF) (ops : Array Oper) (nt : Nat) (t : Tr AV) (H : AH) (lo : Nat) : Option (Tr AV × AH × Nat) :=
  listK idK (t.list nt 0) fun fr =>
  match evGen P call ops (genAt ops) fr H lo with
  | some (fr', H', lo') => listK avK fr' fun fr' => if Nat.ble 65536 (lenR fr') || Nat.ble (Nat.succ nt) (lenR fr') then none else natK lo' fun lo' => heapK lo' lo' H' 0 fun H' => some (Tr.ofL fr', H', lo')
  | none => none
noncomputable def tDraw (P : Program) (call : CallF) (ops : Array Oper) (nt : Nat) (t : Tr AV) (H : AH) (lo : Nat) : Option (Tr AV × AH × Nat) :=
  if newB P ops = true then tGen P call ops nt t H lo else tDraw0 P call ops nt t H lo
theorem tGen_ok {P : Program} {call call' : CallF} (hc : ∀ f args H r, call f args H = some r → call' f args H = some r) {ops : Array Oper} {nt : Nat} {t t' : Tr AV} {fr : List AV} {H H' : AH} {lo lo' : Nat} (hr : Rep t fr) (hn : Bound t nt) (h : tGen P call ops nt t H lo = some (t', H', lo')) :
    ∃ fr', evGen P call' ops (genAt ops) fr H lo = some (fr', H', lo') ∧ Rep t' fr' ∧ Bound t' nt := by
  have grows : Grows call call' := hc
  unfold tGen at h
  rw [listK_eq (e := idK) (fun _ _ => rfl), Tr.list_eq hr nt 0 (by have := hn.le hr; omega), List.drop_zero] at h
  split at h
  · rename_i fr1 H1 lo1 hg
    rw [listK_eq (e := avK) avK_eq] at h
    split at h
    · cases h
    · rename_i hl
      rw [natK_eq, heapK_eq] at h
      cases h
      have hl' : lenR fr1 < 65536 ∧ lenR fr1 ≤ nt := by
        constructor
        · exact Nat.lt_of_not_le fun hh => hl (by rw [Nat.ble_eq_true_of_le hh]; rfl)
        · exact Nat.le_of_not_lt fun hh => hl (by rw [Nat.ble_eq_true_of_le (show nt.succ ≤ lenR fr1 from hh), Bool.or_true])
      rw [lenR_eq] at hl'
      exact ⟨fr1, evGen_grows grows hg, ofL_rep hl'.1, (ofL_rep hl'.1).bound hl'.2⟩
  · cases h
theorem tDraw0_ok {P : Program} {call call' : CallF} (hc : ∀ f args H r, call f args H = some r → call' f args H = some r) {ops : Array Oper} {nt : Nat} {t t' : Tr AV} {fr : List AV} {H H' : AH} {lo lo' : Nat} (hr : Rep t fr) (hn : Bound t nt) (h : tDraw0 P call ops nt t H lo = some (t', H', lo')) :
    ∃ fr', evDraw0 P call' ops fr H lo = some (fr', H', lo') ∧ Rep t' fr' ∧ Bound t' nt := by
  have grows : Grows call call' := hc
  unfold tDraw0 at h
  split at h
  · rename_i t1 hq
    cases h
    split at hq
    · rename_i hs
      obtain ⟨fr1, h1, h2, h5⟩ := tQuiet_ok hc _ hr hq
      refine ⟨fr1, ?_, h2, hn.shr h5⟩
      unfold evDraw0
      rw [if_pos hs, h1]
    · cases hq
  · rename_i hq
    split at h
    · rename_i hk
      split at h
      · cases h
      · rename_i hs
        rw [listK_eq (e := idK) (fun _ _ => rfl), Tr.list_eq hr nt 0 (by have := hn.le hr; omega), List.drop_zero] at h
        split at h
        · rename_i fr1 H1 lo1 hg
          rw [listK_eq (e := avK) avK_eq] at h
          split at h
          · cases h
          · rename_i hl
            rw [natK_eq, heapK_eq] at h
            cases h
            have hl' : lenR fr1 < 65536 ∧ lenR fr1 ≤ nt := by
              constructor
              · exact Nat.lt_of_not_le fun hh => hl (by rw [Nat.ble_eq_true_of_le hh]; rfl)
              · exact Nat.le_of_not_lt fun hh => hl (by rw [Nat.ble_eq_true_of_le (show nt.succ ≤ lenR fr1 from hh), Bool.or_true])
            rw [lenR_eq] at hl'
            refine ⟨fr1, ?_, ofL_rep hl'.1, (ofL_rep hl'.1).bound hl'.2⟩
            unfold evDraw0
            rw [if_neg hs]
            simp only [hk]
            rw [if_neg hs]
            exact evGen_grows grows hg
        · cases h
    · rename_i k hk
      split at h
      · cases h
      · rename_i t1 hq1
        obtain ⟨fr1, h1, h2, h5⟩ := tQuiet_ok hc _ hr hq1
        obtain ⟨fr2, h3, h4, h6⟩ := tOps_ok hc _ h2 h
        exact ⟨fr2, evDraw_of_tail hk h1 h3, h4, hn.shr (h5.trans h6)⟩
theorem tDraw_ok {P : Program} {call call' : CallF} (hc : ∀ f args H r, call f args H = some r → call' f args H = some r) {ops : Array Oper} {nt : Nat} {t t' : Tr AV} {fr : List AV} {H H' : AH} {lo lo' : Nat} (hr : Rep t fr) (hn : Bound t nt) (h : tDraw P call ops nt t H lo = some (t', H', lo')) :
    ∃ fr', evDraw P call' ops fr H lo = some (fr', H', lo') ∧ Rep t' fr' ∧ Bound t' nt := by
  unfold tDraw at h
  unfold evDraw
  split at h
  · rename_i hb
    rw [if_pos hb]; exact tGen_ok hc hr hn h
  · rename_i hb
    rw [if_neg hb]; exact tDraw0_ok hc hr hn h
noncomputable def aresultT (P : Program) (t : Tr AV) (H : AH) : ResultVar → Option AV
  | .tmp i => some (aevalT t (.tmp i))
  | .cell a ty =>
    match fload P ty H (aevalT t (.tmp a)) with
    | some v => some v
    | none => aload P ty H (aevalT t (.tmp a))
noncomputable def aresultsT (P : Program) (t : Tr AV) (H : AH) : List ResultVar → Option (List AV)
  | [] => some []
  | r :: rs =>
    match aresultT P t H r, aresultsT P t H rs with
    | some v, some vs => some (v :: vs)
    | _, _ => none
theorem aresultT_eq {P : Program} {t : Tr AV} {fr : List AV} {H : AH} (hr : Rep t fr) (r : ResultVar) : aresultT P t H r = aresult P fr H r := by
  cases r with
  | tmp i => unfold aresultT aresult; rw [aevalT_eq hr]; rfl
  | cell a ty =>
    simp only [aresultT, aresult]
    rw [aevalT_eq hr]
    cases hf : fload P ty H (aeval fr (.tmp a)) with
    | none => rfl
    | some v => exact (fload_eq hf).symm
theorem aresultsT_eq {P : Program} {t : Tr AV} {fr : List AV} {H : AH} (hr : Rep t fr) : ∀ rs, aresultsT P t H rs = aresults P fr H rs
  | [] => rfl
  | r :: rs => by rw [aresultsT, aresults, aresultT_eq hr, aresultsT_eq hr rs]; rfl
noncomputable def tCall (E : Env) (rec : Nat → Code → Tr AV → AH → Nat → Option (AEx × Tr AV × AH × Nat)) : CallF := fun f args H =>
  match E.orc f args H with
  | some r => some r
  | none =>
    match E.P.funcs[f]? with
    | none => none
    | some fn =>
      match fn.body with
      | none => none
      | some c =>
        if Nat.ble (lenR args) fn.ntmps && Nat.ble fn.ntmps 65535 then
          (Tr.mk (.tuple []) 16 fn.ntmps).sets args 0 fun t =>
          natK (lenR H) fun n =>
          match rec fn.ntmps c t H n with
          | some (.exit _, _, _, _) => none
          | some (_, t, H', lo) =>
            match aresultsT E.P t H' fn.results.toList with
            | some vs => avK (oneOf vs) fun v => if Nat.beq lo n = true ∧ v.flat = true then some (v, none) else some (v, some (H', lo))
            | none => none
          | none => none
        else none
noncomputable def tev (E : Env) : Nat → Nat → Code → Tr AV → AH → Nat → Option (AEx × Tr AV × AH × Nat)
  | 0, _, _, _, _, _ => none
  | n + 1, nt, c, t, H, lo =>
    match c with
    | .skip => some (.normal, t, H, lo)
    | .label _ => some (.normal, t, H, lo)
    | .region _ ops false =>
      match tOps E.P (tCall E (tev E n)) ops ops.toList t H lo with
      | some (t', H', lo') => some (.normal, t', H', lo')
      | none => none
    | .region _ ops true =>
      match tDraw E.P (tCall E (tev E n)) ops nt t H lo with
      | some (t', H', lo') => some (.normal, t', H', lo')
      | none => none
    | .seq a b =>
      match tev E n nt a t H lo with
      | some (.normal, t', H', lo') => tev E n nt b t' H' lo'
      | r => r
    | .cond c x y =>
      match aevalT t c with
      | .bool true => tev E n nt x t H lo
      | .bool false => tev E n nt y t H lo
      | _ => none
    | .block id b =>
      match tev E n nt b t H lo with
      | some (.exit i, t', H', lo') => if Nat.beq i id = true then some (.normal, t', H', lo') else some (.exit i, t', H', lo')
      | r => r
    | .loop b =>
      match tev E n nt b t H lo with
      | some (.normal, t', H', lo') => tev E n nt (.loop b) t' H' lo'
      | r => r
    | .exit id => some (.exit id, t, H, lo)
    | .scope b => tev E n nt b t H lo
    | .ret => some (.ret, t, H, lo)
    | _ => none
def TevOk (a : Nat → Code → Tr AV → AH → Nat → Option (AEx × Tr AV × AH × Nat)) (b : Code → List AV → AH → Nat → Option (AEx × List AV × AH × Nat)) : Prop :=
  ∀ nt c t fr H lo ex t' H' lo', Rep t fr → Bound t nt → a nt c t H lo = some (ex, t', H', lo') → ∃ fr', b c fr H lo = some (ex, fr', H', lo') ∧ Rep t' fr' ∧ Bound t' nt
theorem tCall_ok {E : Env} {a : Nat → Code → Tr AV → AH → Nat → Option (AEx × Tr AV × AH × Nat)} {b : Code → List AV → AH → Nat → Option (AEx × List AV × AH × Nat)} (hab : TevOk a b) : ∀ f args H r, tCall E a f args H = some r → evCall E b f args H = some r := by
  intro f args H r h
  unfold tCall at h
  unfold evCall
  cases ho : E.orc f args H with
  | some r0 =>
    rw [ho] at h
    exact h
  | none =>
    rw [ho] at h
    simp only at h ⊢
    cases hf : E.P.funcs[f]? with
    | none => rw [hf] at h; cases h
    | some fn =>
      rw [hf] at h
      simp only at h ⊢
      cases hb : fn.body with
      | none => rw [hb] at h; cases h
      | some c =>
        rw [hb] at h
        simp only at h ⊢
        split at h
        · rename_i hle
          simp only [Bool.and_eq_true, Nat.ble_eq, lenR_eq] at hle
          have h0 : Rep (Tr.mk (.tuple [] : AV) 16 fn.ntmps) ([] ++ List.replicate fn.ntmps (.tuple [])) := by
            intro i
            rw [Tr.get_mk _ _ _ _ (by omega), List.nil_append, List.getElem?_replicate]
          obtain ⟨t0, h1, h2⟩ := Tr.sets_rep args fn.ntmps [] _ h0 hle.1
          have h1' := h1 (β := Option (AV × Option (AH × Nat)))
          simp only [List.length_nil] at h1'
          rw [h1', natK_eq, lenR_eq] at h
          rw [List.nil_append] at h2
          cases hrec : a fn.ntmps c t0 H H.length with
          | none => rw [hrec] at h; cases h
          | some q =>
            obtain ⟨ex, t1, H1, lo1⟩ := q
            rw [hrec] at h
            obtain ⟨fr1, h3, h4, _⟩ := hab _ _ _ _ _ _ _ _ _ _ h2 (h2.bound (by simp; omega)) hrec
            rw [h3]
            cases ex with
            | exit id => cases h
            | normal =>
              simp only [aresultsT_eq h4, avK_eq, Nat.beq_eq] at h ⊢
              exact h
            | ret =>
              simp only [aresultsT_eq h4, avK_eq, Nat.beq_eq] at h ⊢
              exact h
        · cases h
theorem tev_ok (E : Env) : ∀ n, TevOk (tev E n) (ev E n) := by
  intro n
  induction n with
  | zero => intro nt c t fr H lo ex t' H' lo' hr hb h; simp [tev] at h
  | succ n ih =>
    have hC := tCall_ok (E := E) ih
    intro nt c t fr H lo ex t' H' lo' hr hb h
    cases c with
    | skip => simp only [tev] at h; cases h; exact ⟨fr, rfl, hr, hb⟩
    | label l => simp only [tev] at h; cases h; exact ⟨fr, rfl, hr, hb⟩
    | exit id => simp only [tev] at h; cases h; exact ⟨fr, rfl, hr, hb⟩
    | ret => simp only [tev] at h; cases h; exact ⟨fr, rfl, hr, hb⟩
    | rangeFunc f ps as b => simp [tev] at h
    | goto l => simp [tev] at h
    | refuse why => simp [tev] at h
    | scope b =>
      rw [tev] at h
      rw [ev]
      exact ih _ _ _ _ _ _ _ _ _ _ hr hb h
    | region id ops draw =>
      cases draw with
      | false =>
        rw [tev] at h
        rw [ev]
        split at h
        · rename_i t1 H1 lo1 he
          cases h
          obtain ⟨fr1, h1, h2, h3⟩ := tOps_ok hC _ hr he
          exact ⟨fr1, by rw [h1], h2, hb.shr h3⟩
        · cases h
      | true =>
        rw [tev] at h
        rw [ev]
        split at h
        · rename_i t1 H1 lo1 he
          cases h
          obtain ⟨fr1, h1, h2, h3⟩ := tDraw_ok hC hr hb he
          exact ⟨fr1, by rw [h1], h2, h3⟩
        · cases h
    | cond c x y =>
      rw [tev, aevalT_eq hr] at h
      rw [ev]
      split at h
      · rename_i hc; rw [hc]; exact ih _ _ _ _ _ _ _ _ _ _ hr hb h
      · rename_i hc; rw [hc]; exact ih _ _ _ _ _ _ _ _ _ _ hr hb h
      · cases h
    | seq a b =>
      rw [tev] at h
      rw [ev]
      cases hq : tev E n nt a t H lo with
      | none => rw [hq] at h; cases h
      | some q =>
        obtain ⟨ex1, t1, H1, lo1⟩ := q
        rw [hq] at h
        obtain ⟨fr1, h1, h2, h3⟩ := ih _ _ _ _ _ _ _ _ _ _ hr hb hq
        rw [h1]
        cases ex1 with
        | normal => exact ih _ _ _ _ _ _ _ _ _ _ h2 h3 h
        | exit id => cases h; exact ⟨fr1, rfl, h2, h3⟩
        | ret => cases h; exact ⟨fr1, rfl, h2, h3⟩
    | block id b =>
      rw [tev] at h
      rw [ev]
      cases hq : tev E n nt b t H lo with
      | none => rw [hq] at h; cases h
      | some q =>
        obtain ⟨ex1, t1, H1, lo1⟩ := q
        rw [hq] at h
        obtain ⟨fr1, h1, h2, h3⟩ := ih _ _ _ _ _ _ _ _ _ _ hr hb hq
        rw [h1]
        cases ex1 with
        | normal => cases h; exact ⟨fr1, rfl, h2, h3⟩
        | exit i =>
          simp only [Nat.beq_eq] at h ⊢
          split at h
          · rename_i hi; cases h; exact ⟨fr1, by rw [if_pos hi], h2, h3⟩
          · rename_i hi; cases h; exact ⟨fr1, by rw [if_neg hi], h2, h3⟩
        | ret => cases h; exact ⟨fr1, rfl, h2, h3⟩
    | loop b =>
      rw [tev] at h
      rw [ev]
      cases hq : tev E n nt b t H lo with
      | none => rw [hq] at h; cases h
      | some q =>
        obtain ⟨ex1, t1, H1, lo1⟩ := q
        rw [hq] at h
        obtain ⟨fr1, h1, h2, h3⟩ := ih _ _ _ _ _ _ _ _ _ _ hr hb hq
        rw [h1]
        cases ex1 with
        | normal => exact ih _ _ _ _ _ _ _ _ _ _ h2 h3 h
        | exit id => cases h; exact ⟨fr1, rfl, h2, h3⟩
        | ret => cases h; exact ⟨fr1, rfl, h2, h3⟩
/-- A closed call, reckoned. -/
theorem ev_of_tev {E : Env} {n : Nat} {f : FuncId} {args : List AV} {H : AH} {r : AV × Option (AH × Nat)} (h : tCall E (tev E n) f args H = some r) : evCall E (ev E n) f args H = some r := tCall_ok (tev_ok E n) _ _ _ _ h
end Go.Ve

namespace Go.Ve
open Go Go.RowKit

theorem lift0 {P : Program} {call : CallF} (hC : CallOk P call) {f : FuncId} {args : List AV} {v : AV} (h : call f args [] = some (v, none)) (ha : AV.flats args = true) (hv : v.flat = true)
    {w0 : Base} {φ : List Loc} {H : AH} {w : World} {us : Array Value} (hr : Rel w0 φ H w) (hu : VRs φ args us.toList) : Calls P f us w (CallPost w0 φ H v none) := by
  have h0 : Rel (Base.all w) [] [] w := ⟨rfl, BelowB.refl w, fun b k l hb => by simp at hb, fun b b' k k' l l' hb => by simp at hb⟩
  refine ((hC f args [] v none h).1 (Base.all w) [] w us h0 (VRs.flat [] ha hu)).mono ?_
  rintro e w' ⟨u, φ', rfl, _, h2, rfl, h3⟩
  refine ⟨u, φ, rfl, Ext.refl _, VR.flat φ hv h2, rfl, ?_⟩
  refine ⟨hr.len, ⟨h3.below.os.trans hr.below.os, h3.below.tape.trans hr.below.tape, h3.below.output.trans hr.below.output, Nat.le_trans hr.below.size h3.below.size, fun j hj => ?_⟩, fun b k l hb hl => ?_, hr.inj⟩
  · exact (h3.below.block j (Nat.lt_of_lt_of_le (w0.lt j hj) hr.below.size)).trans (hr.below.block j hj)
  · by_cases hd : k = .dead
    · subst hd; trivial
    · have hbr := hr.blocks b k l hb hl
      exact hbr.keep (h3.below.block l.blk (hbr.lt hr.below.size hd))

/-! ### Plain data, compared -/
noncomputable def bytesEq (a b : List UInt8) : Bool := List.rec (motive := fun _ => List UInt8 → Bool) (fun b => List.rec (motive := fun _ => Bool) true (fun _ _ _ => false) b) (fun x _ ih b => List.rec (motive := fun _ => Bool) false (fun y t _ => Bool.and (Nat.beq x.toNat y.toNat) (ih t)) b) a b
theorem bytesEq_ok : ∀ {a b : List UInt8}, bytesEq a b = true → a = b
  | [], [], _ => rfl
  | [], _ :: _, h => by cases h
  | _ :: _, [], h => by cases h
  | x :: a, y :: b, h => by
    have h' : (Nat.beq x.toNat y.toNat && bytesEq a b) = true := h
    rw [Bool.and_eq_true] at h'
    rw [UInt8.toNat_inj.1 (Nat.eq_of_beq_eq_true h'.1), bytesEq_ok h'.2]
def leafEq : AV → AV → Bool
  | .bool a, .bool b => a == b
  | .int k a, .int k' b => decide (k = k') && decide (a = b)
  | _, _ => false
theorem leafEq_ok {a b : AV} (h : leafEq a b = true) : a = b := by
  unfold leafEq at h
  split at h
  · simpa using h
  · simp only [Bool.and_eq_true, decide_eq_true_eq] at h
    rw [h.1, h.2]
  · cases h
noncomputable def argEq (a b : AV) : Bool :=
  match a, b with
  | .str s, .str t => bytesEq s t
  | a, b => leafEq a b
theorem argEq_ok {a b : AV} (h : argEq a b = true) : a = b := by
  unfold argEq at h
  split at h
  · rw [bytesEq_ok h]
  · exact leafEq_ok h
noncomputable def argsEq : List AV → List AV → Bool
  | [], [] => true
  | a :: as, b :: bs => argEq a b && argsEq as bs
  | _, _ => false
theorem argsEq_ok : ∀ {a b : List AV}, argsEq a b = true → a = b
  | [], [], _ => rfl
  | a :: as, b :: bs, h => by
    simp only [argsEq, Bool.and_eq_true] at h
    rw [argEq_ok h.1, argsEq_ok h.2]
  | [], _ :: _, h => by simp [argsEq] at h
  | _ :: _, [], h => by simp [argsEq] at h
/-- One answer. -/
structure Ent where
  f : FuncId
  args : List AV
  v : AV
noncomputable def orcT : List Ent → CallF
  | [], _, _, _ => none
  | e :: T, f, args, H => if (Nat.beq e.f f && argsEq e.args args) = true then some (e.v, none) else orcT T f args H
def EntOk (P : Program) (e : Ent) : Prop := AV.flats e.args = true ∧ e.v.flat = true ∧ ∃ call : CallF, CallOk P call ∧ call e.f e.args [] = some (e.v, none)
theorem orcT_ok {P : Program} : ∀ {T : List Ent}, (∀ e ∈ T, EntOk P e) → CallOk P (orcT T)
  | [], _, f, args, H, v, ch, h => by simp [orcT] at h
  | e :: T, hT, f, args, H, v, ch, h => by
    unfold orcT at h
    split at h
    · rename_i hc
      simp only [Bool.and_eq_true] at hc
      have e1 : e.f = f := Nat.eq_of_beq_eq_true hc.1
      have e2 := argsEq_ok hc.2
      cases h
      obtain ⟨h1, h2, call, h3, h4⟩ := hT e (by simp)
      subst e1; subst e2
      exact ⟨fun w0 φ w us hr hu => lift0 h3 h4 h1 h2 hr hu, fun H' lo hh => by cases hh⟩
    · exact orcT_ok (fun e' he => hT e' (by simp [he])) f args H v ch h
end Go.Ve

namespace Go.Ve
open Go Go.RowKit

/-! ### Masks, told once -/
/-- The slots that an operation must not read: those of operations that may come up before it or behind it. -/
def hidM (bs : List Nat) (i : Nat) : Nat → List Oper → Nat
  | _, [] => 0
  | k, o :: l =>
    match o.dst with
    | some s => if unord bs i k = true then hidM bs i (k + 1) l ||| (1 <<< s) else hidM bs i (k + 1) l
    | none => hidM bs i (k + 1) l
theorem hidM_bit {bs : List Nat} {i : Nat} {s : Tmp} : ∀ (l : List Oper) (k : Nat), (hidM bs i k l).testBit s = hidB bs i s k l
  | [], k => by simp [hidM, hidB]
  | o :: l, k => by
    have ih := hidM_bit (bs := bs) (i := i) (s := s) l (k + 1)
    unfold hidM hidB
    cases hd : o.dst with
    | none => simp [ih]
    | some s' =>
      simp only
      by_cases hu : unord bs i k = true
      · rw [if_pos hu, Nat.testBit_or, ih, hu, Nat.one_shiftLeft, Nat.testBit_two_pow]
        by_cases e : s' = s
        · subst e; simp
        · have : (some s' == some s) = false := by simp [e]
          rw [this, decide_eq_false e]
          simp
      · rw [if_neg hu, ih]
        have : unord bs i k = false := by simpa using hu
        rw [this]; simp
def hidMs (bs : List Nat) (all : List Oper) : Nat → List Oper → List Nat
  | _, [] => []
  | i, _ :: l => hidM bs i 0 all :: hidMs bs all (i + 1) l
/-! ### The same, reckoned fast -/
def tstB (m s : Nat) : Bool := Nat.beq (Nat.land (Nat.shiftRight m s) 1) 1
theorem tstB_eq (m s : Nat) : tstB m s = m.testBit s := by
  unfold tstB Nat.testBit
  have h : (m >>> s) &&& 1 = (m >>> s) % 2 := Nat.and_one_is_mod _
  have h2 : Nat.land (Nat.shiftRight m s) 1 = (m >>> s) % 2 := h
  have h3 : 1 &&& (m >>> s) = (m >>> s) % 2 := by rw [Nat.and_comm]; exact h
  rw [h2, h3]
  have : (m >>> s) % 2 < 2 := Nat.mod_lt _ (by omega)
  rcases (show (m >>> s) % 2 = 0 ∨ (m >>> s) % 2 = 1 by omega) with e | e <;> rw [e] <;> rfl
def unB (i bi k b : Nat) : Bool := Bool.and (Bool.not (Nat.beq i k)) (Bool.and (Bool.not (tstB bi k)) (Bool.not (tstB b i)))
theorem unB_eq (bs : List Nat) (i k : Nat) : unB i (bs.getD i 0) k (bs.getD k 0) = unord bs i k := by
  unfold unB unord
  rw [tstB_eq, tstB_eq]
  have : (Nat.beq i k) = (i == k) := by rw [Bool.eq_iff_iff]; simp [Nat.beq_eq]
  rw [this]
  simp [Bool.and_assoc, bne]
noncomputable def rowH (i bi : Nat) (l : List Oper) : Nat → List Nat → Nat :=
  List.rec (motive := fun _ => Nat → List Nat → Nat) (fun _ _ => 0) (fun o _ ih k bs =>
    match bs with
    | [] => 0
    | b :: bs =>
      match o.dst with
      | some s => Bool.rec (motive := fun _ => Nat) (ih (Nat.succ k) bs) (Nat.lor (ih (Nat.succ k) bs) (Nat.shiftLeft 1 s)) (unB i bi k b)
      | none => ih (Nat.succ k) bs) l
theorem rowH_eq {bs : List Nat} {i : Nat} : ∀ (l : List Oper) (k : Nat) (r : List Nat), l.length ≤ r.length → (∀ j, j < r.length → r[j]? = some (bs.getD (k + j) 0)) → rowH i (bs.getD i 0) l k r = hidM bs i k l
  | [], _, _, _, _ => rfl
  | o :: l, k, [], h, _ => by simp at h
  | o :: l, k, b :: r, hl, hr => by
    have ih := rowH_eq (bs := bs) (i := i) l (k + 1) r (by simpa using hl) fun j hj => by
      have := hr (j + 1) (by simp; omega)
      rw [show k + (j + 1) = k + 1 + j by omega] at this
      simpa using this
    have hb : b = bs.getD k 0 := by have := hr 0 (by simp); simpa using this
    show (match o.dst with
      | some s => Bool.rec (motive := fun _ => Nat) (rowH i (bs.getD i 0) l (k + 1) r) (Nat.lor (rowH i (bs.getD i 0) l (k + 1) r) (Nat.shiftLeft 1 s)) (unB i (bs.getD i 0) k b)
      | none => rowH i (bs.getD i 0) l (k + 1) r) = _
    rw [ih, hb, unB_eq, hidM]
    cases o.dst with
    | none => rfl
    | some s => cases unord bs i k <;> rfl
noncomputable def rowU (i bi : Nat) (l : List Nat) : Nat → Nat :=
  List.rec (motive := fun _ => Nat → Nat) (fun _ => 0) (fun b _ ih k => Bool.rec (motive := fun _ => Nat) (ih (Nat.succ k)) (Nat.lor (ih (Nat.succ k)) (Nat.shiftLeft 1 k)) (unB i bi k b)) l
theorem rowU_bit {bs : List Nat} {i m : Nat} : ∀ (r : List Nat) (k : Nat), (∀ j, j < r.length → r[j]? = some (bs.getD (k + j) 0)) → k ≤ m → m < k + r.length → unord bs i m = true → (rowU i (bs.getD i 0) r k).testBit m = true
  | [], k, _, h1, h2, _ => by simp at h2; omega
  | b :: r, k, hr, h1, h2, hu => by
    have hb : b = bs.getD k 0 := by have := hr 0 (by simp); simpa using this
    show (Bool.rec (motive := fun _ => Nat) (rowU i (bs.getD i 0) r (k + 1)) (rowU i (bs.getD i 0) r (k + 1) ||| (1 <<< k)) (unB i (bs.getD i 0) k b)).testBit m = true
    rw [hb, unB_eq]
    by_cases e : m = k
    · subst e
      rw [hu]
      show (_ ||| (1 <<< m)).testBit m = true
      rw [Nat.testBit_or, Nat.one_shiftLeft, Nat.testBit_two_pow]
      simp
    · have ih := rowU_bit (bs := bs) (i := i) (m := m) r (k + 1) (fun j hj => by
        have := hr (j + 1) (by simp; omega)
        rw [show k + (j + 1) = k + 1 + j by omega] at this
        simpa using this) (by omega) (by simp at h2; omega) hu
      cases unord bs i k with
      | false => exact ih
      | true =>
        show (_ ||| (1 <<< k)).testBit m = true
        rw [Nat.testBit_or, ih]; rfl
/-- Are these the masks? -/
noncomputable def rowsB (all : List Oper) (bs : List Nat) (l : List Oper) : Nat → List Nat → List Nat → List Nat → Bool :=
  List.rec (motive := fun _ => Nat → List Nat → List Nat → List Nat → Bool) (fun _ _ hms ums => Bool.and (Nat.beq (lenR hms) 0) (Nat.beq (lenR ums) 0)) (fun o _ ih i r hms ums =>
    match r, hms, ums with
    | b :: r, hm :: hms, um :: ums =>
      Bool.and (Nat.beq hm (rowH i b all 0 bs)) (Bool.and (Nat.beq um (Bool.rec (motive := fun _ => Nat) (rowU i b bs 0) (Nat.shiftLeft 1 i) (freeOp o.op))) (ih (Nat.succ i) r hms ums))
    | _, _, _ => false) l
theorem rowsB_ok {all : List Oper} {bs : List Nat} (hlen : all.length = bs.length) : ∀ (l : List Oper) (i : Nat) (r hms ums : List Nat), (∀ j, j < r.length → r[j]? = some (bs.getD (i + j) 0)) → rowsB all bs l i r hms ums = true →
    hms = hidMs bs all i l ∧ ∀ (j um : Nat) (o : Oper), l[j]? = some o → ums[j]? = some um → um = (if freeOp o.op = true then 1 <<< (i + j) else rowU (i + j) (bs.getD (i + j) 0) bs 0)
  | [], i, r, hms, ums, _, h => by
    have h' : (Nat.beq (lenR hms) 0 && Nat.beq (lenR ums) 0) = true := h
    rw [Bool.and_eq_true, lenR_eq, lenR_eq] at h'
    have h1 := Nat.eq_of_beq_eq_true h'.1
    refine ⟨?_, fun j um o hj => by simp at hj⟩
    rw [List.length_eq_zero_iff.1 h1]; rfl
  | o :: l, i, [], hms, ums, _, h => by cases h
  | o :: l, i, b :: r, [], ums, _, h => by cases h
  | o :: l, i, b :: r, hm :: hms, [], _, h => by cases h
  | o :: l, i, b :: r, hm :: hms, um :: ums, hr, h => by
    have h' : (Nat.beq hm (rowH i b all 0 bs) && (Nat.beq um (Bool.rec (motive := fun _ => Nat) (rowU i b bs 0) (Nat.shiftLeft 1 i) (freeOp o.op)) && rowsB all bs l (i + 1) r hms ums)) = true := h
    rw [Bool.and_eq_true, Bool.and_eq_true] at h'
    obtain ⟨h1, h2, h3⟩ := h'
    have hb : b = bs.getD i 0 := by have := hr 0 (by simp); simpa using this
    obtain ⟨e1, e2⟩ := rowsB_ok hlen l (i + 1) r hms ums (fun j hj => by
      have := hr (j + 1) (by simp; omega)
      rw [show i + (j + 1) = i + 1 + j by omega] at this
      simpa using this) h3
    refine ⟨?_, fun j um' o' hj hu => ?_⟩
    · rw [e1, Nat.eq_of_beq_eq_true h1, hb, rowH_eq all 0 bs (by omega) (fun j hj => by rw [Nat.zero_add, List.getD_eq_getElem?_getD, List.getElem?_eq_getElem hj]; rfl)]
      rfl
    · cases j with
      | zero =>
        simp at hj hu
        subst hj; subst hu
        rw [Nat.eq_of_beq_eq_true h2, hb]
        cases freeOp o.op <;> rfl
      | succ j =>
        rw [show i + (j + 1) = i + 1 + j by omega]
        exact e2 j um' o' (by simpa using hj) (by simpa using hu)
noncomputable def masksB (ops : Array Oper) (hms ums : List Nat) : Bool := listK natK (bsOf ops) fun bs => rowsB ops.toList bs ops.toList 0 bs hms ums

/-! ### How a region that draws its order is reckoned -/
inductive Mode where
  | dyn
  | gen (n : Nat)
  | chain (hms ums : List Nat)
noncomputable def assoc {α : Type} (d : α) (l : List (Nat × α)) (n : Nat) : α :=
  List.rec (motive := fun _ => α) d (fun p _ ih => Bool.rec (motive := fun _ => α) ih p.2 (Nat.beq p.1 n)) l
theorem assoc_cons {α : Type} (d : α) (p : Nat × α) (l : List (Nat × α)) (n : Nat) : assoc d (p :: l) n = if Nat.beq p.1 n = true then p.2 else assoc d l n := by
  show Bool.rec (motive := fun _ => α) (assoc d l n) p.2 (Nat.beq p.1 n) = _
  cases Nat.beq p.1 n <;> rfl
noncomputable def okM (ops : Array Oper) : Mode → Bool
  | .dyn => true
  | .gen n => fwdB ops && decide (n ≤ ops.size) && nodupD (ops.toList.take n) && (decide (n = ops.size) || tailB ops n)
  | .chain hms ums => fwdB ops && nodupD ops.toList && masksB ops hms ums
abbrev RM := List (Nat × Mode)
abbrev VM := List (Nat × RM)
noncomputable def goodC (m : RM) : Code → Bool
  | .region id ops true => okM ops (assoc .dyn m id)
  | .seq a b => goodC m a && goodC m b
  | .cond _ x y => goodC m x && goodC m y
  | .block _ b => goodC m b
  | .loop b => goodC m b
  | .scope b => goodC m b
  | _ => true
theorem goodC_nil : ∀ c : Code, goodC [] c = true
  | .region _ ops true => rfl
  | .region _ ops false => rfl
  | .seq a b => by rw [goodC, goodC_nil a, goodC_nil b]; rfl
  | .cond _ x y => by rw [goodC, goodC_nil x, goodC_nil y]; rfl
  | .block _ b => by rw [goodC, goodC_nil b]
  | .loop b => by rw [goodC, goodC_nil b]
  | .scope b => by rw [goodC, goodC_nil b]
  | .skip => rfl
  | .label _ => rfl
  | .exit _ => rfl
  | .ret => rfl
  | .rangeFunc .. => rfl
  | .goto _ => rfl
  | .refuse _ => rfl
noncomputable def goodF (P : Program) (p : Nat × RM) : Bool :=
  match P.funcs[p.1]? with
  | some fn => (match fn.body with | some c => goodC p.2 c | none => true)
  | none => true
theorem good_get {P : Program} : ∀ {V : VM}, (∀ p ∈ V, goodF P p = true) → ∀ {f : Nat} {fn : Func} {c : Code}, P.funcs[f]? = some fn → fn.body = some c → goodC (assoc [] V f) c = true
  | [], _, f, fn, c, _, _ => goodC_nil c
  | p :: V, h, f, fn, c, hf, hb => by
    rw [assoc_cons]
    split
    · rename_i he
      have e : p.1 = f := Nat.eq_of_beq_eq_true he
      have := h p (by simp)
      unfold goodF at this
      rw [e, hf] at this
      simp only [hb] at this
      exact this
    · exact good_get (fun q hq => h q (by simp [hq])) hf hb

noncomputable def evGenS (P : Program) (call : CallF) (ops : Array Oper) (n : Nat) (fr : List AV) (H : AH) (lo : Nat) : Option (List AV × AH × Nat) :=
    match genLex P call ops (ops.toList.take n) (bsOf ops) (allocs 0 (ops.toList.take n)) H.length 0 (ops.toList.take n) fr (H ++ List.replicate (allocs 0 (ops.toList.take n)).length .dead) [] with
    | none => none
    | some recs =>
      if genChk ops (ops.toList.take n) (bsOf ops) (allocs 0 (ops.toList.take n)) H.length recs 0 (ops.toList.take n) recs fr (H ++ List.replicate (allocs 0 (ops.toList.take n)).length .dead) then
        evOps P call ops (ops.toList.drop n) (frD ops n recs fr allD) (HD ops n recs H allD) (lows recs lo)
      else none
theorem evGenS_eq {P : Program} {call : CallF} {ops : Array Oper} {n : Nat} (h : okM ops (.gen n) = true) {fr : List AV} {H : AH} {lo : Nat} : evGen P call ops n fr H lo = evGenS P call ops n fr H lo := by
  simp only [okM] at h
  unfold evGen
  rw [if_pos h]
  rfl

/-! ### The steps of the machine that the kit lacks -/
section scope
variable {F : Fence} {n : Nat} {P : Program} {Q : Exit → Act → World → Prop} {a : Act} {w : World}
theorem stepR_scope {b : Frame} {k : List Item} {cs : List Frame} {c : Code} : step P (lone (b.atR a (.code (.scope c) :: k)) cs w) = .next (lone (b.atR a (.code c :: .inScope c :: k)) cs w) :=
  step_lone_go (by simp [stepG, stepG.exec, Frame.atR])
theorem stepR_inScope {b : Frame} {k : List Item} {cs : List Frame} {c : Code} : step P (lone (b.atR a (.inScope c :: k)) cs w) = .next (lone (b.atR a k) cs w) :=
  step_lone_go (by simp [stepG, stepG.exec, Frame.atR])
theorem wpIn_scope_straight {c : Code} (h : c.wpIn F n P (Exit.noGoto Q) a w) : (Code.scope c).wpIn F n P Q a w := by
  intro b k cs hro hb hr
  have h0 : (lone (b.atR a (.code (.scope c) :: k)) cs w).fenced P F := fenced_calm hb hr rfl
  obtain ⟨e, a₁, w₁, hq, harr⟩ := h b (.inScope c :: k) cs hro hb hr
  cases e with
  | normal => exact ⟨.normal, a₁, w₁, hq, .head h0 stepR_scope (StepsIn.trans harr (.one (fenced_calm hb hr rfl) stepR_inScope))⟩
  | exit id =>
    have hx : exitTo id (.inScope c :: k) = exitTo id k := by simp [exitTo]
    exact ⟨_, a₁, w₁, hq, fun k' hk => .head h0 stepR_scope (harr.1 k' (by rw [hx]; exact hk)),
      fun hr' hk => let ⟨k₁, h1, h2⟩ := harr.2 hr' (by rw [hx]; exact hk); ⟨k₁, h1, .head h0 stepR_scope h2⟩⟩
  | goto l => exact hq.elim
  | ret => exact ⟨_, a₁, w₁, hq, .of_steps (.one h0 stepR_scope) harr⟩
  | panic ch => exact ⟨_, a₁, w₁, hq, .of_steps (.one h0 stepR_scope) harr⟩
  | outgrown => exact ⟨_, a₁, w₁, hq, .of_steps (.one h0 stepR_scope) harr⟩
end scope

/-! ### Records of loops, and marks -/
section
variable {P : Program} {w0 : Base} {w : World} {φ : List Loc} {H : AH}
theorem Rel.putLoop (h : Rel w0 φ H w) {b : Nat} {fr : List AV} {ps : Array Tmp} {as bd : Code} {st : LoopState} {pd : Option Code} {db : Nat} {l : Loc} (hb : H[b]? = some (.loop fr ps as bd st pd db)) (hl : φ[b]? = some l) :
    ∃ tm ld fn, φ[db]? = some ld ∧ VRs φ fr tm.toList ∧ w.heap[l.blk]? = some (.loop { state := st, pending := pd, fn := fn, tmps := tm, params := ps, assign := as, body := bd, defers := ld.blk }) ∧
      ∀ st' pd', Rel w0 φ (H.set b (.loop fr ps as bd st' pd' db)) (w.putObj l.blk (.loop { state := st', pending := pd', fn := fn, tmps := tm, params := ps, assign := as, body := bd, defers := ld.blk })) := by
  obtain ⟨h1, tm, ld, f, h2, h3, h4⟩ := h.blocks b _ l hb hl
  refine ⟨tm, ld, f, h2, h3, h4, fun st' pd' => ?_⟩
  have hlt := (Array.getElem?_eq_some_iff.1 h4).1
  exact h.upd hb rfl hl rfl rfl rfl (by simp [World.putObj]) (fun j hj _ => World.putObj_heap_other hj) ⟨h1, tm, ld, f, h2, h3, World.putObj_heap_same hlt⟩
def Marks (φ : List Loc) : List Nat → List Deferred → Prop
  | [], D => D = []
  | b :: ds, D => ∃ l D', φ[b]? = some l ∧ D = { target := .collected l.blk, args := #[] } :: D' ∧ Marks φ ds D'
theorem Marks.mono {φ φ' : List Loc} (hx : Ext φ φ') : ∀ {ds : List Nat} {D : List Deferred}, Marks φ ds D → Marks φ' ds D
  | [], _, h => h
  | _ :: _, _, ⟨l, D', h1, h2, h3⟩ => ⟨l, D', hx.get h1, h2, Marks.mono hx h3⟩
def isDefr : Option ABlk → Bool
  | some .defr => true
  | _ => false
theorem isDefr_ok {k : Option ABlk} (h : isDefr k = true) : k = some .defr := by
  unfold isDefr at h
  split at h
  · rfl
  · cases h
def allDefr (lo : Nat) : List Nat → AH → Bool
  | [], _ => true
  | b :: ds, H => isDefr H[b]? && Nat.ble lo b && allDefr lo ds (H.set b .dead)
def killAll : List Nat → AH → AH
  | [], H => H
  | b :: ds, H => killAll ds (H.set b .dead)
theorem killAll_keeps {lo : Nat} : ∀ {ds : List Nat} {H : AH}, allDefr lo ds H = true → Keeps lo H (killAll ds H)
  | [], H, _ => Keeps.refl _ _
  | b :: ds, H, h => by
    simp only [allDefr, Bool.and_eq_true] at h
    have hle : lo ≤ b := Nat.le_of_ble_eq_true h.1.2
    exact ((Keeps.set H b .dead).mono hle).trans (killAll_keeps h.2)
theorem leavesM {fn : Func} {tmps : Array Value} {R : Ending → World → Prop} {lo : Nat} : ∀ {ds : List Nat} {D : List Deferred} {H : AH} {w : World}, Marks φ ds D → Rel w0 φ H w → allDefr lo ds H = true →
    (∀ w', Rel w0 φ (killAll ds H) w' → ∃ v, (results fn tmps).run P w' = .ok v w' ∧ R (.returned v) w') → LeavesInM Fence.wide 0 P fn tmps R D .returning w
  | [], D, H, w, hm, hr, _, hf => by
    have e : D = [] := hm
    subst e
    exact hf w hr
  | b :: ds, D, H, w, hm, hr, hd, hf => by
    obtain ⟨l, D', h1, rfl, h2⟩ := hm
    simp only [allDefr, Bool.and_eq_true] at hd
    have hb := isDefr_ok hd.1.1
    obtain ⟨g1, g2⟩ := hr.blocks b _ l hb h1
    refine ⟨by simp, .inl ⟨l.blk, w.putObj l.blk (.deferred none), rfl, run_takeDeferred g2, ?_⟩⟩
    refine leavesM h2 (hr.upd (k' := .dead) hb rfl h1 rfl rfl rfl (by simp [World.putObj]) (fun j hj _ => World.putObj_heap_other hj) trivial) hd.2 hf
end

/-! ### Code, rounds and calls -/
noncomputable def evDrawI (P : Program) (call : CallF) (st : StF) (ops : Array Oper) (ar : Option Nat) (ds : List Nat) (m : Mode) (fr : List AV) (H : AH) (lo : Nat) : Option (List AV × AH × Nat) :=
  match m with
  | .dyn => if (fwdB ops && nodupD ops.toList) = true then evChainI st ops fr H lo else none
  | .chain _ _ => evChainI st ops fr H lo
  | .gen n => match ar, ds with | none, [] => evGenS P call ops n fr H lo | _, _ => none
def pendOf : AEx → Option Code
  | .normal => none
  | .exit id => some (.exit id)
  | .ret => some .ret
def exOf : Option Code → Option AEx
  | none => some .normal
  | some (.exit id) => some (.exit id)
  | some .ret => some .ret
  | _ => none
abbrev RecF := Option Nat → RM → Code → List AV → AH → Nat → List Nat → Option (AEx × List AV × AH × Nat × List Nat)
noncomputable def rndI (rec : RecF) : RndF := fun b fr as bd H =>
  match rec (some b) [] as fr H H.length [] with
  | some (.normal, fr1, H1, lo1, []) =>
    match H1[b]? with
    | some (.loop f0 ps a0 b0 .ready pd db) =>
      match rec (some b) [] bd fr1 (H1.set b (.loop f0 ps a0 b0 .busy pd db)) (min lo1 b) [] with
      | some (ex, _, H3, lo3, []) =>
        match H3[b]? with
        | some (.loop f3 ps3 a3 b3 _ _ db3) => some (.bool (pendOf ex).isNone, some (H3.set b (.loop f3 ps3 a3 b3 (if (pendOf ex).isNone = true then .ready else .done) (pendOf ex) db3), min lo3 b))
        | _ => none
      | _ => none
    | _ => none
  | _ => none
noncomputable def callI (E : Env) (V : VM) (rec : RecF) : CallF := fun f args H =>
  match E.orc f args H with
  | some r => some r
  | none =>
    match E.P.funcs[f]? with
    | none => none
    | some fn =>
      match fn.body with
      | none => none
      | some c =>
        match rec none (assoc [] V f) c (args ++ List.replicate (fn.ntmps - args.length) (.tuple [])) H H.length [] with
        | some (.exit _, _, _, _, _) => none
        | some (_, fr, H', lo, ds) =>
          if allDefr lo ds H' = true then
            match aresults E.P fr (killAll ds H') fn.results.toList with
            | some vs => if lo = H.length ∧ (oneOf vs).flat = true then some (oneOf vs, none) else some (oneOf vs, some (killAll ds H', lo))
            | none => none
          else none
        | none => none
def rfEnd (lb : Nat) (fr : List AV) (H2 : AH) (lo : Nat) (ds : List Nat) : Option (AEx × List AV × AH × Nat × List Nat) :=
  match H2[lb]? with
  | some (.loop f0 ps as bd st pd db) =>
    match st with
    | .busy => none
    | _ =>
      match exOf pd with
      | some ex => some (ex, fr, H2.set lb (.loop f0 ps as bd .exhausted pd db), lo, ds)
      | none => none
  | _ => none
def hasBody (P : Program) (f : FuncId) : Bool := match P.funcs[f]? with | some fn => fn.body.isSome | none => false
def dbOf (H : AH) (b : Nat) : Option Nat := match H[b]? with | some (.loop _ _ _ _ _ _ db) => some db | _ => none
def chH (H : AH) : Option (AH × Nat) → AH | none => H | some c => c.1
def chLo (H : AH) : Option (AH × Nat) → Nat | none => H.length | some c => c.2
noncomputable def rfI (P : Program) (call : CallF) (ar : Option Nat) (g : AV) (ps : Array Tmp) (as bd : Code) (fr : List AV) (H : AH) (lo : Nat) (ds : List Nat) : Option (AEx × List AV × AH × Nat × List Nat) :=
  match g with
  | .fn (.func gf) first cap =>
    if hasBody P gf = true then
      match ar with
      | none =>
        match call gf (first ++ [.yld (H.length + 1)] ++ cap) (H ++ [.defr] ++ [.loop fr ps as bd .ready none H.length]) with
        | some (_, ch) => rfEnd (H.length + 1) fr (chH (H ++ [.defr] ++ [.loop fr ps as bd .ready none H.length]) ch) (min lo (min (chLo (H ++ [.defr] ++ [.loop fr ps as bd .ready none H.length]) ch) H.length)) (H.length :: ds)
        | none => none
      | some b0 =>
        match dbOf H b0 with
        | some db =>
          match call gf (first ++ [.yld H.length] ++ cap) (H ++ [.loop fr ps as bd .ready none db]) with
          | some (_, ch) => rfEnd H.length fr (chH (H ++ [.loop fr ps as bd .ready none db]) ch) (min lo (min (chLo (H ++ [.loop fr ps as bd .ready none db]) ch) H.length)) ds
          | none => none
        | none => none
    else none
  | _ => none
noncomputable def evI (E : Env) (V : VM) : Nat → RecF
  | 0, _, _, _, _, _, _, _ => none
  | n + 1, ar, m, c, fr, H, lo, ds =>
    match c with
    | .skip => some (.normal, fr, H, lo, ds)
    | .label _ => some (.normal, fr, H, lo, ds)
    | .region _ ops false =>
      match evOpsI (opStep E.P (callI E V (evI E V n)) (rndI (evI E V n))) ops ops.toList fr H lo with
      | some (fr', H', lo') => some (.normal, fr', H', lo', ds)
      | none => none
    | .region id ops true =>
      match evDrawI E.P (callI E V (evI E V n)) (opStep E.P (callI E V (evI E V n)) (rndI (evI E V n))) ops ar ds (assoc .dyn m id) fr H lo with
      | some (fr', H', lo') => some (.normal, fr', H', lo', ds)
      | none => none
    | .seq a b =>
      match evI E V n ar m a fr H lo ds with
      | some (.normal, fr', H', lo', ds') => evI E V n ar m b fr' H' lo' ds'
      | r => r
    | .cond c x y =>
      match aeval fr c with
      | .bool true => evI E V n ar m x fr H lo ds
      | .bool false => evI E V n ar m y fr H lo ds
      | _ => none
    | .block id b =>
      match evI E V n ar m b fr H lo ds with
      | some (.exit i, fr', H', lo', ds') => if i = id then some (.normal, fr', H', lo', ds') else some (.exit i, fr', H', lo', ds')
      | r => r
    | .loop b =>
      match evI E V n ar m b fr H lo ds with
      | some (.normal, fr', H', lo', ds') => evI E V n ar m (.loop b) fr' H' lo' ds'
      | r => r
    | .exit id => some (.exit id, fr, H, lo, ds)
    | .scope b => evI E V n ar m b fr H lo ds
    | .ret => some (.ret, fr, H, lo, ds)
    | .rangeFunc g ps as bd => rfI E.P (callI E V (evI E V n)) ar (aeval fr g) ps as bd fr H lo ds
    | _ => none

/-! ### They do what they say -/
def ArR (φ : List Loc) : Option Nat → Option Nat → Prop
  | none, r0 => r0 = none
  | some b, r0 => ∃ l, φ[b]? = some l ∧ r0 = some l.blk
theorem ArR.mono {φ φ' : List Loc} (hx : Ext φ φ') {ar r0 : Option Nat} (h : ArR φ ar r0) : ArR φ' ar r0 := by
  cases ar with
  | none => exact h
  | some b => obtain ⟨l, h1, h2⟩ := h; exact ⟨l, hx.get h1, h2⟩
def RecOkI (P : Program) (rec : RecF) : Prop :=
  ∀ ar m c, goodC m c = true → ∀ fr H lo ds ex fr' H' lo' ds', rec ar m c fr H lo ds = some (ex, fr', H', lo', ds') → (lo' ≤ lo ∧ Keeps lo' H H') ∧
    ∀ (w0 : Base) (φ : List Loc) (w : World) (a : Act) (r0 : Option Nat) (Q : Exit → Act → World → Prop), ArR φ ar r0 → VRs φ fr a.tmps.toList → Marks φ ds a.defers → Rel w0 φ H w →
      (∀ φ' a' w', Ext φ φ' → VRs φ' fr' a'.tmps.toList → Marks φ' ds' a'.defers → Rel w0 φ' H' w' → Q ex.to a' w') → c.wpIn (wideR r0) 0 P Q a w
section
variable {E : Env} {V : VM} {rec : RecF}
theorem rndI_ok {P : Program} (hR : RecOkI P rec) : RndOk P (rndI rec) := by
  intro b fr as bd H v ch h
  unfold rndI at h
  split at h
  · rename_i fr1 H1 lo1 h1
    obtain ⟨⟨k1, k2⟩, w1⟩ := hR _ _ _ (goodC_nil as) _ _ _ _ _ _ _ _ _ h1
    split at h
    · rename_i f0 ps a0 b0 pd db hb
      split at h
      · rename_i ex fr2 H3 lo3 h3
        obtain ⟨⟨k3, k4⟩, w3⟩ := hR _ _ _ (goodC_nil bd) _ _ _ _ _ _ _ _ _ h3
        split at h
        · rename_i f3 ps3 a3 b3 st3 pd3 db3 hb3
          cases h
          refine ⟨fun w0 φ w l tm fn hr hl hf => ?_, fun H' lo hh => ?_⟩
          · refine roundIn_of_wpIn (F := Fence.wide) trivial ?_
            refine w1 w0 φ w { tmps := tm, defers := [] } (some l.blk) _ ⟨l, hl, rfl⟩ hf rfl hr fun φ1 a1 w1' hx1 hf1 hm1 hr1 => ?_
            have hl1 := hx1.get hl
            obtain ⟨tm1, ld1, fn1, e1, e2, e3, e4⟩ := hr1.putLoop hb hl1
            refine ⟨_, run_beginRound e3 rfl, ?_⟩
            refine w3 w0 φ1 _ a1 (some l.blk) _ ⟨l, hl1, rfl⟩ hf1 hm1 (e4 .busy pd) fun φ3 a3' w3' hx3 hf3 hm3 hr3 => ?_
            have hl3 := hx3.get hl1
            obtain ⟨tm3, ld3, fn3, g1, g2, g3, g4⟩ := hr3.putLoop hb3 hl3
            have hrun := fun j => run_endRound (P := P) (w := w3') j g3
            have fin : ∀ j : Option Code, j = pendOf ex → ∃ v w', (Instr.endRound l.blk j).run P w3' = .ok v w' ∧ CallPost w0 φ H (.bool (pendOf ex).isNone) (some (H3.set b (.loop f3 ps3 a3 b3 (if (pendOf ex).isNone = true then .ready else .done) (pendOf ex) db3), min lo3 b)) (.returned v) w' := by
              intro j hj
              subst hj
              exact ⟨_, _, hrun _, _, φ3, rfl, hx1.trans hx3, .bool _, g4 _ _⟩
            cases ex with
            | normal => exact fin none rfl
            | exit id => exact fin (some (.exit id)) rfl
            | ret => exact fin (some .ret) rfl
          · cases hh
            have q1 := (k2.mono (show min lo3 b ≤ lo1 by omega)).trans ((Keeps.set H1 b (.loop f0 ps a0 b0 .busy pd db)).mono (show min lo3 b ≤ b by omega))
            exact (q1.trans (k4.mono (by omega))).trans ((Keeps.set H3 b _).mono (by omega))
        · cases h
      · cases h
    · cases h
  · cases h
theorem callI_ok (hV : ∀ p ∈ V, goodF E.P p = true) (hO : CallOk E.P E.orc) (hR : RecOkI E.P rec) : CallOk E.P (callI E V rec) := by
  intro f args H v ch h
  unfold callI at h
  split at h
  · rename_i r ho
    cases h
    exact hO f args H v ch ho
  · split at h
    · cases h
    · rename_i fn hf
      split at h
      · cases h
      · rename_i c hb
        split at h
        · cases h
        · rename_i ex fr H' lo ds hne hrec
          obtain ⟨⟨hlo, hkeep⟩, hwp⟩ := hR _ _ _ (good_get hV hf hb) _ _ _ _ _ _ _ _ _ hrec
          split at h
          · rename_i hd
            have hkeep2 := hkeep.trans (killAll_keeps hd)
            split at h
            · rename_i vs hvs
              have hcall : ∀ (R : Base → List Loc → World → Ending → World → Prop),
                  (∀ w0 φ w u φ' w', Rel w0 φ H w → Ext φ φ' → VR φ' (oneOf vs) u → Rel w0 φ' (killAll ds H') w' → R w0 φ w (.returned u) w') →
                  ∀ w0 φ w us, Rel w0 φ H w → VRs φ args us.toList → Calls E.P f us w (R w0 φ w) := by
                intro R hRR w0 φ w us hr hargs
                refine (callsIn_wide (n := 0)).1 (callsIn_of_wp_marks hf hb trivial ?_)
                have hlen := hargs.length
                simp only [Array.length_toList] at hlen
                refine hwp w0 φ w _ none _ rfl ?_ rfl hr ?_
                · show VRs φ _ (us ++ Array.replicate (fn.ntmps - us.size) undef).toList
                  rw [Array.toList_append, Array.toList_replicate, hlen]
                  exact hargs.append (VRs.replicate _ (.tuple .nil))
                · intro φ' a' w' hx ha' hm' hr'
                  have hleave : LeavesInM Fence.wide 0 E.P fn a'.tmps (R w0 φ w) a'.defers .returning w' := by
                    refine leavesM hm' hr' hd fun w2 hr2 => ?_
                    obtain ⟨u, h1, h2⟩ := results_ok (P := E.P) hr2 ha' hvs
                    exact ⟨u, h2, hRR w0 φ w u φ' w2 hr hx h1 hr2⟩
                  cases ex with
                  | normal => exact hleave
                  | ret => exact hleave
                  | exit id => first | exact (hne _ rfl).elim | exact (hne _ _ rfl).elim
              split at h
              · rename_i hc
                obtain ⟨hc1, hc2⟩ := hc
                cases h
                refine ⟨?_, fun H'' lo'' hch => by cases hch⟩
                refine hcall (fun w0 φ w => CallPost w0 φ H (oneOf vs) none) ?_
                intro w0 φ w u φ' w' hr hx hv hr'
                subst hc1
                exact ⟨u, φ, rfl, Ext.refl _, VR.flat φ hc2 hv, rfl, hr.restrict hx hkeep2 hr'⟩
              · cases h
                refine ⟨?_, fun H'' lo'' hch => by cases hch; exact hkeep2⟩
                refine hcall (fun w0 φ w => CallPost w0 φ H (oneOf vs) (some (killAll ds H', lo))) ?_
                intro w0 φ w u φ' w' hr hx hv hr'
                exact ⟨u, φ', rfl, hx, hv, hr'⟩
            · cases h
          · cases h
        · cases h
end
end Go.Ve

namespace Go.Ve
open Go Go.RowKit

section
variable {E : Env} {V : VM}
theorem rfEnd_ok {P : Program} {lb : Nat} {fr : List AV} {H2 : AH} {lo : Nat} {ds : List Nat} {ex : AEx} {fr' : List AV} {H' : AH} {lo' : Nat} {ds' : List Nat} (h : rfEnd lb fr H2 lo ds = some (ex, fr', H', lo', ds')) :
    fr' = fr ∧ lo' = lo ∧ ds' = ds ∧ (∃ k, H' = H2.set lb k) ∧ ∀ (w0 : Base) (φ : List Loc) (w : World) (l : Loc) (r0 : Option Nat) (Q : Exit → Act → World → Prop) (a : Act), Rel w0 φ H2 w → φ[lb]? = some l → (∀ w', Rel w0 φ H' w' → Q ex.to a w') →
      ∃ jump w4, (Instr.endLoop l.blk).run P w = .ok jump w4 ∧ (match jump with | none => Q .normal a w4 | some c => c.wpIn (wideR r0) 0 P Q a w4) := by
  unfold rfEnd at h
  split at h
  · rename_i f0 ps as bd st pd db hb
    have key : ∀ (hst : st ≠ .busy), (match exOf pd with
        | some ex => some (ex, fr, H2.set lb (.loop f0 ps as bd .exhausted pd db), lo, ds)
        | none => none) = some (ex, fr', H', lo', ds') → fr' = fr ∧ lo' = lo ∧ ds' = ds ∧ (∃ k, H' = H2.set lb k) ∧ ∀ (w0 : Base) (φ : List Loc) (w : World) (l : Loc) (r0 : Option Nat) (Q : Exit → Act → World → Prop) (a : Act), Rel w0 φ H2 w → φ[lb]? = some l → (∀ w', Rel w0 φ H' w' → Q ex.to a w') →
      ∃ jump w4, (Instr.endLoop l.blk).run P w = .ok jump w4 ∧ (match jump with | none => Q .normal a w4 | some c => c.wpIn (wideR r0) 0 P Q a w4) := by
      intro hst h
      split at h
      · rename_i ex0 he
        cases h
        refine ⟨rfl, rfl, rfl, ⟨_, rfl⟩, fun w0 φ w l r0 Q a hr hl hQ => ?_⟩
        obtain ⟨tm, ld, fn, e1, e2, e3, e4⟩ := hr.putLoop hb hl
        refine ⟨_, _, run_endLoop e3 hst, ?_⟩
        have hfin := hQ _ (e4 .exhausted pd)
        cases pd with
        | none => cases he; exact hfin
        | some c =>
          cases c <;> first | (cases he; done) | (cases he; exact wpIn_exit hfin) | (cases he; exact wpIn_ret hfin)
      · cases h
    cases st with
    | busy => cases h
    | ready => exact key (by simp) h
    | done => exact key (by simp) h
    | exhausted => exact key (by simp) h
  · cases h
theorem heap2 (h : Array Obj) (x y : Obj) : ((h.push x).push y)[h.size + 1]? = some y := by
  have := Array.getElem?_push_size (xs := h.push x) (x := y)
  rwa [Array.size_push] at this
theorem rel_chH {w0 : Base} {φ φ' : List Loc} {H : AH} {w : World} {ch : Option (AH × Nat)} (h : ChC w0 φ H φ' w ch) : Rel w0 φ' (chH H ch) w := by
  cases ch with
  | none => obtain ⟨rfl, h⟩ := h; exact h
  | some c => exact h
theorem rfI_ok {P : Program} {call : CallF} (hP : P.funcs.all (fun fn => !(fn.name == "runtime.NumGoroutine")) = true) (hC : CallOk P call) {ar : Option Nat} {fr : List AV} {H : AH} {lo : Nat} {ds : List Nat} {g : Operand} {ps : Array Tmp} {as bd : Code} {ex : AEx} {fr' : List AV} {H' : AH} {lo' : Nat} {ds' : List Nat}
    (h : rfI P call ar (aeval fr g) ps as bd fr H lo ds = some (ex, fr', H', lo', ds')) : (lo' ≤ lo ∧ Keeps lo' H H') ∧
    ∀ (w0 : Base) (φ : List Loc) (w : World) (a : Act) (r0 : Option Nat) (Q : Exit → Act → World → Prop), ArR φ ar r0 → VRs φ fr a.tmps.toList → Marks φ ds a.defers → Rel w0 φ H w →
      (∀ φ' a' w', Ext φ φ' → VRs φ' fr' a'.tmps.toList → Marks φ' ds' a'.defers → Rel w0 φ' H' w' → Q ex.to a' w') → (Code.rangeFunc g ps as bd).wpIn (wideR r0) 0 P Q a w := by
  unfold rfI at h
  split at h
  · rename_i gf first cap hg
    split at h
    · rename_i hbody
      have hinv : ∀ (us : Array Value) (w : World), (callFunc gf us).run P w = .ok (.enter gf us) w := by
        intro us w
        unfold hasBody at hbody
        split at hbody
        · rename_i fn hf
          have hname : (fn.name == "runtime.NumGoroutine") = false := by
            have hmem : fn ∈ P.funcs := Array.mem_of_getElem? hf
            have := (Array.all_eq_true_iff_forall_mem.1 hP) fn hmem
            simpa using this
          have hnone : fn.body.isNone = false := by cases hb : fn.body with | none => rw [hb] at hbody; cases hbody | some _ => rfl
          simp only [callFunc, Sem.run_bind, run_program, Result.andThen_ok, hf, hname, hnone, Bool.false_eq_true, if_false]
          rfl
        · cases hbody
      -- what a call does here
      have go : ∀ (H1 : AH) (lb : Nat) (ch : Option (AH × Nat)) (v : AV) (lo1 : Nat) (ds1 : List Nat), call gf (first ++ [.yld lb] ++ cap) H1 = some (v, ch) → rfEnd lb fr (chH H1 ch) lo1 ds1 = some (ex, fr', H', lo', ds') →
          ∀ (w0 : Base) (φ φ1 : List Loc) (w1 : World) (l : Loc) (mark : List Deferred) (a : Act) (r0 : Option Nat) (Q : Exit → Act → World → Prop), Ext φ φ1 → Rel w0 φ1 H1 w1 → φ1[lb]? = some l → VRs φ fr a.tmps.toList → Marks φ1 ds1 (mark ++ a.defers) →
          (∀ φ' a' w', Ext φ φ' → VRs φ' fr' a'.tmps.toList → Marks φ' ds' a'.defers → Rel w0 φ' H' w' → Q ex.to a' w') →
          ∃ (d : Deferred) (w1' : World) (f : FuncId) (args : Array Value) (w2 : World), (resolve a.eval (rangeCall g l.blk) 0).run P w1 = .ok d w1' ∧ (∀ f', Target.leads P w1' d.target d.args = some f' → (wideR r0).fn f') ∧ (invoke d.target d.args).run P w1' = .ok (.enter f args) w2 ∧ ((wideR r0).depth.isSome = true → 1 ≤ 0) ∧
            CallsIn (wideR r0) (0 - 1) P f args w2 (rangePost (wideR r0) 0 P l.blk Q { a with defers := mark ++ a.defers }) := by
        intro H1 lb ch v lo1 ds1 hcall hend w0 φ φ1 w1 l mark a r0 Q hx hr hl ha hm hQ
        obtain ⟨rfl, rfl, rfl, _, hfin⟩ := rfEnd_ok (P := P) hend
        have hv := aeval_ok ha g
        rw [hg] at hv
        generalize hgu : a.eval g = gu at hv
        cases hv with
        | fn _ h1 h2 =>
          rename_i fs cs
          refine ⟨{ target := .fn (.func gf) cs, args := fs ++ #[.func (.yield l.blk) #[] #[]] }, w1, gf, fs ++ #[.func (.yield l.blk) #[] #[]] ++ cs, w1, ?_, fun _ _ => trivial, ?_, fun hd => by simp [wideR, Fence.wide] at hd, ?_⟩
          · have hc : a.eval (.const (.func (.yield l.blk) #[] #[])) = .func (.yield l.blk) #[] #[] := rfl
            simp [resolve, hgu, hc, Deferred.ofValue]
          · simp only [invoke]
            exact hinv _ _
          · have hargs : VRs φ1 (first ++ [.yld lb] ++ cap) (fs ++ #[Value.func (.yield l.blk) #[] #[]] ++ cs).toList := by
              simp only [Array.toList_append]
              exact ((h1.mono hx).append (.cons (.yld hl) .nil)).append (h2.mono hx)
            have hcl := (hC _ _ _ _ _ hcall).1 w0 φ1 w1 _ hr hargs
            refine CallsIn.mono (F := wideR r0) (show CallsIn Fence.wide 0 P _ _ _ _ from (callsIn_wide (n := 0)).2 hcl) ?_
            rintro e w' ⟨u, φ2, rfl, hx2, _, hch⟩
            have hr2 := rel_chH hch
            exact hfin w0 φ2 w' l r0 Q { a with defers := mark ++ a.defers } hr2 (hx2.get hl) fun w4 hr4 => hQ φ2 _ w4 (hx.trans hx2) (ha.mono (hx.trans hx2)) (hm.mono hx2) hr4
      split at h
      · split at h
        · rename_i v ch hcall
          obtain ⟨e1, e2, e3, ⟨k, e4⟩, _⟩ := rfEnd_ok (P := P) h
          refine ⟨⟨by rw [e2]; omega, ?_⟩, fun w0 φ w a r0 Q har ha hm hr hQ => ?_⟩
          · rw [e2, e4]
            have q1 : Keeps (min lo (min (chLo (H ++ [.defr] ++ [.loop fr ps as bd .ready none H.length]) ch) H.length)) H (H ++ [.defr] ++ [.loop fr ps as bd .ready none H.length]) := by
              rw [List.append_assoc]
              exact Keeps.append _ H _
            have q2 : Keeps (min lo (min (chLo (H ++ [.defr] ++ [.loop fr ps as bd .ready none H.length]) ch) H.length)) (H ++ [.defr] ++ [.loop fr ps as bd .ready none H.length]) (chH (H ++ [.defr] ++ [.loop fr ps as bd .ready none H.length]) ch) := by
              cases ch with
              | none => exact Keeps.refl _ _
              | some c => exact ((hC _ _ _ _ _ hcall).2 c.1 c.2 rfl).mono (by simp only [chLo]; omega)
            exact (q1.trans q2).trans ((Keeps.set _ (H.length + 1) _).mono (by omega))
          · obtain rfl : r0 = none := har
            have r1 := hr.alloc (.deferred (some [])) (l := ⟨w.heap.size, 0, 0⟩) (k := .defr) rfl ⟨hr.below.fresh (Nat.le_refl _), by simp⟩
            have hlen : φ.length = H.length := hr.len
            have hx : Ext φ (φ ++ [⟨w.heap.size, 0, 0⟩] ++ [⟨w.heap.size + 1, 0, 0⟩]) := ⟨[⟨w.heap.size, 0, 0⟩, ⟨w.heap.size + 1, 0, 0⟩], by simp⟩
            have g0 : (φ ++ [(⟨w.heap.size, 0, 0⟩ : Loc)] ++ [⟨w.heap.size + 1, 0, 0⟩])[H.length]? = some ⟨w.heap.size, 0, 0⟩ := by
              rw [List.append_assoc, List.getElem?_append_right (by omega)]; simp [hlen]
            have g1 : (φ ++ [(⟨w.heap.size, 0, 0⟩ : Loc)] ++ [⟨w.heap.size + 1, 0, 0⟩])[H.length + 1]? = some ⟨w.heap.size + 1, 0, 0⟩ := by
              rw [List.append_assoc, List.getElem?_append_right (by omega)]; simp [hlen]
            refine wpIn_rangeFunc (F := wideR none) fun fn _ => ?_
            have r2 := r1.alloc (.loop { state := .ready, pending := none, fn := fn, tmps := a.tmps, params := ps, assign := as, body := bd, defers := w.heap.size }) (l := ⟨w.heap.size + 1, 0, 0⟩) (k := .loop fr ps as bd .ready none H.length) (by simp)
              ⟨r1.below.fresh (by simp), a.tmps, ⟨w.heap.size, 0, 0⟩, fn, g0, ha.mono hx, heap2 _ _ _⟩
            obtain ⟨d, w1', f, args, w2, k1, k2, k3, k4, k5⟩ := go _ _ ch v _ _ hcall h w0 φ _ _ ⟨w.heap.size + 1, 0, 0⟩ [{ target := .collected w.heap.size, args := #[] }] a none Q hx r2 g1 ha ⟨⟨w.heap.size, 0, 0⟩, a.defers, g0, rfl, hm.mono hx⟩ hQ
            exact ⟨w.heap.size + 1, _, _, d, w1', f, args, w2, run_enterLoop_outer fn a.tmps ps as bd, k1, k2, k3, k4, k5⟩
        · cases h
      · rename_i b0
        split at h
        · rename_i db hdb
          split at h
          · rename_i v ch hcall
            obtain ⟨e1, e2, e3, ⟨k, e4⟩, _⟩ := rfEnd_ok (P := P) h
            refine ⟨⟨by rw [e2]; omega, ?_⟩, fun w0 φ w a r0 Q har ha hm hr hQ => ?_⟩
            · rw [e2, e4]
              have q1 : Keeps (min lo (min (chLo (H ++ [.loop fr ps as bd .ready none db]) ch) H.length)) H (H ++ [.loop fr ps as bd .ready none db]) := Keeps.append _ H _
              have q2 : Keeps (min lo (min (chLo (H ++ [.loop fr ps as bd .ready none db]) ch) H.length)) (H ++ [.loop fr ps as bd .ready none db]) (chH (H ++ [.loop fr ps as bd .ready none db]) ch) := by
                cases ch with
                | none => exact Keeps.refl _ _
                | some c => exact ((hC _ _ _ _ _ hcall).2 c.1 c.2 rfl).mono (by simp only [chLo]; omega)
              exact (q1.trans q2).trans ((Keeps.set _ H.length _).mono (by omega))
            · obtain ⟨l0, hl0, rfl⟩ := har
              unfold dbOf at hdb
              split at hdb
              · rename_i f0 ps0 as0 bd0 st0 pd0 db' hb0
                cases hdb
                obtain ⟨tm0, ld, fn0, c1, _, c3, _⟩ := hr.putLoop hb0 hl0
                have hlen : φ.length = H.length := hr.len
                have hx : Ext φ (φ ++ [⟨w.heap.size, 0, 0⟩]) := Ext.snoc _ _
                have g1 : (φ ++ [(⟨w.heap.size, 0, 0⟩ : Loc)])[H.length]? = some ⟨w.heap.size, 0, 0⟩ := by rw [List.getElem?_append_right (by omega)]; simp [hlen]
                refine wpIn_rangeFunc (F := wideR (some l0.blk)) fun fn _ => ?_
                have r2 := hr.alloc (.loop { state := .ready, pending := none, fn := fn, tmps := a.tmps, params := ps, assign := as, body := bd, defers := ld.blk }) (l := ⟨w.heap.size, 0, 0⟩) (k := .loop fr ps as bd .ready none db) rfl
                  ⟨hr.below.fresh (Nat.le_refl _), a.tmps, ld, fn, hx.get c1, ha.mono hx, by simp⟩
                obtain ⟨d, w1', f, args, w2, k1, k2, k3, k4, k5⟩ := go _ _ ch v _ _ hcall h w0 φ _ _ ⟨w.heap.size, 0, 0⟩ [] a (some l0.blk) Q hx r2 g1 ha (hm.mono hx) hQ
                exact ⟨w.heap.size, _, _, d, w1', f, args, w2, run_enterLoop_inner c3 fn a.tmps ps as bd, k1, k2, k3, k4, k5⟩
              · cases hdb
          · cases h
        · cases h
    · cases h
  · cases h
end
end Go.Ve

namespace Go.Ve
open Go Go.RowKit

section
variable {E : Env} {V : VM}
theorem loopI_ok {md : RM} {b : Code} (hg : goodC md b = true) {ar : Option Nat} : ∀ (n : Nat), (∀ m, m < n → RecOkI E.P (evI E V m)) → ∀ fr H lo ds ex fr' H' lo' ds', evI E V n ar md (.loop b) fr H lo ds = some (ex, fr', H', lo', ds') → (lo' ≤ lo ∧ Keeps lo' H H') ∧
    ∀ (w0 : Base) (φ : List Loc) (w : World) (a : Act) (r0 : Option Nat) (Q : Exit → Act → World → Prop), ArR φ ar r0 → VRs φ fr a.tmps.toList → Marks φ ds a.defers → Rel w0 φ H w →
      (∀ φ' a' w', Ext φ φ' → VRs φ' fr' a'.tmps.toList → Marks φ' ds' a'.defers → Rel w0 φ' H' w' → Q ex.to a' w') → Code.roundsIn (wideR r0) 0 E.P b Q n a w := by
  intro n
  induction n with
  | zero => intro _ fr H lo ds ex fr' H' lo' ds' h; simp [evI] at h
  | succ n ih =>
    intro hall fr H lo ds ex fr' H' lo' ds' h
    simp only [evI] at h
    split at h
    · rename_i fr1 H1 lo1 ds1 he
      obtain ⟨⟨l1, k1⟩, w1⟩ := hall n (by omega) _ _ _ hg _ _ _ _ _ _ _ _ _ he
      obtain ⟨⟨l2, k2⟩, w2⟩ := ih (fun m hm => hall m (by omega)) _ _ _ _ _ _ _ _ _ h
      refine ⟨⟨by omega, (k1.mono l2).trans k2⟩, fun w0 φ w a r0 Q har ha hm hr hQ => ?_⟩
      rw [roundsIn_succ]
      exact w1 w0 φ w a r0 _ har ha hm hr fun φ' a' w' hx ha' hm' hr' => w2 w0 φ' w' a' r0 _ (har.mono hx) ha' hm' hr' fun φ2 a2 w2 hx2 => hQ φ2 a2 w2 (hx.trans hx2)
    · rename_i hne
      obtain ⟨k1, w1⟩ := hall n (by omega) _ _ _ hg _ _ _ _ _ _ _ _ _ h
      refine ⟨k1, fun w0 φ w a r0 Q har ha hm hr hQ => ?_⟩
      rw [roundsIn_succ]
      refine w1 w0 φ w a r0 _ har ha hm hr fun φ' a' w' hx ha' hm' hr' => ?_
      cases ex with
      | normal => exact absurd h (hne _ _ _ _)
      | exit id => exact hQ φ' a' w' hx ha' hm' hr'
      | ret => exact hQ φ' a' w' hx ha' hm' hr'
theorem evI_ok (hV : ∀ p ∈ V, goodF E.P p = true) (hP : E.P.funcs.all (fun fn => !(fn.name == "runtime.NumGoroutine")) = true) (hm0 : E.P.follows .mixedOrders = true) (hO : CallOk E.P E.orc) : ∀ n, RecOkI E.P (evI E V n) := by
  intro n
  induction n using Nat.strongRecOn with
  | _ n all =>
  cases n with
  | zero => intro ar m c hg fr H lo ds ex fr' H' lo' ds' h; simp [evI] at h
  | succ n =>
    have ih := all n (Nat.lt_succ_self n)
    have hC := callI_ok hV hO ih
    have hR := rndI_ok ih
    have hS : ∀ r, StOk E.P r (opStep E.P (callI E V (evI E V n)) (rndI (evI E V n))) := fun r => opStep_ok hP hC hR
    have hF : StFree (opStep E.P (callI E V (evI E V n)) (rndI (evI E V n))) := opStep_free
    intro ar m c hg fr H lo ds ex fr' H' lo' ds' h
    cases c with
    | skip =>
      simp only [evI] at h; cases h
      exact ⟨⟨Nat.le_refl _, Keeps.refl _ _⟩, fun w0 φ w a r0 Q har ha hm hr hQ => wpIn_skip (hQ φ a w (Ext.refl _) ha hm hr)⟩
    | label l =>
      simp only [evI] at h; cases h
      exact ⟨⟨Nat.le_refl _, Keeps.refl _ _⟩, fun w0 φ w a r0 Q har ha hm hr hQ => wpIn_label (hQ φ a w (Ext.refl _) ha hm hr)⟩
    | exit id =>
      simp only [evI] at h; cases h
      exact ⟨⟨Nat.le_refl _, Keeps.refl _ _⟩, fun w0 φ w a r0 Q har ha hm hr hQ => wpIn_exit (hQ φ a w (Ext.refl _) ha hm hr)⟩
    | ret =>
      simp only [evI] at h; cases h
      exact ⟨⟨Nat.le_refl _, Keeps.refl _ _⟩, fun w0 φ w a r0 Q har ha hm hr hQ => wpIn_ret (hQ φ a w (Ext.refl _) ha hm hr)⟩
    | region id ops draw =>
      cases draw with
      | false =>
        simp only [evI] at h
        split at h
        · rename_i fr1 H1 lo1 he
          cases h
          refine ⟨evOpsI_keeps (hS none) _ he, fun w0 φ w a r0 Q har ha hm hr hQ => wpIn_region_list (evOpsI_ok (hS r0) (D := a.defers) _ he ha rfl hr fun φ' a' w' hx ha' hd' hr' => hQ φ' a' w' hx ha' (hd' ▸ hm.mono hx) hr')⟩
        · cases h
      | true =>
        simp only [evI] at h
        split at h
        · rename_i fr1 H1 lo1 he
          cases h
          have hg' : okM ops (assoc .dyn m id) = true := hg
          revert hg' he
          generalize assoc Mode.dyn m id = md
          intro he hg'
          have chain : fwdB ops = true → nodupD ops.toList = true → evChainI (opStep E.P (callI E V (evI E V n)) (rndI (evI E V n))) ops fr H lo = some (fr', H', lo') → (lo' ≤ lo ∧ Keeps lo' H H') ∧
              ∀ (w0 : Base) (φ : List Loc) (w : World) (a : Act) (r0 : Option Nat) (Q : Exit → Act → World → Prop), ArR φ ar r0 → VRs φ fr a.tmps.toList → Marks φ ds a.defers → Rel w0 φ H w →
                (∀ φ' a' w', Ext φ φ' → VRs φ' fr' a'.tmps.toList → Marks φ' ds a'.defers → Rel w0 φ' H' w' → Q AEx.normal.to a' w') → (Code.region id ops true).wpIn (wideR r0) 0 E.P Q a w := fun hf hn hc =>
            ⟨evChainI_keeps (hS none) hF hf hn hc, fun w0 φ w a r0 Q har ha hm hr hQ => evChainI_ok hm0 (hS r0) hF hf hn (D := a.defers) hc ha rfl hr fun φ' a' w' hx ha' hd' hr' => hQ φ' a' w' hx ha' (hd' ▸ hm.mono hx) hr'⟩
          cases md with
          | dyn =>
            simp only [evDrawI] at he
            split at he
            · rename_i hst
              rw [Bool.and_eq_true] at hst
              exact chain hst.1 hst.2 he
            · cases he
          | chain hms ums =>
            simp only [evDrawI] at he
            simp only [okM, Bool.and_eq_true] at hg'
            exact chain hg'.1.1 hg'.1.2 he
          | gen k =>
            simp only [evDrawI] at he
            split at he
            · rw [← evGenS_eq hg'] at he
              refine ⟨evGen_keeps hC he, fun w0 φ w a r0 Q har ha hm hr hQ => ?_⟩
              obtain rfl : r0 = none := har
              have hd : a.defers = [] := hm
              exact (wpIn_wide (n := 0)).2 (evGen_ok hP hm0 hC he ha hd hr fun φ' a' w' hx ha' hd' hr' => hQ φ' a' w' hx ha' hd' hr')
            · cases he
        · cases h
    | seq x y =>
      simp only [goodC, Bool.and_eq_true] at hg
      simp only [evI] at h
      split at h
      · rename_i fr1 H1 lo1 ds1 he
        obtain ⟨⟨l1, k1⟩, w1⟩ := ih _ _ _ hg.1 _ _ _ _ _ _ _ _ _ he
        obtain ⟨⟨l2, k2⟩, w2⟩ := ih _ _ _ hg.2 _ _ _ _ _ _ _ _ _ h
        refine ⟨⟨by omega, (k1.mono l2).trans k2⟩, fun w0 φ w a r0 Q har ha hm hr hQ => wpIn_seq ?_⟩
        exact w1 w0 φ w a r0 _ har ha hm hr fun φ' a' w' hx ha' hm' hr' => w2 w0 φ' w' a' r0 _ (har.mono hx) ha' hm' hr' fun φ2 a2 w2 hx2 => hQ φ2 a2 w2 (hx.trans hx2)
      · rename_i hne
        obtain ⟨k1, w1⟩ := ih _ _ _ hg.1 _ _ _ _ _ _ _ _ _ h
        refine ⟨k1, fun w0 φ w a r0 Q har ha hm hr hQ => wpIn_seq ?_⟩
        refine w1 w0 φ w a r0 _ har ha hm hr fun φ' a' w' hx ha' hm' hr' => ?_
        cases ex with
        | normal => exact absurd h (hne _ _ _ _)
        | exit id => exact hQ φ' a' w' hx ha' hm' hr'
        | ret => exact hQ φ' a' w' hx ha' hm' hr'
    | cond c x y =>
      simp only [goodC, Bool.and_eq_true] at hg
      simp only [evI] at h
      split at h
      · rename_i hc
        obtain ⟨k1, w1⟩ := ih _ _ _ hg.1 _ _ _ _ _ _ _ _ _ h
        refine ⟨k1, fun w0 φ w a r0 Q har ha hm hr hQ => ?_⟩
        have hv := aeval_ok ha c
        rw [hc] at hv
        generalize hcu : a.eval c = cu at hv
        cases hv
        exact wpIn_cond_true hcu (w1 w0 φ w a r0 _ har ha hm hr hQ)
      · rename_i hc
        obtain ⟨k1, w1⟩ := ih _ _ _ hg.2 _ _ _ _ _ _ _ _ _ h
        refine ⟨k1, fun w0 φ w a r0 Q har ha hm hr hQ => ?_⟩
        have hv := aeval_ok ha c
        rw [hc] at hv
        generalize hcu : a.eval c = cu at hv
        cases hv
        exact wpIn_cond_false hcu (w1 w0 φ w a r0 _ har ha hm hr hQ)
      · cases h
    | block id b =>
      simp only [evI] at h
      split at h
      · rename_i i fr1 H1 lo1 ds1 he
        obtain ⟨k1, w1⟩ := ih _ _ _ (show goodC m b = true from hg) _ _ _ _ _ _ _ _ _ he
        split at h
        · rename_i hi
          cases h
          refine ⟨k1, fun w0 φ w a r0 Q har ha hm hr hQ => wpIn_block ?_⟩
          refine w1 w0 φ w a r0 _ har ha hm hr fun φ' a' w' hx ha' hm' hr' => ?_
          have := hQ φ' a' w' hx ha' hm' hr'
          simpa [Exit.inBlock, AEx.to, hi] using this
        · rename_i hi
          cases h
          refine ⟨k1, fun w0 φ w a r0 Q har ha hm hr hQ => wpIn_block ?_⟩
          refine w1 w0 φ w a r0 _ har ha hm hr fun φ' a' w' hx ha' hm' hr' => ?_
          have := hQ φ' a' w' hx ha' hm' hr'
          simpa [Exit.inBlock, AEx.to, hi] using this
      · rename_i hne
        obtain ⟨k1, w1⟩ := ih _ _ _ (show goodC m b = true from hg) _ _ _ _ _ _ _ _ _ h
        refine ⟨k1, fun w0 φ w a r0 Q har ha hm hr hQ => wpIn_block ?_⟩
        refine w1 w0 φ w a r0 _ har ha hm hr fun φ' a' w' hx ha' hm' hr' => ?_
        have := hQ φ' a' w' hx ha' hm' hr'
        cases ex with
        | normal => exact this
        | exit id => exact absurd h (hne _ _ _ _ _)
        | ret => exact this
    | loop b =>
      obtain ⟨k1, w1⟩ := loopI_ok (show goodC m b = true from hg) (n + 1) all _ _ _ _ _ _ _ _ _ h
      exact ⟨k1, fun w0 φ w a r0 Q har ha hm hr hQ => wpIn_loop_rounds (n + 1) (w1 w0 φ w a r0 Q har ha hm hr hQ)⟩
    | scope b =>
      simp only [evI] at h
      obtain ⟨k1, w1⟩ := ih _ _ _ (show goodC m b = true from hg) _ _ _ _ _ _ _ _ _ h
      refine ⟨k1, fun w0 φ w a r0 Q har ha hm hr hQ => wpIn_scope_straight ?_⟩
      refine w1 w0 φ w a r0 _ har ha hm hr fun φ' a' w' hx ha' hm' hr' => ?_
      have := hQ φ' a' w' hx ha' hm' hr'
      cases ex <;> exact this
    | rangeFunc f ps as bd =>
      simp only [evI] at h
      exact rfI_ok hP hC h
    | goto l => simp [evI] at h
    | refuse why => simp [evI] at h
end
end Go.Ve


/- A range over a function, reckoned: it does what it says. -/
import Derived.Test.YtkgkbpfjdlnoeaaVeL
namespace Go.Ve
open Go Go.RowKit

section
variable {E : Env} {V : VM}
theorem rfEnd_ok {P : Program} {lb : Nat} {fr : List AV} {H2 : AH} {lo : Nat} {ds : List Nat} {ex : AEx} {fr' : List AV} {H' : AH} {lo' : Nat} {ds' : List Nat} (h : rfEnd lb fr H2 lo ds = some (ex, fr', H', lo', ds')) :
    fr' = fr ∧ lo' = lo ∧ ds' = ds ∧ (∃ k, H' = H2.set lb k) ∧ ∀ (w0 : Base) (φ : List Loc) (w : World) (l : Loc) (r0 : Option Nat) (Q : Exit → Act → World → Prop) (a : Act), Rel w0 φ H2 w → φ[lb]? = some l → (∀ w', Rel w0 φ H' w' → Q ex.to a w') →
      ∃ jump w4, (Instr.endLoop l.blk).run P w = .ok jump w4 ∧ (match jump with | none => Q .normal a w4 | some c => c.wpIn (wideR r0) 0 P Q a w4) := by
  unfold rfEnd at h
  split at h
  · rename_i f0 ps as bd st pd db hb
    have key : ∀ (hst : st ≠ .busy), (match exOf pd with
        | some ex => some (ex, fr, H2.set lb (.loop f0 ps as bd .exhausted pd db), lo, ds)
        | none => none) = some (ex, fr', H', lo', ds') → fr' = fr ∧ lo' = lo ∧ ds' = ds ∧ (∃ k, H' = H2.set lb k) ∧ ∀ (w0 : Base) (φ : List Loc) (w : World) (l : Loc) (r0 : Option Nat) (Q : Exit → Act → World → Prop) (a : Act), Rel w0 φ H2 w → φ[lb]? = some l → (∀ w', Rel w0 φ H' w' → Q ex.to a w') →
      ∃ jump w4, (Instr.endLoop l.blk).run P w = .ok jump w4 ∧ (match jump with | none => Q .normal a w4 | some c => c.wpIn (wideR r0) 0 P Q a w4) := by
      intro hst h
      split at h
      · rename_i ex0 he
        cases h
        refine ⟨rfl, rfl, rfl, ⟨_, rfl⟩, fun w0 φ w l r0 Q a hr hl hQ => ?_⟩
        obtain ⟨tm, ld, fn, e1, e2, e3, e4⟩ := hr.putLoop hb hl
        refine ⟨_, _, run_endLoop e3 hst, ?_⟩
        have hfin := hQ _ (e4 .exhausted pd)
        cases pd with
        | none => cases he; exact hfin
        | some c =>
          cases c <;> first | (cases he; done) | (cases he; exact wpIn_exit hfin) | (cases he; exact wpIn_ret hfin)
      · cases h
    cases st with
    | busy => cases h
    | ready => exact key (by simp) h
    | done => exact key (by simp) h
    | exhausted => exact key (by simp) h
  · cases h
theorem heap2 (h : Array Obj) (x y : Obj) : ((h.push x).push y)[h.size + 1]? = some y := by
  have := Array.getElem?_push_size (xs := h.push x) (x := y)
  rwa [Array.size_push] at this
theorem rel_chH {w0 : Base} {φ φ' : List Loc} {H : AH} {w : World} {ch : Option (AH × Nat)} (h : ChC w0 φ H φ' w ch) : Rel w0 φ' (chH H ch) w := by
  cases ch with
  | none => obtain ⟨rfl, h⟩ := h; exact h
  | some c => exact h
theorem rfI_ok {P : Program} {call : CallF} (hP : P.funcs.all (fun fn => !(fn.name == "runtime.NumGoroutine")) = true) (hC : CallOk P call) {ar : Option Nat} {fr : List AV} {H : AH} {lo : Nat} {ds : List Nat} {g : Operand} {ps : Array Tmp} {as bd : Code} {ex : AEx} {fr' : List AV} {H' : AH} {lo' : Nat} {ds' : List Nat}
    (h : rfI P call ar (aeval fr g) ps as bd fr H lo ds = some (ex, fr', H', lo', ds')) : (lo' ≤ lo ∧ Keeps lo' H H') ∧
    ∀ (w0 : Base) (φ : List Loc) (w : World) (a : Act) (r0 : Option Nat) (Q : Exit → Act → World → Prop), ArR φ ar r0 → VRs φ fr a.tmps.toList → Marks φ ds a.defers → Rel w0 φ H w →
      (∀ φ' a' w', Ext φ φ' → VRs φ' fr' a'.tmps.toList → Marks φ' ds' a'.defers → Rel w0 φ' H' w' → Q ex.to a' w') → (Code.rangeFunc g ps as bd).wpIn (wideR r0) 0 P Q a w := by
  unfold rfI at h
  split at h
  · rename_i gf first cap hg
    split at h
    · rename_i hbody
      have hinv : ∀ (us : Array Value) (w : World), (callFunc gf us).run P w = .ok (.enter gf us) w := by
        intro us w
        unfold hasBody at hbody
        split at hbody
        · rename_i fn hf
          have hname : (fn.name == "runtime.NumGoroutine") = false := by
            have hmem : fn ∈ P.funcs := Array.mem_of_getElem? hf
            have := (Array.all_eq_true_iff_forall_mem.1 hP) fn hmem
            simpa using this
          have hnone : fn.body.isNone = false := by cases hb : fn.body with | none => rw [hb] at hbody; cases hbody | some _ => rfl
          simp only [callFunc, Sem.run_bind, run_program, Result.andThen_ok, hf, hname, hnone, Bool.false_eq_true, if_false]
          rfl
        · cases hbody
      -- what a call does here
      have go : ∀ (H1 : AH) (lb : Nat) (ch : Option (AH × Nat)) (v : AV) (lo1 : Nat) (ds1 : List Nat), call gf (first ++ [.yld lb] ++ cap) H1 = some (v, ch) → rfEnd lb fr (chH H1 ch) lo1 ds1 = some (ex, fr', H', lo', ds') →
          ∀ (w0 : Base) (φ φ1 : List Loc) (w1 : World) (l : Loc) (mark : List Deferred) (a : Act) (r0 : Option Nat) (Q : Exit → Act → World → Prop), Ext φ φ1 → Rel w0 φ1 H1 w1 → φ1[lb]? = some l → VRs φ fr a.tmps.toList → Marks φ1 ds1 (mark ++ a.defers) →
          (∀ φ' a' w', Ext φ φ' → VRs φ' fr' a'.tmps.toList → Marks φ' ds' a'.defers → Rel w0 φ' H' w' → Q ex.to a' w') →
          ∃ (d : Deferred) (w1' : World) (f : FuncId) (args : Array Value) (w2 : World), (resolve a.eval (rangeCall g l.blk) 0).run P w1 = .ok d w1' ∧ (∀ f', Target.leads P w1' d.target d.args = some f' → (wideR r0).fn f') ∧ (invoke d.target d.args).run P w1' = .ok (.enter f args) w2 ∧ ((wideR r0).depth.isSome = true → 1 ≤ 0) ∧
            CallsIn (wideR r0) (0 - 1) P f args w2 (rangePost (wideR r0) 0 P l.blk Q { a with defers := mark ++ a.defers }) := by
        intro H1 lb ch v lo1 ds1 hcall hend w0 φ φ1 w1 l mark a r0 Q hx hr hl ha hm hQ
        obtain ⟨rfl, rfl, rfl, _, hfin⟩ := rfEnd_ok (P := P) hend
        have hv := aeval_ok ha g
        rw [hg] at hv
        generalize hgu : a.eval g = gu at hv
        cases hv with
        | fn _ h1 h2 =>
          rename_i fs cs
          refine ⟨{ target := .fn (.func gf) cs, args := fs ++ #[.func (.yield l.blk) #[] #[]] }, w1, gf, fs ++ #[.func (.yield l.blk) #[] #[]] ++ cs, w1, ?_, fun _ _ => trivial, ?_, fun hd => by simp [wideR, Fence.wide] at hd, ?_⟩
          · have hc : a.eval (.const (.func (.yield l.blk) #[] #[])) = .func (.yield l.blk) #[] #[] := rfl
            simp [resolve, hgu, hc, Deferred.ofValue]
          · simp only [invoke]
            exact hinv _ _
          · have hargs : VRs φ1 (first ++ [.yld lb] ++ cap) (fs ++ #[Value.func (.yield l.blk) #[] #[]] ++ cs).toList := by
              simp only [Array.toList_append]
              exact ((h1.mono hx).append (.cons (.yld hl) .nil)).append (h2.mono hx)
            have hcl := (hC _ _ _ _ _ hcall).1 w0 φ1 w1 _ hr hargs
            refine CallsIn.mono (F := wideR r0) (show CallsIn Fence.wide 0 P _ _ _ _ from (callsIn_wide (n := 0)).2 hcl) ?_
            rintro e w' ⟨u, φ2, rfl, hx2, _, hch⟩
            have hr2 := rel_chH hch
            exact hfin w0 φ2 w' l r0 Q { a with defers := mark ++ a.defers } hr2 (hx2.get hl) fun w4 hr4 => hQ φ2 _ w4 (hx.trans hx2) (ha.mono (hx.trans hx2)) (hm.mono hx2) hr4
      split at h
      · split at h
        · rename_i v ch hcall
          obtain ⟨e1, e2, e3, ⟨k, e4⟩, _⟩ := rfEnd_ok (P := P) h
          refine ⟨⟨by rw [e2]; omega, ?_⟩, fun w0 φ w a r0 Q har ha hm hr hQ => ?_⟩
          · rw [e2, e4]
            have q1 : Keeps (min lo (min (chLo (H ++ [.defr] ++ [.loop fr ps as bd .ready none H.length]) ch) H.length)) H (H ++ [.defr] ++ [.loop fr ps as bd .ready none H.length]) := by
              rw [List.append_assoc]
              exact Keeps.append _ H _
            have q2 : Keeps (min lo (min (chLo (H ++ [.defr] ++ [.loop fr ps as bd .ready none H.length]) ch) H.length)) (H ++ [.defr] ++ [.loop fr ps as bd .ready none H.length]) (chH (H ++ [.defr] ++ [.loop fr ps as bd .ready none H.length]) ch) := by
              cases ch with
              | none => exact Keeps.refl _ _
              | some c => exact ((hC _ _ _ _ _ hcall).2 c.1 c.2 rfl).mono (by simp only [chLo]; omega)
            exact (q1.trans q2).trans ((Keeps.set _ (H.length + 1) _).mono (by omega))
          · obtain rfl : r0 = none := har
            have r1 := hr.alloc (.deferred (some [])) (l := ⟨w.heap.size, 0, 0⟩) (k := .defr) rfl ⟨hr.below.fresh (Nat.le_refl _), by simp⟩
            have hlen : φ.length = H.length := hr.len
            have hx : Ext φ (φ ++ [⟨w.heap.size, 0, 0⟩] ++ [⟨w.heap.size + 1, 0, 0⟩]) := ⟨[⟨w.heap.size, 0, 0⟩, ⟨w.heap.size + 1, 0, 0⟩], by simp⟩
            have g0 : (φ ++ [(⟨w.heap.size, 0, 0⟩ : Loc)] ++ [⟨w.heap.size + 1, 0, 0⟩])[H.length]? = some ⟨w.heap.size, 0, 0⟩ := by
              rw [List.append_assoc, List.getElem?_append_right (by omega)]; simp [hlen]
            have g1 : (φ ++ [(⟨w.heap.size, 0, 0⟩ : Loc)] ++ [⟨w.heap.size + 1, 0, 0⟩])[H.length + 1]? = some ⟨w.heap.size + 1, 0, 0⟩ := by
              rw [List.append_assoc, List.getElem?_append_right (by omega)]; simp [hlen]
            refine wpIn_rangeFunc (F := wideR none) fun fn _ => ?_
            have r2 := r1.alloc (.loop { state := .ready, pending := none, fn := fn, tmps := a.tmps, params := ps, assign := as, body := bd, defers := w.heap.size }) (l := ⟨w.heap.size + 1, 0, 0⟩) (k := .loop fr ps as bd .ready none H.length) (by simp)
              ⟨r1.below.fresh (by simp), a.tmps, ⟨w.heap.size, 0, 0⟩, fn, g0, ha.mono hx, heap2 _ _ _⟩
            obtain ⟨d, w1', f, args, w2, k1, k2, k3, k4, k5⟩ := go _ _ ch v _ _ hcall h w0 φ _ _ ⟨w.heap.size + 1, 0, 0⟩ [{ target := .collected w.heap.size, args := #[] }] a none Q hx r2 g1 ha ⟨⟨w.heap.size, 0, 0⟩, a.defers, g0, rfl, hm.mono hx⟩ hQ
            exact ⟨w.heap.size + 1, _, _, d, w1', f, args, w2, run_enterLoop_outer fn a.tmps ps as bd, k1, k2, k3, k4, k5⟩
        · cases h
      · rename_i b0
        split at h
        · rename_i db hdb
          split at h
          · rename_i v ch hcall
            obtain ⟨e1, e2, e3, ⟨k, e4⟩, _⟩ := rfEnd_ok (P := P) h
            refine ⟨⟨by rw [e2]; omega, ?_⟩, fun w0 φ w a r0 Q har ha hm hr hQ => ?_⟩
            · rw [e2, e4]
              have q1 : Keeps (min lo (min (chLo (H ++ [.loop fr ps as bd .ready none db]) ch) H.length)) H (H ++ [.loop fr ps as bd .ready none db]) := Keeps.append _ H _
              have q2 : Keeps (min lo (min (chLo (H ++ [.loop fr ps as bd .ready none db]) ch) H.length)) (H ++ [.loop fr ps as bd .ready none db]) (chH (H ++ [.loop fr ps as bd .ready none db]) ch) := by
                cases ch with
                | none => exact Keeps.refl _ _
                | some c => exact ((hC _ _ _ _ _ hcall).2 c.1 c.2 rfl).mono (by simp only [chLo]; omega)
              exact (q1.trans q2).trans ((Keeps.set _ H.length _).mono (by omega))
            · obtain ⟨l0, hl0, rfl⟩ := har
              unfold dbOf at hdb
              split at hdb
              · rename_i f0 ps0 as0 bd0 st0 pd0 db' hb0
                cases hdb
                obtain ⟨tm0, ld, fn0, c1, _, c3, _⟩ := hr.putLoop hb0 hl0
                have hlen : φ.length = H.length := hr.len
                have hx : Ext φ (φ ++ [⟨w.heap.size, 0, 0⟩]) := Ext.snoc _ _
                have g1 : (φ ++ [(⟨w.heap.size, 0, 0⟩ : Loc)])[H.length]? = some ⟨w.heap.size, 0, 0⟩ := by rw [List.getElem?_append_right (by omega)]; simp [hlen]
                refine wpIn_rangeFunc (F := wideR (some l0.blk)) fun fn _ => ?_
                have r2 := hr.alloc (.loop { state := .ready, pending := none, fn := fn, tmps := a.tmps, params := ps, assign := as, body := bd, defers := ld.blk }) (l := ⟨w.heap.size, 0, 0⟩) (k := .loop fr ps as bd .ready none db) rfl
                  ⟨hr.below.fresh (Nat.le_refl _), a.tmps, ld, fn, hx.get c1, ha.mono hx, by simp⟩
                obtain ⟨d, w1', f, args, w2, k1, k2, k3, k4, k5⟩ := go _ _ ch v _ _ hcall h w0 φ _ _ ⟨w.heap.size, 0, 0⟩ [] a (some l0.blk) Q hx r2 g1 ha (hm.mono hx) hQ
                exact ⟨w.heap.size, _, _, d, w1', f, args, w2, run_enterLoop_inner c3 fn a.tmps ps as bd, k1, k2, k3, k4, k5⟩
              · cases hdb
          · cases h
        · cases h
    · cases h
  · cases h
end
end Go.Ve

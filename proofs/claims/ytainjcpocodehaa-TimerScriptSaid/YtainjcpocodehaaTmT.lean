/- slices.SortFunc and slices.Collect of timers, told for any memory. -/
import Derived.Test.YtainjcpocodehaaTmS
import Derived.Test.YtainjcpocodehaaSg
import Derived.Test.YtainjcpocodehaaShelfT
set_option linter.unusedSimpArgs false
set_option linter.unusedVariables false
namespace Go.Ve
open Go Go.RowKit
theorem SC.owns2 {P : Program} {f : FuncId} {args0 : List AV} {H0 : AH} {K0 K : AV → AH → Prop} (h : SC P f args0 H0 K0) {H : AH} {σ : List Nat} (hnd : σ.Nodup) (hlen : H0.length = σ.length)
    (hb : ∀ (i b : Nat) (s : ABlk), σ[i]? = some b → H0[i]? = some s → H[b]? = some (s.ren (rn σ H.length)) ∧ s ≠ .dead)
    (hK : ∀ v0 H0', K0 v0 H0' → ∃ L T, H0' = L ++ T ∧ L.length = σ.length ∧ (∀ (i : Nat) (k s : ABlk), L[i]? = some k → H0[i]? = some s → k.own = true ∨ k = .dead ∨ s.own = false) ∧ (∀ k ∈ T, k.own = true ∨ k = .dead) ∧ K (v0.ren (upN σ H0.length H.length)) (putL σ (L.map (ABlk.ren (upN σ H0.length H.length))) H ++ T.map (ABlk.ren (upN σ H0.length H.length)))) :
    SC P f (AV.rens (rn σ H.length) args0) H K := by
  have hget : ∀ (i b : Nat), σ[i]? = some b → ∃ s, H0[i]? = some s := fun i b hi => by
    have : i < H0.length := by rw [hlen]; exact (List.getElem?_eq_some_iff.1 hi).1
    exact ⟨_, List.getElem?_eq_getElem this⟩
  have hlt : ∀ b ∈ σ, b < H.length := fun b hb' => by
    obtain ⟨i, hi, rfl⟩ := List.getElem_of_mem hb'
    obtain ⟨s, h1⟩ := hget i _ (List.getElem?_eq_getElem hi)
    exact (List.getElem?_eq_some_iff.1 (hb i _ s (List.getElem?_eq_getElem hi) h1).1).1
  refine SC.frame h ⟨hlen, hlt, hnd, (fun i k hk => ?_)⟩ ?_
  · have hi : i < σ.length := by rw [← hlen]; exact (List.getElem?_eq_some_iff.1 hk).1
    obtain ⟨h1, h2⟩ := hb i _ k (List.getElem?_eq_getElem hi) hk
    refine ⟨_, _, List.getElem?_eq_getElem hi, h1, ⟨fun w0 φ φ' w l _ hp hbr => hbr.unren hp, fun ho => by rw [ABlk.ren_own]; exact ho⟩, ABlk.ren_own k, h2, fun e => h2 (ABlk.ren_dead e)⟩
  · intro v0 H0' h0
    obtain ⟨L, T, rfl, hL, hO, hT, hKT⟩ := hK v0 H0' h0
    refine ⟨_, ⟨by rw [hlen, List.length_append]; omega, ?_, fun b hb' hn => ?_, fun i b hi => .inl ?_, fun i k hi hk => ?_⟩, hKT⟩
    · rw [List.length_append, putL_len, List.length_map, List.length_append, hlen]; omega
    · rw [List.getElem?_append_left (by rw [putL_len]; exact hb'), putL_not σ _ _ b hn]
    · have hil : i < L.length := by rw [hL]; exact (List.getElem?_eq_some_iff.1 hi).1
      refine ⟨L[i], by rw [List.getElem?_append_left hil, List.getElem?_eq_getElem hil], ?_, fun ho => ?_⟩
      · rw [List.getElem?_append_left (by rw [putL_len]; exact hlt b (List.mem_of_getElem? hi)), putL_get σ _ H hnd hlt (by rw [List.length_map, hL]) i b hi, List.getElem?_map, List.getElem?_eq_getElem hil]; rfl
      · obtain ⟨s, hs⟩ := hget i b hi
        obtain ⟨h1, h2⟩ := hb i b s hi hs
        rcases hO i L[i] s (List.getElem?_eq_getElem hil) hs with h | h | h
        · rw [h] at ho; cases ho
        · exact .inl h
        · exact .inr ⟨_, h1, by rw [ABlk.ren_own]; exact h, fun e => h2 (ABlk.ren_dead e)⟩
    · rw [hlen] at hi
      rw [List.getElem?_append_right (by omega)] at hk
      refine ⟨?_, hT k (List.mem_of_getElem? (by rw [hL] at hk; exact hk))⟩
      rw [List.getElem?_append_right (by rw [putL_len]; omega), putL_len, hlen, Nat.add_sub_cancel_left, List.getElem?_map, ← hL, hk]; rfl
theorem grow_of {W w' : World} (h : BelowB (Base.all W) w') : ∃ (q : Nat) (os : Array Obj), w' = Sort.grow (W.drewN q) os := by
  refine ⟨w'.drawn - W.drawn, w'.heap.extract W.heap.size w'.heap.size, ?_⟩
  have h1 := h.os
  have h2 := h.tape
  have h3 := h.output
  have h4 : W.drawn ≤ w'.drawn := h.drawn
  have h5 : W.heap.size ≤ w'.heap.size := h.size
  have h6 : w'.heap = W.heap ++ w'.heap.extract W.heap.size w'.heap.size := by
    refine Array.ext_getElem? fun i => ?_
    rcases Nat.lt_or_ge i W.heap.size with hi | hi
    · rw [Array.getElem?_append_left hi]; exact h.block i hi
    · rw [Array.getElem?_append_right hi, Array.getElem?_extract]
      split
      · congr 1; omega
      · rw [Array.getElem?_eq_none]; omega
  obtain ⟨hp, tp, dr, os, ou⟩ := w'
  obtain ⟨Hp, Tp, Dr, Os_, Ou⟩ := W
  simp only [Base.all] at h1 h2 h3 h4 h5 h6
  simp only [Sort.grow, World.drewN, World.mk.injEq]
  exact ⟨h6, h2, by omega, h1, h3⟩
end Go.Ve
namespace Go.Proofs.Ytainjcpocodehaa
open Go Go.Ve Go.RowKit Go.Sort
set_option maxRecDepth 20000

def encT (t : Tm) : List Value := [.int .i64 t.1, .int .i64 t.2]
theorem ltO (x y : Tm) : ltOf ordV x y = tlt x y := by
  unfold ltOf
  rw [Bool.eq_iff_iff, decide_eq_true_eq]
  exact ord_neg x y
theorem swoO : SWO (ltOf ordV) where
  irrefl x := by rw [ltO]; exact tle_refl x
  trans x y z h1 h2 := by rw [ltO] at *; rw [tlt_iff] at *; omega
  ntrans x y z h1 h2 := by rw [ltO] at *; exact tle_trans (a := z) h2 h1
theorem totO (x y : Tm) (h1 : ltOf ordV x y = false) (h2 : ltOf ordV y x = false) : x = y := by
  rw [ltO] at h1 h2
  exact tle_anti h2 h1
theorem ms_srt (l : TL) : (l.mergeSort fun x y => !(ltOf ordV) y x) = srt l := by
  refine srt_uniq ?_ (srt_srt l) ((List.mergeSort_perm _ _).trans (srt_perm l).symm)
  have := List.pairwise_mergeSort (le := fun x y : Tm => !(ltOf ordV) y x) (fun a b c h1 h2 => by
    simp only [ltO, Bool.not_eq_true'] at *
    exact tle_trans h1 h2) (fun a b => by
    simp only [ltO, Bool.or_eq_true, Bool.not_eq_true']
    exact tle_total a b) l
  refine this.imp fun {a b} h => ?_
  simp only [ltO, Bool.not_eq_true'] at h
  exact h
theorem order_sc (x y : Tm) : SC Try.prog 65 [.agg [.int .i64 x.1, .int .i64 x.2], .agg [.int .i64 y.1, .int .i64 y.2]] [] (fun v' H' => v' = .int .i64 (ordV x y) ∧ H' = []) := oneS (SC.ofF (V := VCm) names0 mixed0 TCm_ok noO_ok (ord_vc x.1 x.2 y.1 y.2))
theorem order_calls (x y : Tm) (W : World) : Calls Try.prog 65 #[.agg (encT x).toArray, .agg (encT y).toArray] W fun e w' => e = .returned (.int .i64 (ordV x y)) ∧ ∃ q os', w' = grow (W.drewN q) os' := by
  refine (order_sc x y (Base.all W) [] W _ (Rel.empty W) (.cons (.agg (.cons (.int _ _) (.cons (.int _ _) .nil))) (.cons (.agg (.cons (.int _ _) (.cons (.int _ _) .nil))) .nil))).mono ?_
  rintro e w' ⟨u, v, H', φ', ⟨rfl, rfl⟩, rfl, _, hv, hr⟩
  cases hv
  exact ⟨rfl, grow_of hr.below⟩
theorem order_lays (blk off size : Nat) (w : World) : CmpLays Try.prog 65 #[] encT 2 ordV blk off size w := fun m os dk _ x y => order_calls x y _
theorem order_enters (args : Array Value) (w : World) : (callFunc 65 args).run Try.prog w = .ok (.enter 65 args) w := enters_of Try.func65 (by kernel_rfl) rfl args w
theorem encT_get (φ : List Go.Ve.Loc) (l : TL) (j : Nat) (v : AV) (h : (tC l)[j]? = some v) : VR φ v ((flatK encT 2 l.toArray)[j]!) ∧ ∀ u, VR φ v u → u = (flatK encT 2 l.toArray)[j]! := by
  have hj : j < 2 * l.length := by rw [← tC_len]; exact (List.getElem?_eq_some_iff.1 h).1
  have hj2 : j / 2 < l.length := by omega
  have e : (flatK encT 2 l.toArray)[j]! = (encT (pk l (j / 2)))[j % 2]! := by
    rw [get_flatK _ _ _ _ (by rw [List.size_toArray]; omega)]
    congr 2
    rw [getElem!_pos _ _ (by rw [List.size_toArray]; exact hj2), pk_get hj2]
    rfl
  rw [e]
  have hm : j = j / 2 * 2 + j % 2 := by omega
  have : j % 2 = 0 ∨ j % 2 = 1 := by omega
  rcases this with h0 | h0
  · rw [h0] at hm ⊢
    rw [hm, Nat.add_zero, tC_get0 l _ (by omega)] at h
    cases h
    refine ⟨.int _ _, fun u hu => ?_⟩
    cases hu; rfl
  · rw [h0] at hm ⊢
    rw [hm, tC_get1 l _ (by omega)] at h
    cases h
    refine ⟨.int _ _, fun u hu => ?_⟩
    cases hu; rfl
def eSortF : SpecE := fun args H =>
  match args with
  | [.nilsl, .fn (.func g) [] []] => bif Nat.beq g 65 then some (.ok (.tuple []) none) else none
  | [.sl b 0 n c ex, .fn (.func g) [] []] =>
    match H[b]? with
    | some (.cells cs eh false) => bif Nat.beq g 65 then some (.needP (cs = tC (getT cs) ∧ n = (getT cs).length ∧ n < 4611686018427387904) (.ok (.tuple []) (some (H.set b (.cells (tC (srt (getT cs))) eh false))))) else none
    | _ => none
  | _ => none
theorem eSortF_ok : EntryOk Try.prog 76 eSortF := by
  intro args H sr hs K hk
  unfold eSortF at hs
  split at hs
  · rename_i g
    cases hg : Nat.beq g 65 with
    | false => rw [hg] at hs; cases hs
    | true =>
      rw [hg] at hs
      cases hs
      refine (SC.rowed (v := .tuple []) (H2 := H) ?_).mono ?_
      · intro w0 φ w us hr ha
        obtain ⟨us⟩ := us
        cases ha with | cons h1 h2 => cases h2 with | cons h3 h4 => cases h4; cases h1; (
          refine (Try.sortDue_none (α := Tm) none 0 _ w).mono ?_
          rintro e w' ⟨rfl, rfl⟩
          exact ⟨_, rfl, .tuple .nil, hr⟩)
      · rintro v H' ⟨rfl, rfl⟩; exact ⟨none, hk, rfl⟩
  · rename_i b n c ex g
    split at hs
    · rename_i cs eh hb
      cases hg : Nat.beq g 65 with
      | false => rw [hg] at hs; cases hs
      | true =>
        rw [hg] at hs
        cases hs
        obtain rfl := Nat.eq_of_beq_eq_true hg
        obtain ⟨⟨g1, g2, g3⟩, h2⟩ := hk
        generalize getT cs = l at *
        subst g1; subst g2
        refine (SC.rowed (v := .tuple []) (H2 := H.set b (.cells (tC (srt l)) eh false)) ?_).mono ?_
        · intro w0 φ w us hr ha
          obtain ⟨us⟩ := us
          cases ha with | cons h1 h2 => cases h2 with | cons h3 h4 => cases h4; cases h1 with | sl hl => cases h3 with | fn _ hx hc => (
            rename_i ld xs ys
            obtain ⟨xs⟩ := xs
            obtain ⟨ys⟩ := ys
            cases hx; cases hc
            have hH : HoldsK encT 2 w ld.blk (ld.sh + 0) l.toArray := by
              intro j hj
              rw [size_flatK, List.size_toArray] at hj
              have hjt : j < (tC l).length := by rw [tC_len]; omega
              obtain ⟨u, hu, hc⟩ := hr.cell hb hl (List.getElem?_eq_getElem hjt)
              rw [Nat.add_zero]
              refine ⟨?_, hr.frozen hb hl hjt⟩
              rw [hc, (encT_get φ l j _ (List.getElem?_eq_getElem hjt)).2 u hu]; rfl
            have key := Try.sortDue 2 (fun w => by kernel_rfl) (fun w => by kernel_rfl) encT (fun _ => rfl) (fun x v hv => by
              simp only [encT, List.mem_cons, List.mem_nil_iff, or_false] at hv
              rcases hv with rfl | rfl <;> rfl) ordV swoO 65 #[] ld.blk (ld.sh + 0) (c + if ex then 0 else ld.slk) l.toArray w order_enters (order_lays _ _ _ w) hH (hr.blk_lt hb (by simp) hl) (by rw [List.size_toArray]; exact g3) totO
            rw [List.size_toArray] at key
            refine key.mono ?_
            rintro e' w' ⟨rfl, n', os, rfl⟩
            refine ⟨_, rfl, .tuple .nil, ?_⟩
            rw [Nat.add_zero]
            show Rel w0 φ _ (grow (Sort.putRow id (Sort.ahead w n') ld.blk ld.sh (flatK encT 2 (l.mergeSort fun x y => !(ltOf ordV) y x).toArray)) os)
            rw [ms_srt]
            refine hr.putRow hb hl (by rw [tC_len, tC_len, srt_len]) (by rw [size_flatK, List.size_toArray, srt_len, tC_len]; omega) (fun j v hj => (encT_get φ (srt l) j v hj).1) n' os)
        · rintro v H' ⟨rfl, rfl⟩; exact ⟨_, h2, rfl⟩
    · cases hs
  · cases hs
noncomputable def eCol : SpecE := fun args H =>
  match args with
  | [.fn (.func g) [] [.ptr bx 0]] =>
    match H[bx]? with
    | some (.cells [.nilsl] eb false) => bif Nat.beq g 77 then some (.ok .nilsl none) else none
    | some (.cells [.sl hb 0 k c ex] eb false) =>
      match H[hb]? with
      | some (.cells cs eh ro) => bif Nat.beq g 77 then some (.need (!(Nat.beq hb bx)) (.needP (cs = tC (getT cs) ∧ k ≤ (getT cs).length ∧ k ≤ 1048576)
          (.br (hOf cs k).isEmpty (.ok .nilsl none) (.ok (.sl H.length 0 k k false) (some (H ++ [.cells (tC (hOf cs k)) eD false])))))) else none
      | _ => none
    | _ => none
  | _ => none
theorem SC.ofL {V : VE} (hP : V.P.funcs.all (fun fn => !(fn.name == "runtime.NumGoroutine")) = true) (hm : V.P.follows .mixedOrders = true) (hS : SpecOk V.P V.sp) (hO : CallOk V.P V.orc) {md : List (Nat × DMode)} {k : Nat} {A : Anns} {hs : List (Nat × AV)} {f : FuncId} {args : List AV} {H : AH} {L : List Out} (h : HoldsL (vcF V md k A hs f args H L)) : SC V.P f args H (outE L) := SC.ofF hP hm hS hO h.h
theorem colN_ok (eb : Nat) : SC Try.prog 75 [.fn (.func 77) [] [.ptr 0 0]] [.cells [.nilsl] eb false] (fun v H' => v = .nilsl ∧ H' = [.cells [.nilsl] eb false]) := by
  have h : HoldsL (vCoN eb) := coN_vc eb
  unfold vCoN at h
  refine (SC.ofL (V := VCo [] []) names0 mixed0 noS_ok noO_ok h).mono fun v H' h => ?_
  obtain ⟨_, _, h1, h2⟩ := outE_one h
  exact ⟨h1, h2⟩
theorem eCol_ok : EntryOk Try.prog 75 eCol := by
  intro args H sr hs K hk
  unfold eCol at hs
  split at hs
  · rename_i g bx
    split at hs
    · rename_i eb hb
      cases hg : Nat.beq g 77 with
      | false => rw [hg] at hs; cases hs
      | true =>
        rw [hg] at hs
        cases hs
        obtain rfl := Nat.eq_of_beq_eq_true hg
        refine SC.owns2 (σ := [bx]) (colN_ok eb) (by simp) rfl (fun i x s hi hs => ?_) ?_
        · match i, hi, hs with
          | 0, hi, hs => cases hi; cases hs; exact ⟨hb, by simp⟩
          | n + 1, hi, _ => simp at hi
        · rintro v0 H0' ⟨rfl, rfl⟩
          refine ⟨[.cells [.nilsl] eb false], [], rfl, rfl, ?_, (fun k hk => by cases hk), none, hk, ?_⟩
          · intro i k s hi _
            match i, hi with
            | 0, hi => cases hi; exact .inl rfl
            | n + 1, hi => simp at hi
          · show putL [bx] [.cells [.nilsl] eb false] H ++ [] = H
            rw [List.append_nil]
            exact putL_same _ _ _ fun i x hx => by
              match i, hx with
              | 0, hx => cases hx; exact hb
              | n + 1, hx => simp at hx
    · rename_i hb k c ex eb hbx
      split at hs
      · rename_i cs eh ro hrow
        cases hg : Nat.beq g 77 with
        | false => rw [hg] at hs; cases hs
        | true =>
          rw [hg] at hs
          cases hs
          obtain rfl := Nat.eq_of_beq_eq_true hg
          obtain ⟨hne, ⟨g1, g2, g3⟩, h2⟩ := cond_need hk
          have hne : hb ≠ bx := fun e => by subst e; rw [Nat.beq_refl] at hne; cases hne
          have e1 : cs = tC (hOf cs k ++ gOf cs k) := by unfold hOf gOf; rw [List.take_append_drop]; exact g1
          have e2 : k = (hOf cs k).length := by unfold hOf; rw [List.length_take]; omega
          generalize hOf cs k = l at *
          generalize gOf cs k = g0 at *
          subst e1; subst e2
          have hsc := SC.ofF (V := VCo l g0) names0 mixed0 noS_ok noO_ok (co_vc l g0 c ex eh eb ro g3)
          have sel : ∀ (i x : Nat), [hb, bx][i]? = some x → H[x]? = [ABlk.cells (tC (l ++ g0)) eh ro, .cells [.sl hb 0 l.length c ex] eb false][i]? := fun i x hx => by
            match i, hx with
            | 0, hx => cases hx; exact hrow
            | 1, hx => cases hx; exact hbx
            | n + 2, hx => simp at hx
          refine SC.owns2 (σ := [hb, bx]) hsc (by simp [hne]) rfl (fun i x s hi hs => ?_) ?_
          · match i, hi, hs with
            | 0, hi, hs => cases hi; cases hs; exact ⟨by rw [cells_ren (tC_flat _)]; exact hrow, by simp⟩
            | 1, hi, hs => cases hi; cases hs; exact ⟨hbx, by simp⟩
            | n + 2, hi, _ => simp at hi
          · have own : ∀ (i : Nat) (k s : ABlk), [ABlk.cells (tC (l ++ g0)) eh ro, .cells [.sl 0 0 l.length c ex] eb false][i]? = some k → [ABlk.cells (tC (l ++ g0)) eh ro, .cells [.sl 0 0 l.length c ex] eb false][i]? = some s → k.own = true ∨ k = .dead ∨ s.own = false := fun i k s h1 h2 => by
              rw [h1] at h2; cases h2
              cases ho : k.own
              · exact .inr (.inr rfl)
              · exact .inl rfl
            have back : ∀ ρ : Nat → Nat, ρ 0 = hb → putL [hb, bx] (List.map (ABlk.ren ρ) [.cells (tC (l ++ g0)) eh ro, .cells [.sl 0 0 l.length c ex] eb false]) H = H := fun ρ hρ => by
              have e : List.map (ABlk.ren ρ) [.cells (tC (l ++ g0)) eh ro, .cells [.sl 0 0 l.length c ex] eb false] = [.cells (tC (l ++ g0)) eh ro, .cells [.sl hb 0 l.length c ex] eb false] := by
                show [ABlk.ren ρ (.cells (tC (l ++ g0)) eh ro), ABlk.cells [.sl (ρ 0) 0 l.length c ex] eb false] = _
                rw [cells_ren (tC_flat _), hρ]
              rw [e]
              exact putL_same _ _ _ sel
            rintro v0 H0' ⟨o, ho, x, hx, rfl, rfl⟩
            simp only [List.mem_cons, List.mem_nil_iff, or_false] at ho
            rcases ho with rfl | rfl
            · have hx : l = [] := hx
              have e : l.isEmpty = true := by rw [hx]; rfl
              simp only [SR.run, e, cond_true] at h2
              refine ⟨_, [], (List.append_nil _).symm, rfl, own, (fun k hk => by cases hk), none, h2, ?_⟩
              show putL [hb, bx] (List.map (ABlk.ren (upN [hb, bx] 2 H.length)) [ABlk.cells (tC (l ++ g0)) eh ro, .cells [.sl 0 0 l.length c ex] eb false]) H ++ [] = H
              rw [List.append_nil]
              exact back _ rfl
            · have hx : l ≠ [] := hx
              have e : l.isEmpty = false := by
                cases l with
                | nil => exact absurd rfl hx
                | cons a r => rfl
              simp only [SR.run, e, cond_false] at h2
              have up2 : upN [hb, bx] 2 H.length 2 = H.length := by
                unfold upN
                rw [if_neg (by omega)]; omega
              have ev : (AV.sl 2 0 l.length l.length false).ren (upN [hb, bx] 2 H.length) = .sl H.length 0 l.length l.length false := by
                show AV.sl (upN [hb, bx] 2 H.length 2) 0 _ _ false = _
                rw [up2]
              rw [← ev] at h2
              refine ⟨[.cells (tC (l ++ g0)) eh ro, .cells [.sl 0 0 l.length c ex] eb false], [.cells (tC l) eD false], rfl, rfl, own, (fun k hk => by
                simp only [List.mem_cons, List.mem_nil_iff, or_false] at hk
                subst hk; exact .inl rfl), some _, h2, ?_⟩
              have ec : (ABlk.cells (tC l) eD false).ren (upN [hb, bx] 2 H.length) = .cells (tC l) eD false := cells_ren (tC_flat _) _ _ _
              show putL [hb, bx] (List.map (ABlk.ren (upN [hb, bx] 2 H.length)) [.cells (tC (l ++ g0)) eh ro, .cells [.sl 0 0 l.length c ex] eb false]) H ++ List.map (ABlk.ren (upN [hb, bx] 2 H.length)) [.cells (tC l) eD false] = _
              rw [back _ rfl]
              simp only [List.map_cons, List.map_nil, ec, chN]
      · cases hs
    · cases hs
  · cases hs
end Go.Proofs.Ytainjcpocodehaa

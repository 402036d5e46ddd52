/- slices.SortFunc and slices.Collect of numbers, told for any memory. -/
import Derived.Test.YtainjcpocodehaaScK
import Derived.Test.YtainjcpocodehaaScR
import Derived.Test.YtainjcpocodehaaScO
import Derived.Test.YtainjcpocodehaaShelfF
set_option linter.unusedSimpArgs false
set_option linter.unusedVariables false
namespace Go.Proofs.Ytainjcpocodehaa
open Go Go.Ve Go.RowKit Go.Sort
set_option maxRecDepth 20000

/-! ### The order -/
/-- Ascending by rank. -/
def Asc (l : FL) : Prop := l.Pairwise fun a b => rk a ≤ rk b
theorem posF_hi (x : Nat) (s : FL) : ∀ (k j : Nat), posF x s k ≤ j → j < k → rk x < rk (fk s j)
  | 0, _, _, h => absurd h (Nat.not_lt_zero _)
  | k + 1, j, h1, h2 => by
    have h1 : cond (ltI (rk x) (rk (fk s k))) (posF x s k) (k + 1) ≤ j := h1
    cases hc : ltI (rk x) (rk (fk s k)) with
    | false => rw [hc] at h1; have h1 : k + 1 ≤ j := h1; omega
    | true =>
      rw [hc] at h1
      rcases Nat.lt_or_ge j k with h | h
      · exact posF_hi x s k j h1 h
      · have : j = k := by omega
        subst this
        rwa [ltI_t] at hc
theorem posF_lo (x : Nat) (s : FL) : ∀ (k : Nat), 0 < posF x s k → rk (fk s (posF x s k - 1)) ≤ rk x
  | 0, h => absurd h (Nat.lt_irrefl 0)
  | k + 1, h => by
    cases hc : ltI (rk x) (rk (fk s k)) with
    | false =>
      have e : posF x s (k + 1) = k + 1 := by show cond _ _ _ = _; rw [hc]; rfl
      rw [e]
      rwa [ltI_f] at hc
    | true =>
      have e : posF x s (k + 1) = posF x s k := by show cond _ _ _ = _; rw [hc]; rfl
      rw [e] at h ⊢
      exact posF_lo x s k h
theorem fk_get {s : FL} {i : Nat} (h : i < s.length) : fk s i = s[i] := by
  unfold fk
  rw [List.getD_eq_getElem?_getD, List.getElem?_eq_getElem h]; rfl
theorem insF_asc {x : Nat} {s : FL} (h : Asc s) : Asc (insF x s) := by
  have hp := posF_le x s s.length
  unfold Asc insF at *
  have hlow : ∀ a ∈ s.take (posF x s s.length), rk a ≤ rk x := fun a ha => by
    obtain ⟨i, hi, rfl⟩ := List.getElem_of_mem ha
    have hi2 : i < posF x s s.length := by rw [List.length_take] at hi; omega
    rw [List.getElem_take]
    have h2 := posF_lo x s s.length (by omega)
    rw [fk_get (show posF x s s.length - 1 < s.length by omega)] at h2
    rcases Nat.lt_or_ge i (posF x s s.length - 1) with h3 | h3
    · exact Int.le_trans (List.pairwise_iff_getElem.1 h i (posF x s s.length - 1) (by omega) (by omega) h3) h2
    · have e : i = posF x s s.length - 1 := by omega
      subst e
      exact h2
  have hhigh : ∀ b ∈ s.drop (posF x s s.length), rk x ≤ rk b := fun b hb => by
    obtain ⟨i, hi, rfl⟩ := List.getElem_of_mem hb
    rw [List.getElem_drop]
    rw [List.length_drop] at hi
    have := posF_hi x s s.length (posF x s s.length + i) (by omega) (by omega)
    rw [fk_get (by omega)] at this
    omega
  refine List.pairwise_append.2 ⟨List.pairwise_append.2 ⟨h.sublist (List.take_sublist _ _), List.pairwise_singleton _ _, fun a ha b hb => ?_⟩, h.sublist (List.drop_sublist _ _), fun a ha b hb => ?_⟩
  · rw [List.mem_singleton] at hb
    subst hb
    exact hlow a ha
  · rcases List.mem_append.1 ha with ha | ha
    · exact Int.le_trans (hlow a ha) (hhigh b hb)
    · rw [List.mem_singleton] at ha
      subst ha
      exact hhigh b hb
theorem isF_asc (l : FL) : ∀ i, Asc (isF l i)
  | 0 => List.Pairwise.nil
  | i + 1 => insF_asc (isF_asc l i)
theorem isF_perm (l : FL) : ∀ i, i ≤ l.length → (isF l i).Perm (l.take i)
  | 0, _ => by rw [List.take_zero]; exact List.Perm.refl _
  | i + 1, h => by
    show (insF _ _).Perm _
    rw [take_succF (by omega)]
    exact (insF_perm _ _).trans (((isF_perm l i (by omega)).cons _).trans (List.perm_append_singleton _ _).symm)

/-! ### Sorting -/
def encF (x : BitVec 64) : Value := .float .f64 x.toNat
def ordF (x y : BitVec 64) : Int := cmpv (rk x.toNat) (rk y.toNat)
theorem ltF (x y : BitVec 64) : ltOf ordF x y = true ↔ rk x.toNat < rk y.toNat := by
  unfold ltOf
  rw [decide_eq_true_eq]
  unfold ordF cmpv
  constructor
  · intro h
    split at h
    · assumption
    · split at h <;> omega
  · intro h
    rw [if_pos h]; decide
theorem ltFn (x y : BitVec 64) : ltOf ordF x y = false ↔ rk y.toNat ≤ rk x.toNat := by
  have := ltF x y
  cases h : ltOf ordF x y
  · rw [h] at this
    constructor
    · intro _
      by_cases k : rk x.toNat < rk y.toNat
      · exact absurd (this.2 k) (by decide)
      · omega
    · intro _; rfl
  · rw [h] at this
    have := this.1 rfl
    constructor
    · intro h2; cases h2
    · intro h2; omega
theorem swoF : SWO (ltOf ordF) where
  irrefl x := by rw [ltFn]; exact Int.le_refl _
  trans x y z h1 h2 := by rw [ltF] at *; omega
  ntrans x y z h1 h2 := by rw [ltFn] at *; omega
theorem bvin (x : BitVec 64) : in64 x.toNat = true := decide_eq_true x.isLt
theorem totF (x y : BitVec 64) (h1 : ltOf ordF x y = false) (h2 : ltOf ordF y x = false) : x = y := by
  rw [ltFn] at h1 h2
  exact BitVec.eq_of_toNat_eq (rk_inj (bvin x) (bvin y) (by omega))
/-- The numbers as words. -/
def bvs (l : FL) : List (BitVec 64) := l.map (BitVec.ofNat 64)
theorem bv_back {a : Nat} (h : in64 a = true) : (BitVec.ofNat 64 a).toNat = a := by
  rw [BitVec.toNat_ofNat]
  exact Nat.mod_eq_of_lt (in64_of h)
theorem ms_isF {l : FL} (h : ok64 l) : ((bvs l).mergeSort fun x y => !(ltOf ordF) y x) = bvs (isF l l.length) := by
  have hp := List.pairwise_mergeSort (le := fun x y : BitVec 64 => !(ltOf ordF) y x) (fun a b c h1 h2 => by
    simp only [Bool.not_eq_true'] at *
    rw [ltFn] at *
    omega) (fun a b => by
    rw [Bool.or_eq_true]
    simp only [Bool.not_eq_true']
    rw [ltFn, ltFn]
    omega) (bvs l)
  refine List.Perm.eq_of_pairwise (le := fun x y : BitVec 64 => rk x.toNat ≤ rk y.toNat) (fun a b _ _ h1 h2 => BitVec.eq_of_toNat_eq (rk_inj (bvin a) (bvin b) (by omega))) ?_ ?_ ?_
  · refine hp.imp fun {a b} h => ?_
    simp only [Bool.not_eq_true'] at h
    rw [ltFn] at h
    exact h
  · unfold bvs
    rw [List.pairwise_map]
    refine (List.Pairwise.and_mem.1 (isF_asc l l.length)).imp fun {a b} h2 => ?_
    rw [bv_back (isF_ok h _ (Nat.le_refl _) a h2.1), bv_back (isF_ok h _ (Nat.le_refl _) b h2.2.1)]
    exact h2.2.2
  · refine (List.mergeSort_perm _ _).trans ?_
    have := (isF_perm l l.length (Nat.le_refl _)).map (BitVec.ofNat 64)
    rw [List.take_length] at this
    exact this.symm
theorem cmpF_calls (x y : BitVec 64) (W : World) : Calls Try.prog 14 #[encF x, encF y] W fun e w' => e = .returned (.int .i64 (ordF x y)) ∧ ∃ q os', w' = grow (W.drewN q) os' := by
  refine ((oneS (SC.ofF (V := VR0) names0 mixed0 TR0_ok noO_ok (cmpF_vc x.toNat y.toNat (bvin x) (bvin y)))) (Base.all W) [] W _ (Rel.empty W) (.cons (.float _ _) (.cons (.float _ _) .nil))).mono ?_
  rintro e w' ⟨u, v, H', φ', ⟨rfl, rfl⟩, rfl, _, hv, hr⟩
  cases hv
  exact ⟨rfl, grow_of hr.below⟩
theorem cmpF_lays (blk off size : Nat) (w : World) : CmpLays1 Try.prog 14 #[] encF ordF blk off size w := fun m os dk _ x y => cmpF_calls x y _
theorem cmpF_enters (args : Array Value) (w : World) : (callFunc 14 args).run Try.prog w = .ok (.enter 14 args) w := enters_of Try.func14 (by kernel_rfl) rfl args w
theorem bvs_get {l : FL} {j : Nat} (h : j < l.length) : (bvs l).toArray[j]! = BitVec.ofNat 64 (fk l j) := by
  rw [getElem!_pos _ _ (by rw [List.size_toArray]; unfold bvs; rw [List.length_map]; exact h), List.getElem_toArray, fk_get h]
  unfold bvs
  rw [List.getElem_map]
theorem encF_get (φ : List Go.Ve.Loc) {l : FL} (o : ok64 l) (j : Nat) (v : AV) (h : (fC l)[j]? = some v) : VR φ v (encF ((bvs l).toArray[j]!)) ∧ ∀ u, VR φ v u → u = encF ((bvs l).toArray[j]!) := by
  have hj : j < l.length := by rw [← fC_len l]; exact (List.getElem?_eq_some_iff.1 h).1
  rw [bvs_get hj]
  unfold encF
  rw [bv_back (ok64_at o hj)]
  have e := fC_get l [] hj
  rw [List.append_nil, Nat.zero_add, Nat.mul_one] at e
  rw [e] at h
  cases h
  refine ⟨.float _ _, fun u hu => ?_⟩
  cases hu; rfl
theorem eSrF_ok : EntryOk Try.prog 71 eSrF := by
  intro args H sr hs K hk
  unfold eSrF at hs
  split at hs
  · rename_i g
    cases hg : Nat.beq g 14 with
    | false => rw [hg] at hs; cases hs
    | true =>
      rw [hg] at hs
      cases hs
      refine (SC.rowed (v := .tuple []) (H2 := H) ?_).mono ?_
      · intro w0 φ w us hr ha
        obtain ⟨us⟩ := us
        cases ha with | cons h1 h2 => cases h2 with | cons h3 h4 => cases h4; cases h1; (
          refine (Try.sortFlo_none (α := BitVec 64) none 0 _ w).mono ?_
          rintro e w' ⟨rfl, rfl⟩
          exact ⟨_, rfl, .tuple .nil, hr⟩)
      · rintro v H' ⟨rfl, rfl⟩; exact ⟨none, hk, rfl⟩
  · rename_i b n c ex g
    split at hs
    · rename_i cs eh hb
      cases hg : Nat.beq g 14 with
      | false => rw [hg] at hs; cases hs
      | true =>
        rw [hg] at hs
        cases hs
        obtain rfl := Nat.eq_of_beq_eq_true hg
        obtain ⟨⟨⟨g1, _, g3, g4⟩, g5⟩, h2⟩ := hk
        generalize getF cs = l at *
        subst g1; subst g5
        refine (SC.rowed (v := .tuple []) (H2 := H.set b (.cells (fC (isF l l.length)) eh false)) ?_).mono ?_
        · intro w0 φ w us hr ha
          obtain ⟨us⟩ := us
          cases ha with | cons h1 h2 => cases h2 with | cons h3 h4 => cases h4; cases h1 with | sl hl => cases h3 with | fn _ hx hc => (
            rename_i ld xs ys
            obtain ⟨xs⟩ := xs
            obtain ⟨ys⟩ := ys
            cases hx; cases hc
            have hsz : (bvs l).toArray.size = l.length := by rw [List.size_toArray]; unfold bvs; rw [List.length_map]
            have hH : Holds encF w ld.blk (ld.sh + 0) (bvs l).toArray := by
              intro j hj
              rw [hsz] at hj
              have hjt : j < (fC l).length := by rw [fC_len]; omega
              obtain ⟨u, hu, hc⟩ := hr.cell hb hl (List.getElem?_eq_getElem hjt)
              rw [Nat.add_zero]
              refine ⟨?_, hr.frozen hb hl hjt⟩
              rw [hc, (encF_get φ g4 j _ (List.getElem?_eq_getElem hjt)).2 u hu]
            have key := Try.sortFlo encF (fun _ => rfl) ordF swoF 14 #[] ld.blk (ld.sh + 0) (c + if ex then 0 else ld.slk) (bvs l).toArray w cmpF_enters (cmpF_lays _ _ _ w) hH (hr.blk_lt hb (by simp) hl) (by rw [hsz]; omega) totF
            rw [hsz] at key
            refine key.mono ?_
            rintro e' w' ⟨rfl, n', os, rfl⟩
            refine ⟨_, rfl, .tuple .nil, ?_⟩
            rw [Nat.add_zero]
            show Rel w0 φ _ (grow (Sort.putRow encF (Sort.ahead w n') ld.blk ld.sh ((bvs l).mergeSort fun x y => !(ltOf ordF) y x).toArray) os)
            rw [ms_isF g4]
            refine hr.putRow hb hl (by rw [fC_len, fC_len, isF_len]) (by rw [List.size_toArray]; unfold bvs; rw [List.length_map, isF_len, fC_len]) (fun j v hj => (encF_get φ (isF_ok g4 _ (Nat.le_refl _)) j v hj).1) n' os)
        · rintro v H' ⟨rfl, rfl⟩; exact ⟨_, h2, rfl⟩
    · cases hs
  · cases hs
/-! ### Collecting -/
theorem SC.ofFK {V : VE} (hP : V.P.funcs.all (fun fn => !(fn.name == "runtime.NumGoroutine")) = true) (hm : V.P.follows .mixedOrders = true) (hS : SpecOk V.P V.sp) (hO : CallOk V.P V.orc) {md : List (Nat × DMode)} {k : Nat} {A : Anns} {hs : List (Nat × AV)} {f : FuncId} {args : List AV} {H : AH} {L : List Out} (h : HoldsK (vcF V md k A hs f args H L)) : SC V.P f args H (outE L) := SC.ofF hP hm hS hO h.h
theorem colFN_ok (eb : Nat) : SC Try.prog 70 [.fn (.func 72) [] [.ptr 0 0]] [.cells [.nilsl] eb false] (fun v H' => v = .nilsl ∧ H' = [.cells [.nilsl] eb false]) := by
  have h : HoldsK (vCfN eb) := cfN_vc eb
  unfold vCfN at h
  refine (SC.ofFK (V := VCf [] []) names0 mixed0 noS_ok noO_ok h).mono fun v H' h => ?_
  obtain ⟨_, _, h1, h2⟩ := outE_one h
  exact ⟨h1, h2⟩
theorem eClF_ok : EntryOk Try.prog 70 eClF := by
  intro args H sr hs K hk
  unfold eClF at hs
  split at hs
  · rename_i g bx
    split at hs
    · rename_i eb hb
      cases hg : Nat.beq g 72 with
      | false => rw [hg] at hs; cases hs
      | true =>
        rw [hg] at hs
        cases hs
        obtain rfl := Nat.eq_of_beq_eq_true hg
        refine SC.owns2 (σ := [bx]) (colFN_ok eb) (by simp) rfl (fun i x s hi hs => ?_) ?_
        · match i, hi, hs with
          | 0, hi, hs => cases hi; cases hs; exact ⟨hb, by simp⟩
          | n + 1, hi, _ => simp at hi
        · rintro v0 H0' ⟨rfl, rfl⟩
          refine ⟨[.cells [.nilsl] eb false], [], rfl, rfl, ?_, (fun k hk => by cases hk), none, hk, ?_⟩
          · intro i k s hi _
            match i, hi with
            | 0, hi => cases hi; exact .inl rfl
            | n + 1, hi => simp at hi
          · show putL [bx] [.cells [.nilsl] eb false] H ++ [] = H
            rw [List.append_nil]
            exact putL_same _ _ _ fun i x hx => by
              match i, hx with
              | 0, hx => cases hx; exact hb
              | n + 1, hx => simp at hx
    · rename_i hb k c ex eb hbx
      split at hs
      · rename_i cs eh ro hrow
        cases hg : Nat.beq g 72 with
        | false => rw [hg] at hs; cases hs
        | true =>
          rw [hg] at hs
          cases hs
          obtain rfl := Nat.eq_of_beq_eq_true hg
          obtain ⟨hne, ⟨g1, g2, g3, g4⟩, h2⟩ := cond_need hk
          have hne : hb ≠ bx := fun e => by subst e; rw [Nat.beq_refl] at hne; cases hne
          have e1 : cs = fC (hF cs k ++ rF cs k) := by unfold hF rF; rw [List.take_append_drop]; exact g1
          have e2 : k = (hF cs k).length := by unfold hF; rw [List.length_take]; omega
          generalize hF cs k = l at *
          generalize rF cs k = g0 at *
          clear g1 g2 g4
          subst e1; subst e2
          have hsc := SC.ofF (V := VCf l g0) names0 mixed0 noS_ok noO_ok (cf_vc l g0 c ex eh eb ro g3)
          have sel : ∀ (i x : Nat), [hb, bx][i]? = some x → H[x]? = [ABlk.cells (fC (l ++ g0)) eh ro, .cells [.sl hb 0 l.length c ex] eb false][i]? := fun i x hx => by
            match i, hx with
            | 0, hx => cases hx; exact hrow
            | 1, hx => cases hx; exact hbx
            | n + 2, hx => simp at hx
          refine SC.owns2 (σ := [hb, bx]) hsc (by simp [hne]) rfl (fun i x s hi hs => ?_) ?_
          · match i, hi, hs with
            | 0, hi, hs => cases hi; cases hs; exact ⟨by rw [cells_ren (fC_flat _)]; exact hrow, by simp⟩
            | 1, hi, hs => cases hi; cases hs; exact ⟨hbx, by simp⟩
            | n + 2, hi, _ => simp at hi
          · have own : ∀ (i : Nat) (k s : ABlk), [ABlk.cells (fC (l ++ g0)) eh ro, .cells [.sl 0 0 l.length c ex] eb false][i]? = some k → [ABlk.cells (fC (l ++ g0)) eh ro, .cells [.sl 0 0 l.length c ex] eb false][i]? = some s → k.own = true ∨ k = .dead ∨ s.own = false := fun i k s h1 h2 => by
              rw [h1] at h2; cases h2
              cases ho : k.own
              · exact .inr (.inr rfl)
              · exact .inl rfl
            have back : ∀ ρ : Nat → Nat, ρ 0 = hb → putL [hb, bx] (List.map (ABlk.ren ρ) [.cells (fC (l ++ g0)) eh ro, .cells [.sl 0 0 l.length c ex] eb false]) H = H := fun ρ hρ => by
              have e : List.map (ABlk.ren ρ) [.cells (fC (l ++ g0)) eh ro, .cells [.sl 0 0 l.length c ex] eb false] = [.cells (fC (l ++ g0)) eh ro, .cells [.sl hb 0 l.length c ex] eb false] := by
                show [ABlk.ren ρ (.cells (fC (l ++ g0)) eh ro), ABlk.cells [.sl (ρ 0) 0 l.length c ex] eb false] = _
                rw [cells_ren (fC_flat _), hρ]
              rw [e]
              exact putL_same _ _ _ sel
            rintro v0 H0' ⟨o, ho, x, hx, rfl, rfl⟩
            simp only [List.mem_cons, List.mem_nil_iff, or_false] at ho
            rcases ho with rfl | rfl
            · have hx : l = [] := hx
              have e : l.isEmpty = true := by rw [hx]; rfl
              simp only [SR.run, e, cond_true] at h2
              refine ⟨_, [], (List.append_nil _).symm, rfl, own, (fun k hk => by cases hk), none, h2, ?_⟩
              show putL [hb, bx] (List.map (ABlk.ren (upN [hb, bx] 2 H.length)) [ABlk.cells (fC (l ++ g0)) eh ro, .cells [.sl 0 0 l.length c ex] eb false]) H ++ [] = H
              rw [List.append_nil]
              exact back _ rfl
            · have hx : l ≠ [] := hx
              have e : l.isEmpty = false := by
                cases l with
                | nil => exact absurd rfl hx
                | cons a r => rfl
              simp only [SR.run, e, cond_false] at h2
              have up2 : upN [hb, bx] 2 H.length 2 = H.length := by
                unfold upN
                rw [if_neg (by omega)]; omega
              have ev : (AV.sl 2 0 l.length l.length false).ren (upN [hb, bx] 2 H.length) = .sl H.length 0 l.length l.length false := by
                show AV.sl (upN [hb, bx] 2 H.length 2) 0 _ _ false = _
                rw [up2]
              rw [← ev] at h2
              refine ⟨[.cells (fC (l ++ g0)) eh ro, .cells [.sl 0 0 l.length c ex] eb false], [.cells (fC l) eF false], rfl, rfl, own, (fun k hk => by
                simp only [List.mem_cons, List.mem_nil_iff, or_false] at hk
                subst hk; exact .inl rfl), some _, h2, ?_⟩
              have ec : (ABlk.cells (fC l) eF false).ren (upN [hb, bx] 2 H.length) = .cells (fC l) eF false := cells_ren (fC_flat _) _ _ _
              show putL [hb, bx] (List.map (ABlk.ren (upN [hb, bx] 2 H.length)) [ABlk.cells (fC (l ++ g0)) eh ro, .cells [.sl 0 0 l.length c ex] eb false]) H ++ List.map (ABlk.ren (upN [hb, bx] 2 H.length)) [.cells (fC l) eF false] = _
              rw [back _ rfl]
              simp only [List.map_cons, List.map_nil, ec, chN]
      · cases hs
    · cases hs
  · cases hs
end Go.Proofs.Ytainjcpocodehaa

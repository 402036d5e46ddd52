/- Names in order, each once (plain law): what vary.Names makes of parts, and of its own names. -/
import Derived.Test.YtciciemaldbidaaDoorLenP
import Derived.Test.YtciciemaldbidaaDoorRTok
import Derived.Lib.SlicesCompact
import Derived.Sort.Walk0
set_option linter.unusedSimpArgs false
set_option linter.unusedVariables false
namespace Go.Proofs.YtciciemaldbidaaDoor
open Go Go.Ve
set_option maxRecDepth 20000
def leS8 (x y : List UInt8) : Bool := decide (x ≤ y)
def srt (ls : LL) : LL := ls.mergeSort fun x y => decide (x ≤ y)
def cpt (ls : LL) : LL := Lib.compact ls
def starN : List UInt8 := [42]
def lows (ps : LL) : LL := ps.map lower
def nmsL (ps : LL) : LL := if starN ∈ ps then [] else cpt (srt (lows ps))
theorem srt_perm (ls : LL) : (srt ls).Perm ls := List.mergeSort_perm _ _
theorem srt_sorted (ls : LL) : (srt ls).Pairwise fun x y => x ≤ y := by
  have h := List.pairwise_mergeSort (le := fun x y : List UInt8 => decide (x ≤ y)) (fun a b c h1 h2 => by simp only [decide_eq_true_eq] at *; exact List.le_trans h1 h2) (fun a b => by simp only [Bool.or_eq_true, decide_eq_true_eq]; exact List.le_total a b) ls
  exact h.imp fun h => by simpa using h
theorem srt_length (ls : LL) : (srt ls).length = ls.length := (srt_perm ls).length_eq
theorem lt_of_le_ne {a b : List UInt8} (h : a ≤ b) (hn : a ≠ b) : a < b := by
  by_cases h2 : a < b
  · exact h2
  · exact absurd (List.le_antisymm h (List.not_lt.1 h2)) hn
structure Cmp (zs : LL) (m : Nat) (c : LL) : Prop where
  asc : c.Pairwise fun x y => x < y
  mem : ∀ x, x ∈ c ↔ x ∈ zs.take m
  len : c.length ≤ m
theorem getB {zs : LL} {m : Nat} (h : m < zs.length) : zs.toArray[m]! = zs[m] := by
  rw [getElem!_pos zs.toArray m (by simpa using h)]; simp
theorem cmp_upto {zs : LL} (hs : zs.Pairwise fun x y => x ≤ y) : ∀ m, m ≤ zs.length → Cmp zs m (Lib.compactUpTo zs.toArray m)
  | 0, _ => ⟨by simp [Lib.compactUpTo], by simp [Lib.compactUpTo], by simp [Lib.compactUpTo]⟩
  | m + 1, hm => by
    have ih := cmp_upto hs m (by omega)
    have hmem : ∀ x, x ∈ zs.take (m + 1) ↔ x ∈ zs.take m ∨ x = zs[m] := fun x => by
      rw [List.take_succ_eq_append_getElem (show m < zs.length by omega), List.mem_append, List.mem_singleton]
    rw [Lib.compactUpTo_succ]
    by_cases hk : Lib.keeps zs.toArray m = true
    · rw [if_pos hk, getB (by omega)]
      refine ⟨?_, fun x => by rw [List.mem_append, List.mem_singleton, hmem, ih.mem], by have := ih.len; simp; omega⟩
      refine List.pairwise_append.2 ⟨ih.asc, by simp, fun a ha b hb => ?_⟩
      rw [List.mem_singleton.1 hb]
      have ha' := (ih.mem a).1 ha
      obtain ⟨j, hj, rfl⟩ := List.getElem_of_mem ha'
      simp only [List.length_take] at hj
      rw [List.getElem_take]
      simp only [Lib.keeps, decide_eq_true_eq] at hk
      rcases hk with hk | hk
      · omega
      · rw [getB (by omega), getB (by omega)] at hk
        have h1 : zs[m - 1] ≤ zs[m] := List.pairwise_iff_getElem.1 hs (m - 1) m (by omega) (by omega) (by omega)
        have h2 : zs[m - 1] < zs[m] := lt_of_le_ne h1 fun e => hk e.symm
        by_cases e : j = m - 1
        · subst e; exact h2
        · have h3 : zs[j] ≤ zs[m - 1] := List.pairwise_iff_getElem.1 hs j (m - 1) (by omega) (by omega) (by omega)
          exact Std.lt_of_le_of_lt h3 h2
    · rw [if_neg hk, List.append_nil]
      refine ⟨ih.asc, fun x => ?_, by have := ih.len; omega⟩
      rw [ih.mem, hmem]
      refine ⟨.inl, fun h => ?_⟩
      rcases h with h | rfl
      · exact h
      · simp only [Lib.keeps, decide_eq_true_eq, not_or, Classical.not_not] at hk
        obtain ⟨h0, he⟩ := hk
        rw [getB (by omega), getB (by omega)] at he
        rw [he]
        exact List.mem_take_iff_getElem.2 ⟨m - 1, by omega, rfl⟩
theorem cmp_all {zs : LL} (hs : zs.Pairwise fun x y => x ≤ y) : Cmp zs zs.length (cpt zs) := cmp_upto hs _ (Nat.le_refl _)
theorem asc_unique : ∀ {a b : LL}, a.Pairwise (fun x y => x < y) → b.Pairwise (fun x y => x < y) → (∀ x, x ∈ a ↔ x ∈ b) → a = b
  | [], [], _, _, _ => rfl
  | [], y :: b, _, _, h => by have := (h y).2 (by simp); simp at this
  | x :: a, [], _, _, h => by have := (h x).1 (by simp); simp at this
  | x :: a, y :: b, ha, hb, h => by
    obtain ⟨ha1, ha2⟩ := List.pairwise_cons.1 ha
    obtain ⟨hb1, hb2⟩ := List.pairwise_cons.1 hb
    have irr : ∀ z : List UInt8, ¬ z < z := fun z => List.lt_irrefl z
    have exy : x = y := by
      rcases List.mem_cons.1 ((h x).1 (by simp)) with e | e
      · exact e
      · rcases List.mem_cons.1 ((h y).2 (by simp)) with e2 | e2
        · exact e2.symm
        · exact absurd (List.lt_trans (ha1 y e2) (hb1 x e)) (irr x)
    subst exy
    congr 1
    refine asc_unique ha2 hb2 fun z => ⟨fun hz => ?_, fun hz => ?_⟩
    · rcases List.mem_cons.1 ((h z).1 (by simp [hz])) with e | e
      · subst e; exact absurd (ha1 z hz) (irr z)
      · exact e
    · rcases List.mem_cons.1 ((h z).2 (by simp [hz])) with e | e
      · subst e; exact absurd (hb1 z hz) (irr z)
      · exact e
theorem nms_mem {ps : LL} (h : starN ∉ ps) (x : List UInt8) : x ∈ nmsL ps ↔ x ∈ lows ps := by
  unfold nmsL
  rw [if_neg h, (cmp_all (srt_sorted _)).mem, List.take_length]
  exact (srt_perm _).mem_iff
theorem nms_asc (ps : LL) : (nmsL ps).Pairwise fun x y => x < y := by
  unfold nmsL
  split
  · exact .nil
  · exact (cmp_all (srt_sorted _)).asc
theorem nms_len (ps : LL) : (nmsL ps).length ≤ ps.length := by
  unfold nmsL
  split
  · exact Nat.zero_le _
  · have := (cmp_all (srt_sorted (lows ps))).len
    rw [srt_length] at this
    simpa [lows] using this
/-! ### Small letters and white ends -/
theorem low1_eq (c : UInt8) : (low1 c).toNat = if 65 ≤ c.toNat ∧ c.toNat ≤ 90 then c.toNat + 32 else c.toNat := by
  unfold low1
  have h65 : (65 : UInt8).toNat = 65 := rfl
  have h90 : (90 : UInt8).toNat = 90 := rfl
  by_cases h : 65 ≤ c.toNat ∧ c.toNat ≤ 90
  · rw [if_pos h, if_pos (by rw [UInt8.le_iff_toNat_le, UInt8.le_iff_toNat_le, h65, h90]; exact h), UInt8.toNat_add]
    have : (32 : UInt8).toNat = 32 := rfl
    omega
  · rw [if_neg h, if_neg (by rw [UInt8.le_iff_toNat_le, UInt8.le_iff_toNat_le, h65, h90]; exact h)]
theorem low1_low1 (c : UInt8) : low1 (low1 c) = low1 c := by
  apply UInt8.toNat_inj.1
  rw [low1_eq (low1 c), low1_eq c]
  by_cases h : 65 ≤ c.toNat ∧ c.toNat ≤ 90
  · rw [if_pos h, if_neg (by omega)]
  · rw [if_neg h, if_neg h]
theorem lower_lower (s : List UInt8) : lower (lower s) = lower s := by simp [lower, List.map_map, Function.comp_def, low1_low1]
theorem low1_small {c : UInt8} {n : Nat} (hn : n < 65) : (low1 c).toNat = n ↔ c.toNat = n := by
  rw [low1_eq]; split <;> omega
theorem lower_star {p : List UInt8} (h : lower p = starN) : p = starN := by
  cases p with
  | nil => cases h
  | cons c r =>
    cases r with
    | cons d r => simp [lower, starN] at h
    | nil =>
      simp only [lower, List.map_cons, List.map_nil, starN, List.cons.injEq, and_true] at h
      have h1 := (low1_small (c := c) (n := 42) (by omega)).1 (by rw [h]; rfl)
      have : c = 42 := UInt8.toNat_inj.1 h1
      rw [this]; rfl
theorem wh_low (c : UInt8) : wh (low1 c).toNat = wh c.toNat := by
  have h1 := low1_small (c := c) (n := 32) (by omega)
  have h2 := low1_small (c := c) (n := 9) (by omega)
  cases ha : wh (low1 c).toNat <;> cases hb : wh c.toNat <;> first | rfl | (have g1 := wh_iff (low1 c).toNat; have g2 := wh_iff c.toNat; rw [ha] at g1; rw [hb] at g2; simp only [Bool.false_eq_true, false_iff, true_iff] at g1 g2; omega)
theorem tl_low : ∀ s : List UInt8, tl wh (lower s) = lower (tl wh s)
  | [] => rfl
  | c :: s => by
    show tl wh (low1 c :: lower s) = _
    rw [tl_cons, tl_cons, wh_low, tl_low s]
    split <;> rfl
theorem lower_rev (s : List UInt8) : lower s.reverse = (lower s).reverse := by simp [lower]
theorem tr_low (s : List UInt8) : tr wh (lower s) = lower (tr wh s) := by
  unfold tr
  rw [← lower_rev, tl_low, lower_rev]
theorem trim_low (s : List UInt8) : trimW (lower s) = lower (trimW s) := by rw [trimW_eq, trimW_eq, tl_low, tr_low]
theorem tl_idem (p : Nat → Bool) : ∀ s : List UInt8, tl p (tl p s) = tl p s
  | [] => rfl
  | c :: s => by
    rw [tl_cons]
    split
    · exact tl_idem p s
    · rename_i h; rw [tl_cons, if_neg h]
theorem tr_idem (p : Nat → Bool) (s : List UInt8) : tr p (tr p s) = tr p s := by
  unfold tr; rw [List.reverse_reverse, tl_idem]
theorem trim_idem (s : List UInt8) : trimW (trimW s) = trimW s := by
  rw [trimW_eq (trimW s)]
  have e1 : tl wh (trimW s) = trimW s := by
    show tl wh (tl wh (tr wh s)) = _
    rw [tl_idem]; rfl
  rw [e1]
  rw [trimW_eq s, tr_idem]
theorem mem_tl {p : Nat → Bool} {c : UInt8} : ∀ {s : List UInt8}, c ∈ s → p c.toNat = false → c ∈ tl p s
  | d :: s, h, hp => by
    rw [tl_cons]
    split
    · rename_i hd
      rcases List.mem_cons.1 h with rfl | h
      · rw [hp] at hd; cases hd
      · exact mem_tl h hp
    · exact h
theorem mem_tr {p : Nat → Bool} {c : UInt8} {s : List UInt8} (h : c ∈ s) (hp : p c.toNat = false) : c ∈ tr p s := by
  unfold tr
  rw [List.mem_reverse]
  exact mem_tl (List.mem_reverse.2 h) hp
theorem mem_trim {c : UInt8} {s : List UInt8} (h : c ∈ s) (hp : wh c.toNat = false) : c ∈ trimW s := by
  rw [trimW_eq]
  exact mem_tr (mem_tl h hp) hp
theorem trim_sub {c : UInt8} {s : List UInt8} (h : c ∈ trimW s) : c ∈ s := by
  rw [trimW_eq] at h
  unfold tr at h
  rw [List.mem_reverse] at h
  have h1 := (List.dropWhile_suffix _).subset h
  rw [List.mem_reverse] at h1
  exact (List.dropWhile_suffix _).subset h1
/-! ### What stands in a part -/
structure Good (p : List UInt8) : Prop where
  ne : p ≠ []
  tr : trimW p = p
  q : (∀ c ∈ p, c.toNat ≠ 34) → ∀ c ∈ p, c.toNat ≠ 44
def seg (s : List UInt8) (fm i : Nat) : List UInt8 := (s.drop fm).take (i - fm)
theorem seg_snoc {s : List UInt8} {fm i : Nat} (h1 : fm ≤ i) (h2 : i < s.length) : seg s fm (i + 1) = seg s fm i ++ [s[i]] := by
  unfold seg
  rw [show i + 1 - fm = (i - fm) + 1 by omega, List.take_add_one, List.getElem?_drop, show fm + (i - fm) = i by omega, List.getElem?_eq_getElem h2]; rfl
theorem wh34 : wh 34 = false := by decide
theorem wh44 : wh 44 = false := by decide
theorem good_put {s : List UInt8} {fm i : Nat} {acc : LL} (ha : ∀ p ∈ acc, Good p) (hq : (∀ c ∈ seg s fm i, c.toNat ≠ 34) → ∀ c ∈ seg s fm i, c.toNat ≠ 44) : ∀ p ∈ putF s fm i acc, Good p := by
  intro p hp
  unfold putF at hp
  split at hp
  · exact ha p hp
  · rename_i hne
    rcases List.mem_append.1 hp with h | h
    · exact ha p h
    · rw [List.mem_singleton.1 h]
      refine ⟨hne, trim_idem _, fun h34 c hc => hq (fun d hd he => ?_) c (trim_sub hc)⟩
      exact h34 d (mem_trim hd (by rw [he]; exact wh34)) he
theorem good_split {s : List UInt8} {i fm : Nat} {q : Bool} {acc : LL} (hf : fm ≤ i) (ha : ∀ p ∈ acc, Good p) (hq : q = false → (∀ c ∈ seg s fm (min i s.length), c.toNat ≠ 34) → ∀ c ∈ seg s fm (min i s.length), c.toNat ≠ 44) (hq2 : q = true → ∃ c ∈ seg s fm (min i s.length), c.toNat = 34) : ∀ p ∈ splitF s i fm q acc, Good p := by
  induction hk : s.length + 2 - i using Nat.strongRecOn generalizing i fm q acc with
  | _ k ih =>
    by_cases h : i < s.length
    · have hm : min i s.length = i := by omega
      have hm1 : min (i + 1) s.length = i + 1 := by omega
      rw [hm] at hq hq2
      have hb := byteAt_get s i h
      have e1 := seg_snoc hf h
      have h34 : q = true → ∃ c ∈ seg s fm (i + 1), c.toNat = 34 := fun hqt => by
        obtain ⟨c, hc, he⟩ := hq2 hqt
        exact ⟨c, by rw [e1]; simp [hc], he⟩
      rw [splitF_in h]
      split
      · rename_i hc
        obtain ⟨hqt, h92⟩ := hc
        subst hqt
        refine ih (s.length + 2 - (i + 2)) (by omega) (by omega) ha (fun hx => by cases hx) (fun _ => ?_) rfl
        obtain ⟨c, hc, he⟩ := h34 rfl
        by_cases hl : i + 1 < s.length
        · have e2 := seg_snoc (s := s) (fm := fm) (i := i + 1) (by omega) hl
          rw [show min (i + 2) s.length = i + 1 + 1 by omega, e2]
          exact ⟨c, by simp [hc], he⟩
        · rw [show min (i + 2) s.length = i + 1 by omega]; exact ⟨c, hc, he⟩
      · split
        · rename_i h1 h2
          refine ih (s.length + 2 - (i + 1)) (by omega) (by omega) ha (fun hx => ?_) (fun hx => ?_) rfl
          · rw [hm1]
            have hqt : q = true := by cases q <;> simp_all
            intro hall
            obtain ⟨c, hc, he⟩ := h34 hqt
            exact absurd he (hall c hc)
          · rw [hm1, e1]
            exact ⟨s[i], by simp, by omega⟩
        · split
          · rename_i h1 h2 h3
            obtain ⟨h44, hqf⟩ := h3
            subst hqf
            refine ih (s.length + 2 - (i + 1)) (by omega) (Nat.le_refl _) (good_put ha (hq rfl)) (fun _ _ c hc => ?_) (fun hx => by cases hx) rfl
            rw [hm1] at hc
            simp [seg] at hc
          · rename_i h1 h2 h3
            refine ih (s.length + 2 - (i + 1)) (by omega) (by omega) ha (fun hx => ?_) (fun hx => ?_) rfl
            · rw [hm1, e1]
              intro hall c hc
              rcases List.mem_append.1 hc with hc | hc
              · exact hq hx (fun d hd => hall d (by simp [hd])) c hc
              · rw [List.mem_singleton.1 hc]
                intro he
                exact h3 ⟨by omega, hx⟩
            · rw [hm1]; exact h34 hx
    · rw [splitF_end (by omega)]
      have hm : min i s.length = s.length := by omega
      rw [hm] at hq hq2
      refine good_put ha ?_
      cases q with
      | false => exact hq rfl
      | true =>
        intro hall
        obtain ⟨c, hc, he⟩ := hq2 rfl
        exact absurd he (hall c hc)
theorem split_good {s p : List UInt8} (h : p ∈ split s) : Good p :=
  good_split (i := 0) (fm := 0) (q := false) (acc := []) (Nat.le_refl _) (fun p hp => by cases hp) (fun _ _ c hc => by simp [seg] at hc) (fun hx => by cases hx) p h
theorem parts_good {ls : LL} {p : List UInt8} (h : p ∈ partsF ls) : Good p := by
  simp only [partsF, List.mem_flatMap] at h
  obtain ⟨s, _, h2⟩ := h
  exact split_good h2
theorem good_low {p : List UInt8} (h : Good p) : Good (lower p) := by
  refine ⟨fun he => h.ne ?_, by rw [trim_low, h.tr], fun h34 c hc => ?_⟩
  · cases p with
    | nil => rfl
    | cons c r => cases he
  · obtain ⟨d, hd, rfl⟩ := List.mem_map.1 hc
    intro he
    refine h.q (fun e hee h3 => h34 (low1 e) (List.mem_map.2 ⟨e, hee, rfl⟩) ((low1_small (by omega)).2 h3)) d hd ((low1_small (by omega)).1 he)
/-! ### Names written one behind the other -/
def bk (l : LL) : List UInt8 := l.flatMap fun n => n ++ [44, 32]
theorem spl_join {s : List UInt8} : ∀ {xs : LL} {x pre : List UInt8} {acc : LL}, (∀ y ∈ x :: xs, ∀ c ∈ y, c.toNat ≠ 34 ∧ c.toNat ≠ 44) → s = pre ++ x ++ xs.flatMap (fun y => 44 :: y) → splitF s pre.length pre.length false acc = acc ++ (((x :: xs).map trimW).filter fun t => decide (t ≠ []))
  | [], x, pre, acc, hx, hs => by
    have h1 := seg_step (s := s) (post := []) (q := false) (fm := pre.length) (acc := acc) (seg := x) (pre := pre) (by rw [hs]; simp) fun c hc => ⟨(hx x (by simp) c hc).1, fun h => (by cases h), fun _ => (hx x (by simp) c hc).2⟩
    rw [h1, splitF_end (by rw [hs]; simp), show s.length = pre.length + x.length by rw [hs]; simp, put_mid (post := []) (by rw [hs]; simp)]
    by_cases h : trimW x = [] <;> simp [h]
  | y :: ys, x, pre, acc, hx, hs => by
    have h1 := seg_step (s := s) (post := 44 :: (y ++ ys.flatMap fun y => 44 :: y)) (q := false) (fm := pre.length) (acc := acc) (seg := x) (pre := pre) (by rw [hs]; simp) fun c hc => ⟨(hx x (by simp) c hc).1, fun h => (by cases h), fun _ => (hx x (by simp) c hc).2⟩
    have h2 := comma_step (s := s) (pre := pre ++ x) (post := y ++ ys.flatMap fun y => 44 :: y) (fm := pre.length) (acc := acc) (by rw [hs]; simp)
    have h3 := spl_join (s := s) (xs := ys) (x := y) (pre := pre ++ x ++ [44]) (acc := putF s pre.length (pre.length + x.length) acc) (fun z hz => hx z (List.mem_cons_of_mem _ hz)) (by rw [hs]; simp)
    rw [h1]
    simp only [List.length_append, List.length_cons, List.length_nil] at h2 h3
    rw [h2, h3, put_mid (post := 44 :: (y ++ ys.flatMap fun y => 44 :: y)) (by rw [hs]; simp)]
    by_cases h : trimW x = [] <;> simp [h]
theorem bk_form : ∀ (n : List UInt8) (r : LL), bk (n :: r) = n ++ (r.map (fun m => 32 :: m) ++ [[32]]).flatMap (fun y => 44 :: y)
  | n, [] => by simp [bk]
  | n, m :: r => by
    have h := bk_form m r
    unfold bk at h ⊢
    rw [List.flatMap_cons, h]
    simp
theorem trim32 (n : List UInt8) : trimW (32 :: n) = trimW n := by
  rw [trimW_eq, trimW_eq, tl_cons, if_pos (by decide)]
theorem split_nil : split [] = [] := by
  unfold split
  rw [splitF_end (s := []) (i := 0) (by simp)]
  exact put_nil rfl
theorem spl_bk {l : LL} (h : ∀ n ∈ l, n ≠ [] ∧ trimW n = n ∧ ∀ c ∈ n, c.toNat ≠ 34 ∧ c.toNat ≠ 44) : split (bk l) = l := by
  cases l with
  | nil => exact split_nil
  | cons n r =>
    have h1 := spl_join (s := bk (n :: r)) (xs := r.map (fun m => 32 :: m) ++ [[32]]) (x := n) (pre := []) (acc := []) (fun y hy c hc => by
      rcases List.mem_cons.1 hy with rfl | hy
      · exact (h _ (by simp)).2.2 c hc
      · rcases List.mem_append.1 hy with hy | hy
        · obtain ⟨m, hm, rfl⟩ := List.mem_map.1 hy
          rcases List.mem_cons.1 hc with rfl | hc
          · decide
          · exact (h m (by simp [hm])).2.2 c hc
        · rw [List.mem_singleton.1 hy] at hc
          rw [List.mem_singleton.1 hc]; decide) (by rw [bk_form]; rfl)
    refine h1.trans ?_
    have e : ∀ r : LL, (∀ n ∈ r, n ≠ [] ∧ trimW n = n ∧ ∀ c ∈ n, c.toNat ≠ 34 ∧ c.toNat ≠ 44) → ((r.map (fun m => 32 :: m) ++ [[32]]).map trimW).filter (fun t => decide (t ≠ [])) = r := by
      intro r hr
      induction r with
      | nil => rfl
      | cons m r ih =>
        rw [List.map_cons, List.cons_append, List.map_cons, trim32, (hr m (by simp)).2.1, List.filter_cons, if_pos (by simpa using (hr m (by simp)).1), ih fun n hn => hr n (by simp [hn])]
    rw [List.nil_append, List.map_cons, List.filter_cons, (h n (by simp)).2.1, if_pos (by simpa using (h n (by simp)).1), e r fun m hm => h m (by simp [hm])]
theorem bk_app (a b : LL) : bk (a ++ b) = bk a ++ bk b := by simp [bk]
/-- The names once more. -/
theorem nms_again {ps : LL} (hp : ∀ p ∈ ps, Good p) (h34 : ∀ c ∈ bk (nmsL ps).reverse, c.toNat ≠ 34) : nmsL (split (bk (nmsL ps).reverse ++ bk (nmsL ps).reverse)) = nmsL ps := by
  by_cases hs : starN ∈ ps
  · have e : nmsL ps = [] := if_pos hs
    rw [e]
    show nmsL (split []) = []
    rw [split_nil]
    simp [nmsL, lows, srt, cpt, Lib.compact, Lib.compactUpTo]
  · have hg : ∀ n ∈ (nmsL ps).reverse, n ≠ [] ∧ trimW n = n ∧ ∀ c ∈ n, c.toNat ≠ 34 ∧ c.toNat ≠ 44 := fun n hn => by
      have hn' := (nms_mem hs n).1 (List.mem_reverse.1 hn)
      obtain ⟨p, hpp, rfl⟩ := List.mem_map.1 hn'
      have g := good_low (hp p hpp)
      have h3 : ∀ c ∈ lower p, c.toNat ≠ 34 := fun c hc => h34 c (List.mem_flatMap.2 ⟨_, hn, by simp [hc]⟩)
      exact ⟨g.ne, g.tr, fun c hc => ⟨h3 c hc, g.q h3 c hc⟩⟩
    rw [← bk_app, spl_bk (fun n hn => by rcases List.mem_append.1 hn with hn | hn <;> exact hg n hn)]
    have hns : starN ∉ (nmsL ps).reverse ++ (nmsL ps).reverse := fun hm => by
      have hm' : starN ∈ nmsL ps := by simpa using hm
      obtain ⟨p, hpp, he⟩ := List.mem_map.1 ((nms_mem hs _).1 hm')
      rw [lower_star he] at hpp
      exact hs hpp
    refine asc_unique (nms_asc _) (nms_asc _) fun x => ?_
    rw [nms_mem hns, nms_mem hs]
    unfold lows
    simp only [List.mem_map, List.mem_append, List.mem_reverse, or_self]
    constructor
    · rintro ⟨n, hn, rfl⟩
      obtain ⟨p, hpp, rfl⟩ := List.mem_map.1 ((nms_mem hs n).1 hn)
      exact ⟨p, hpp, (lower_lower p).symm⟩
    · rintro ⟨p, hpp, rfl⟩
      exact ⟨lower p, (nms_mem hs _).2 (List.mem_map.2 ⟨p, hpp, rfl⟩), lower_lower p⟩
end Go.Proofs.YtciciemaldbidaaDoor

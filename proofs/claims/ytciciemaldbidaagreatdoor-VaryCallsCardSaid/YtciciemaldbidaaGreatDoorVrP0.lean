/- Names in order, each once (plain law): what vary.Names makes of parts, and of its own names. -/
import Derived.Test.YtciciemaldbidaaGreatDoorFr1
import Derived.Lib.SlicesCompact
import Derived.Sort.Walk0
set_option linter.unusedSimpArgs false
set_option linter.unusedVariables false
namespace Go.Proofs.YtciciemaldbidaaGreatDoor
open Go Go.Ve
set_option maxRecDepth 20000
def srt (ls : LL) : LL := ls.mergeSort fun x y => decide (x ≤ y)
def cpt (ls : LL) : LL := Lib.compact ls
def starN : List UInt8 := [42]
def lows (ps : LL) : LL := ps.map lower
def nmsL (ps : LL) : LL := if starN ∈ ps then [] else cpt (srt (lows ps))
theorem srt_perm (ls : LL) : (srt ls).Perm ls := List.mergeSort_perm _ _
theorem srt_sorted (ls : LL) : (srt ls).Pairwise fun x y => x ≤ y := by
  have h := List.pairwise_mergeSort (le := fun x y : List UInt8 => decide (x ≤ y)) (fun a b c h1 h2 => by simp only [decide_eq_true_eq] at *; exact List.le_trans h1 h2) (fun a b => by simp only [Bool.or_eq_true, decide_eq_true_eq]; exact List.le_total a b) ls
  exact h.imp fun h => by simpa using h
theorem srt_length (ls : LL) : (srt ls).length = ls.length := (srt_perm ls).length_eq
theorem lt_of_le_ne {a b : List UInt8} (h : a ≤ b) (hn : a ≠ b) : a < b := by
  by_cases h2 : a < b
  · exact h2
  · exact absurd (List.le_antisymm h (List.not_lt.1 h2)) hn
structure Cmp (zs : LL) (m : Nat) (c : LL) : Prop where
  asc : c.Pairwise fun x y => x < y
  mem : ∀ x, x ∈ c ↔ x ∈ zs.take m
  len : c.length ≤ m
theorem getB {zs : LL} {m : Nat} (h : m < zs.length) : zs.toArray[m]! = zs[m] := by
  rw [getElem!_pos zs.toArray m (by simpa using h)]; simp
theorem cmp_upto {zs : LL} (hs : zs.Pairwise fun x y => x ≤ y) : ∀ m, m ≤ zs.length → Cmp zs m (Lib.compactUpTo zs.toArray m)
  | 0, _ => ⟨by simp [Lib.compactUpTo], by simp [Lib.compactUpTo], by simp [Lib.compactUpTo]⟩
  | m + 1, hm => by
    have ih := cmp_upto hs m (by omega)
    have hmem : ∀ x, x ∈ zs.take (m + 1) ↔ x ∈ zs.take m ∨ x = zs[m] := fun x => by
      rw [List.take_succ_eq_append_getElem (show m < zs.length by omega), List.mem_append, List.mem_singleton]
    rw [Lib.compactUpTo_succ]
    by_cases hk : Lib.keeps zs.toArray m = true
    · rw [if_pos hk, getB (by omega)]
      refine ⟨?_, fun x => by rw [List.mem_append, List.mem_singleton, hmem, ih.mem], by have := ih.len; simp; omega⟩
      refine List.pairwise_append.2 ⟨ih.asc, by simp, fun a ha b hb => ?_⟩
      rw [List.mem_singleton.1 hb]
      have ha' := (ih.mem a).1 ha
      obtain ⟨j, hj, rfl⟩ := List.getElem_of_mem ha'
      simp only [List.length_take] at hj
      rw [List.getElem_take]
      simp only [Lib.keeps, decide_eq_true_eq] at hk
      rcases hk with hk | hk
      · omega
      · rw [getB (by omega), getB (by omega)] at hk
        have h1 : zs[m - 1] ≤ zs[m] := List.pairwise_iff_getElem.1 hs (m - 1) m (by omega) (by omega) (by omega)
        have h2 : zs[m - 1] < zs[m] := lt_of_le_ne h1 fun e => hk e.symm
        by_cases e : j = m - 1
        · subst e; exact h2
        · have h3 : zs[j] ≤ zs[m - 1] := List.pairwise_iff_getElem.1 hs j (m - 1) (by omega) (by omega) (by omega)
          exact Std.lt_of_le_of_lt h3 h2
    · rw [if_neg hk, List.append_nil]
      refine ⟨ih.asc, fun x => ?_, by have := ih.len; omega⟩
      rw [ih.mem, hmem]
      refine ⟨.inl, fun h => ?_⟩
      rcases h with h | rfl
      · exact h
      · simp only [Lib.keeps, decide_eq_true_eq, not_or, Classical.not_not] at hk
        obtain ⟨h0, he⟩ := hk
        rw [getB (by omega), getB (by omega)] at he
        rw [he]
        exact List.mem_take_iff_getElem.2 ⟨m - 1, by omega, rfl⟩
theorem cmp_all {zs : LL} (hs : zs.Pairwise fun x y => x ≤ y) : Cmp zs zs.length (cpt zs) := cmp_upto hs _ (Nat.le_refl _)
theorem asc_unique : ∀ {a b : LL}, a.Pairwise (fun x y => x < y) → b.Pairwise (fun x y => x < y) → (∀ x, x ∈ a ↔ x ∈ b) → a = b
  | [], [], _, _, _ => rfl
  | [], y :: b, _, _, h => by have := (h y).2 (by simp); simp at this
  | x :: a, [], _, _, h => by have := (h x).1 (by simp); simp at this
  | x :: a, y :: b, ha, hb, h => by
    obtain ⟨ha1, ha2⟩ := List.pairwise_cons.1 ha
    obtain ⟨hb1, hb2⟩ := List.pairwise_cons.1 hb
    have irr : ∀ z : List UInt8, ¬ z < z := fun z => List.lt_irrefl z
    have exy : x = y := by
      rcases List.mem_cons.1 ((h x).1 (by simp)) with e | e
      · exact e
      · rcases List.mem_cons.1 ((h y).2 (by simp)) with e2 | e2
        · exact e2.symm
        · exact absurd (List.lt_trans (ha1 y e2) (hb1 x e)) (irr x)
    subst exy
    congr 1
    refine asc_unique ha2 hb2 fun z => ⟨fun hz => ?_, fun hz => ?_⟩
    · rcases List.mem_cons.1 ((h z).1 (by simp [hz])) with e | e
      · subst e; exact absurd (ha1 z hz) (irr z)
      · exact e
    · rcases List.mem_cons.1 ((h z).2 (by simp [hz])) with e | e
      · subst e; exact absurd (hb1 z hz) (irr z)
      · exact e
theorem nms_mem {ps : LL} (h : starN ∉ ps) (x : List UInt8) : x ∈ nmsL ps ↔ x ∈ lows ps := by
  unfold nmsL
  rw [if_neg h, (cmp_all (srt_sorted _)).mem, List.take_length]
  exact (srt_perm _).mem_iff
theorem nms_asc (ps : LL) : (nmsL ps).Pairwise fun x y => x < y := by
  unfold nmsL
  split
  · exact .nil
  · exact (cmp_all (srt_sorted _)).asc
theorem nms_len (ps : LL) : (nmsL ps).length ≤ ps.length := by
  unfold nmsL
  split
  · exact Nat.zero_le _
  · have := (cmp_all (srt_sorted (lows ps))).len
    rw [srt_length] at this
    simpa [lows] using this
end Go.Proofs.YtciciemaldbidaaGreatDoor

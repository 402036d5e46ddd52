/- Where a timer goes in a sorted list: plain facts. -/
import Derived.Test.YtainjcpocodehaaRfC
set_option linter.unusedSimpArgs false
set_option linter.unusedVariables false
namespace Go.Proofs.Ytainjcpocodehaa
open Go Go.Ve
set_option maxRecDepth 20000
theorem posT_le (t : Tm) (u : TL) : ∀ k, posT t u k ≤ k
  | 0 => Nat.le_refl _
  | k + 1 => by
    have := posT_le t u k
    show cond _ (posT t u k) (k + 1) ≤ k + 1
    cases tlt t (pk u k)
    · exact Nat.le_refl _
    · exact Nat.le_succ_of_le this
theorem posT_hi (t : Tm) (u : TL) : ∀ (k j : Nat), posT t u k ≤ j → j < k → tlt t (pk u j) = true
  | 0, _, _, h => absurd h (Nat.not_lt_zero _)
  | k + 1, j, h1, h2 => by
    have h1 : cond (tlt t (pk u k)) (posT t u k) (k + 1) ≤ j := h1
    cases hc : tlt t (pk u k) with
    | false => rw [hc] at h1; have h1 : k + 1 ≤ j := h1; omega
    | true =>
      rw [hc] at h1
      rcases Nat.lt_or_ge j k with h | h
      · exact posT_hi t u k j h1 h
      · have : j = k := by omega
        subst this; exact hc
theorem posT_lo (t : Tm) (u : TL) : ∀ (k : Nat), 0 < posT t u k → tlt t (pk u (posT t u k - 1)) = false
  | 0, h => absurd h (Nat.lt_irrefl 0)
  | k + 1, h => by
    cases hc : tlt t (pk u k) with
    | false =>
      have e : posT t u (k + 1) = k + 1 := by show cond _ _ _ = _; rw [hc]; rfl
      rw [e]; exact hc
    | true =>
      have e : posT t u (k + 1) = posT t u k := by show cond _ _ _ = _; rw [hc]; rfl
      rw [e] at h ⊢
      exact posT_lo t u k h
theorem ins_take (t : Tm) : ∀ (u : TL) (p : Nat), p ≤ u.length → (∀ j, j < p → tlt t (pk u j) = false) → (p < u.length → tlt t (pk u p) = true) → ins t u = u.take p ++ t :: u.drop p
  | [], 0, _, _, _ => rfl
  | [], p + 1, h, _, _ => by simp at h
  | x :: r, 0, _, _, h => by
    have h : tlt t x = true := h (by simp)
    simp only [ins, h, if_true]; rfl
  | x :: r, p + 1, hp, h1, h2 => by
    have h0 : tlt t x = false := h1 0 (by omega)
    have ih := ins_take t r p (by simpa using hp) (fun j hj => h1 (j + 1) (by omega)) (fun hp2 => h2 (by simpa using hp2))
    simp only [ins, h0, Bool.false_eq_true, if_false, ih]
    rfl
theorem ins_posT (t : Tm) {u : TL} (hs : Srt u) : ins t u = u.take (posT t u u.length) ++ t :: u.drop (posT t u u.length) := by
  refine ins_take t u _ (posT_le t u _) (fun j hj => ?_) fun h => posT_hi t u u.length _ (Nat.le_refl _) h
  have hl := posT_lo t u u.length (by omega)
  have hle := posT_le t u u.length
  cases hc : tlt t (pk u j) with
  | false => rfl
  | true =>
    rcases Nat.lt_or_ge j (posT t u u.length - 1) with h | h
    · have h1 := (tle_iff _ _).1 (by
        have := List.pairwise_iff_getElem.1 hs j (posT t u u.length - 1) (by omega) (by omega) h
        rw [← pk_get (show j < u.length by omega), ← pk_get (show posT t u u.length - 1 < u.length by omega)] at this
        exact this)
      have h2 := (tlt_iff _ _).1 hc
      have h3 : tlt t (pk u (posT t u u.length - 1)) = true := (tlt_iff _ _).2 (by omega)
      rw [h3] at hl; cases hl
    · have e : j = posT t u u.length - 1 := by omega
      rw [← e, hc] at hl; cases hl
end Go.Proofs.Ytainjcpocodehaa

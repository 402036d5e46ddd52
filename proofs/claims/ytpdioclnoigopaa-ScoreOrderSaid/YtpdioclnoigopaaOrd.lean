/- How numbers of the float format stand to each other, and their ranks: plain facts. -/
import Derived.Test.YtpdioclnoigopaaScore
import Ieee.Arith
namespace Go.Proofs.Ytpdioclnoigopaa
open Go Go.Ve Ieee

/-- The magnitude of a rung, in units of the last place. -/
def fv (r : Nat) : Nat := if r < 2 ^ 52 then r else (2 ^ 52 + r % 2 ^ 52) * 2 ^ (r / 2 ^ 52 - 1)
theorem fv_lt {r s : Nat} (h : r < s) : fv r < fv s := by
  unfold fv
  by_cases h1 : s < 2 ^ 52
  · rw [if_pos h1, if_pos (by omega)]; exact h
  · rw [if_neg h1]
    have key : 2 ^ 52 * 2 ^ (s / 2 ^ 52 - 1) ≤ (2 ^ 52 + s % 2 ^ 52) * 2 ^ (s / 2 ^ 52 - 1) := Nat.mul_le_mul_right _ (by omega)
    by_cases h2 : r < 2 ^ 52
    · rw [if_pos h2]
      exact Nat.lt_of_lt_of_le h2 (Nat.le_trans (Nat.le_mul_of_pos_right _ (Nat.two_pow_pos _)) key)
    · rw [if_neg h2]
      by_cases h3 : r / 2 ^ 52 = s / 2 ^ 52
      · rw [h3]; exact Nat.mul_lt_mul_of_pos_right (by omega) (Nat.two_pow_pos _)
      · refine Nat.lt_of_lt_of_le ?_ key
        have h5 : (2 ^ 52 + r % 2 ^ 52) * 2 ^ (r / 2 ^ 52 - 1) < 2 ^ 53 * 2 ^ (r / 2 ^ 52 - 1) := Nat.mul_lt_mul_of_pos_right (by omega) (Nat.two_pow_pos _)
        refine Nat.lt_of_lt_of_le h5 ?_
        rw [show (2 : Nat) ^ 53 = 2 ^ 52 * 2 from rfl, Nat.mul_assoc, ← Nat.pow_succ']
        exact Nat.mul_le_mul_left _ (Nat.pow_le_pow_right (by decide) (by omega))
/-- The number itself, in units of the last place. -/
def sv (b : Nat) : Int := if b < 2 ^ 63 then (fv b : Int) else -(fv (b - 2 ^ 63) : Int)
def rung (b : Nat) : Nat := if b < 2 ^ 63 then b else b - 2 ^ 63
def neg (b : Nat) : Bool := decide (2 ^ 63 ≤ b)
/-- Is it no number? -/
def isN (b : Nat) : Bool := decide (2047 * 2 ^ 52 < rung b)
theorem sv_eq (b : Nat) : sv b = if neg b then -(fv (rung b) : Int) else (fv (rung b) : Int) := by
  unfold sv neg rung
  by_cases h : b < 2 ^ 63
  · rw [if_pos h, if_pos h, decide_eq_false (by omega), if_neg (by decide)]
  · rw [if_neg h, if_neg h, decide_eq_true (by omega), if_pos rfl]
theorem double_sw : double.signWeight = 2 ^ 63 := by kernel_rfl
theorem double_bi : double.binade = 2 ^ 52 := by kernel_rfl
theorem double_ir : double.infRung = 2047 * 2 ^ 52 := by kernel_rfl
theorem double_lp : double.leastPlace = -1074 := by kernel_rfl
theorem neg_eq {b : Nat} (hb : b < 2 ^ 64) : (b / 2 ^ 63 % 2 == 1) = neg b := by
  unfold neg
  by_cases h : b < 2 ^ 63
  · rw [decide_eq_false (by omega), Nat.div_eq_of_lt h]; rfl
  · rw [decide_eq_true (by omega), show b / 2 ^ 63 = 1 by omega]; rfl
theorem rung_eq {b : Nat} (hb : b < 2 ^ 64) : b % 2 ^ 63 = rung b := by
  unfold rung
  split <;> omega
theorem read_eq {b : Nat} (hb : b < 2 ^ 64) : double.read b = if rung b < 2 ^ 52 then .number (neg b) (rung b) (-1074)
    else if rung b < 2047 * 2 ^ 52 then .number (neg b) (2 ^ 52 + rung b % 2 ^ 52) (-1074 + (rung b / 2 ^ 52 - 1 : Nat))
    else if rung b = 2047 * 2 ^ 52 then .infinity (neg b) else .nan (neg b) (rung b - 2047 * 2 ^ 52) := by
  unfold Format.read
  rw [double_sw, double_bi, double_ir, double_lp, neg_eq hb, rung_eq hb]
theorem cmp_mul {x y : Int} {c : Int} (h : 0 < c) : compare (x * c) (y * c) = compare x y := by
  rcases Int.lt_trichotomy x y with h1 | h1 | h1
  · have h2 : x * c < y * c := Int.mul_lt_mul_of_pos_right h1 h
    rw [Int.compare_eq_lt.2 h1, Int.compare_eq_lt.2 h2]
  · subst h1; rw [Int.compare_eq_eq.2 rfl, Int.compare_eq_eq.2 rfl]
  · have h2 : y * c < x * c := Int.mul_lt_mul_of_pos_right h1 h
    rw [Int.compare_eq_gt.2 h1, Int.compare_eq_gt.2 h2]
theorem signed_mul (s : Bool) (m a c : Nat) : signed s m a * ((2 ^ c : Nat) : Int) = if s then -((m * 2 ^ (a + c) : Nat) : Int) else ((m * 2 ^ (a + c) : Nat) : Int) := by
  unfold signed
  rw [Nat.shiftLeft_eq, Nat.pow_add, ← Nat.mul_assoc]
  cases s <;> simp [Int.neg_mul]
theorem order_num (s t : Bool) (m n e g : Nat) : (Datum.number s m (-1074 + (e : Int))).order (.number t n (-1074 + (g : Int))) = some (compare (if s then -((m * 2 ^ e : Nat) : Int) else ((m * 2 ^ e : Nat) : Int)) (if t then -((n * 2 ^ g : Nat) : Int) else ((n * 2 ^ g : Nat) : Int))) := by
  unfold Datum.order
  simp only
  congr 1
  rw [← cmp_mul (c := ((2 ^ (min e g) : Nat) : Int)) (by have := Nat.two_pow_pos (min e g); omega), signed_mul, signed_mul]
  rw [show (-1074 + (e : Int) - min (-1074 + (e : Int)) (-1074 + (g : Int))).toNat + min e g = e by omega,
    show (-1074 + (g : Int) - min (-1074 + (e : Int)) (-1074 + (g : Int))).toNat + min e g = g by omega]
theorem read_num {b : Nat} (hb : b < 2 ^ 64) (h : rung b < 2047 * 2 ^ 52) : ∃ m e : Nat, double.read b = .number (neg b) m (-1074 + (e : Int)) ∧ m * 2 ^ e = fv (rung b) := by
  rw [read_eq hb]
  unfold fv
  by_cases h1 : rung b < 2 ^ 52
  · rw [if_pos h1, if_pos h1]
    exact ⟨rung b, 0, rfl, by simp⟩
  · rw [if_neg h1, if_neg h1, if_pos h]
    exact ⟨_, _, rfl, rfl⟩
theorem read_inf {b : Nat} (hb : b < 2 ^ 64) (h : rung b = 2047 * 2 ^ 52) : double.read b = .infinity (neg b) := by
  rw [read_eq hb, h]; rfl
theorem read_nan {b : Nat} (hb : b < 2 ^ 64) (h : 2047 * 2 ^ 52 < rung b) : double.read b = .nan (neg b) (rung b - 2047 * 2 ^ 52) := by
  rw [read_eq hb, if_neg (by omega), if_neg (by omega), if_neg (by omega)]
theorem neg_if (n : Bool) (f : Nat) (F : Nat) (h : f < F) : (if n = true then -(f : Int) else (f : Int)) < (F : Int) ∧ -(F : Int) < (if n = true then -(f : Int) else (f : Int)) := by
  cases n
  · simp only [Bool.false_eq_true, if_false]; omega
  · simp only [if_true]; omega
theorem order_sv {a b : Nat} (ha : a < 2 ^ 64) (hb : b < 2 ^ 64) (na : isN a = false) (nb : isN b = false) : double.order a b = some (compare (sv a) (sv b)) := by
  have na := of_decide_eq_false na
  have nb := of_decide_eq_false nb
  unfold Format.order
  rw [sv_eq, sv_eq]
  have big {x : Nat} (h : rung x < 2047 * 2 ^ 52) : fv (rung x) < fv (2047 * 2 ^ 52) := fv_lt h
  have pos : 0 < fv (2047 * 2 ^ 52) := Nat.lt_of_le_of_lt (Nat.zero_le _) (fv_lt (r := 0) (by decide))
  rcases Nat.lt_or_ge (rung a) (2047 * 2 ^ 52) with h1 | h1
  · obtain ⟨m, e, h2, h3⟩ := read_num ha h1
    rcases Nat.lt_or_ge (rung b) (2047 * 2 ^ 52) with h4 | h4
    · obtain ⟨n, g, h5, h6⟩ := read_num hb h4
      rw [h2, h5, order_num, h3, h6]
    · have h4 : rung b = 2047 * 2 ^ 52 := by omega
      rw [h2, read_inf hb h4, h4]
      have := neg_if (neg a) _ _ (big h1)
      generalize fv (2047 * 2 ^ 52) = F at *
      generalize (if neg a = true then -(fv (rung a) : Int) else (fv (rung a) : Int)) = x at *
      cases hn : neg b
      · exact congrArg some (Int.compare_eq_lt.2 (by simpa using this.1)).symm
      · exact congrArg some (Int.compare_eq_gt.2 (by simpa using this.2)).symm
  · have h1 : rung a = 2047 * 2 ^ 52 := by omega
    rw [read_inf ha h1, h1]
    rcases Nat.lt_or_ge (rung b) (2047 * 2 ^ 52) with h4 | h4
    · obtain ⟨n, g, h5, h6⟩ := read_num hb h4
      rw [h5]
      have := neg_if (neg b) _ _ (big h4)
      generalize fv (2047 * 2 ^ 52) = F at *
      generalize (if neg b = true then -(fv (rung b) : Int) else (fv (rung b) : Int)) = x at *
      cases hn : neg a
      · exact congrArg some (Int.compare_eq_gt.2 (by simpa using this.1)).symm
      · exact congrArg some (Int.compare_eq_lt.2 (by simpa using this.2)).symm
    · have h4 : rung b = 2047 * 2 ^ 52 := by omega
      rw [read_inf hb h4, h4]
      generalize fv (2047 * 2 ^ 52) = F at *
      cases hn : neg a <;> cases hm : neg b
      · exact congrArg some (Int.compare_eq_eq.2 rfl).symm
      · exact congrArg some (Int.compare_eq_gt.2 (by simp only [Bool.false_eq_true, if_false, if_true]; omega)).symm
      · exact congrArg some (Int.compare_eq_lt.2 (by simp only [Bool.false_eq_true, if_false, if_true]; omega)).symm
      · exact congrArg some (Int.compare_eq_eq.2 rfl).symm
theorem order_nanL {a b : Nat} (ha : a < 2 ^ 64) (na : isN a = true) : double.order a b = none := by
  have na := of_decide_eq_true na
  unfold Format.order
  rw [read_nan ha na]; rfl
theorem order_nanR {a b : Nat} (hb : b < 2 ^ 64) (nb : isN b = true) : double.order a b = none := by
  have nb := of_decide_eq_true nb
  unfold Format.order
  rw [read_nan hb nb]
  cases double.read a <;> rfl
/-- A number is the same as itself, unless it is none. -/
theorem self_eq {a : Nat} (ha : a < 2 ^ 64) : (double.order a a == some .eq) = !isN a := by
  cases h : isN a
  · rw [order_sv ha ha h h, Int.compare_eq_eq.2 rfl]; rfl
  · rw [order_nanL ha h]; rfl
theorem sv_zero {b : Nat} (hb : b < 2 ^ 64) : sv b = 0 ↔ rung b = 0 := by
  rw [sv_eq]
  constructor
  · intro h
    rcases Nat.eq_zero_or_pos (rung b) with h0 | h0
    · exact h0
    · have := fv_lt h0
      split at h <;> omega
  · intro h
    rw [h]; split <;> rfl
theorem zero_ne {a : Nat} (ha : a < 2 ^ 64) (na : isN a = false) : (double.order a 0 != some .eq) = decide (rung a ≠ 0) := by
  rw [order_sv ha (by decide) na (by decide)]
  have hz := sv_zero ha
  by_cases h : rung a = 0
  · rw [hz.2 h, decide_eq_false (by simpa using h), show sv 0 = 0 by decide, Int.compare_eq_eq.2 rfl]; rfl
  · rw [decide_eq_true h]
    have h1 : sv a ≠ 0 := fun h2 => h (hz.1 h2)
    rw [show sv 0 = 0 by decide]
    rcases Int.lt_trichotomy (sv a) 0 with h2 | h2 | h2
    · rw [Int.compare_eq_lt.2 h2]; rfl
    · exact absurd h2 h1
    · rw [Int.compare_eq_gt.2 h2]; rfl
theorem rk_sv {a b : Nat} (ha : a < 2 ^ 64) (hb : b < 2 ^ 64) (za : rung a ≠ 0) (zb : rung b ≠ 0) : rk a < rk b ↔ sv a < sv b := by
  have fa : 0 < fv (rung a) := Nat.lt_of_le_of_lt (Nat.zero_le _) (fv_lt (Nat.pos_of_ne_zero za))
  have fb : 0 < fv (rung b) := Nat.lt_of_le_of_lt (Nat.zero_le _) (fv_lt (Nat.pos_of_ne_zero zb))
  have up {x y : Nat} : x < y ↔ fv x < fv y := by
    constructor
    · exact fv_lt
    · intro h
      rcases Nat.lt_trichotomy x y with h1 | h1 | h1
      · exact h1
      · subst h1; omega
      · have := fv_lt h1; omega
  have u1 := @up (rung a) (rung b)
  have u2 := @up (rung b) (rung a)
  unfold sv rk
  unfold rung at fa fb u1 u2
  by_cases h1 : a < 2 ^ 63 <;> by_cases h2 : b < 2 ^ 63 <;> simp only [h1, h2, if_true, if_false] at fa fb u1 u2 ⊢ <;> omega
theorem lss_rk {a b : Nat} (ha : a < 2 ^ 64) (hb : b < 2 ^ 64) (na : isN a = false) (nb : isN b = false) (za : rung a ≠ 0) (zb : rung b ≠ 0) : (double.order a b == some .lt) = decide (rk a < rk b) := by
  rw [order_sv ha hb na nb]
  have h := rk_sv ha hb za zb
  by_cases h1 : rk a < rk b
  · rw [decide_eq_true h1, Int.compare_eq_lt.2 (h.1 h1)]; rfl
  · rw [decide_eq_false h1]
    have h2 : ¬ sv a < sv b := fun h3 => h1 (h.2 h3)
    rcases Int.lt_trichotomy (sv a) (sv b) with h3 | h3 | h3
    · exact absurd h3 h2
    · rw [Int.compare_eq_eq.2 h3]; rfl
    · rw [Int.compare_eq_gt.2 h3]; rfl
end Go.Proofs.Ytpdioclnoigopaa

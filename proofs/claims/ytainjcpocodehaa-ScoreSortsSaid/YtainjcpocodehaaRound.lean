/- How the nearest number of the float format is found: plain facts; it rises with what is rounded, and what the format has it keeps. -/
import Ieee.Arith
import Derived.RowKit
set_option linter.unusedSimpArgs false
set_option linter.unusedVariables false
namespace Go.Proofs.Ytainjcpocodehaa.Rnd
open Ieee

/-- 'm / 2 ^ d' to the nearest, of two the even one. -/
def rne (m d : Nat) : Nat := m / 2 ^ d + (decide (2 ^ d < 2 * (m % 2 ^ d)) || (2 ^ d == 2 * (m % 2 ^ d) && m / 2 ^ d % 2 == 1)).toNat
theorem rne_small {m d : Nat} (h : 2 * m < 2 ^ d) : rne m d = 0 := by
  have h1 : m < 2 ^ d := by omega
  unfold rne
  rw [Nat.div_eq_of_lt h1, Nat.mod_eq_of_lt h1, decide_eq_false (by omega), beq_false_of_ne (by omega)]
  rfl
theorem cut_even (neg : Bool) (m d : Nat) : Toward.even.cut neg m d = rne m d := by
  have hlog : m < 2 ^ (m.log2 + 1) := Nat.lt_log2_self
  by_cases h : d ≤ m.log2 + 2
  · unfold Toward.cut rne
    simp only [Nat.min_eq_left h, Nat.one_shiftLeft]
  · have hL : 2 * m < 2 ^ (m.log2 + 2) := by rw [Nat.pow_succ]; omega
    have hd : 2 * m < 2 ^ d := Nat.lt_of_lt_of_le hL (Nat.pow_le_pow_right (by decide) (by omega))
    rw [rne_small hd, ← rne_small hL]
    unfold Toward.cut rne
    simp only [Nat.min_eq_right (show m.log2 + 2 ≤ d by omega), Nat.one_shiftLeft]
theorem rne_scale (m d k : Nat) : rne (m * 2 ^ k) (d + k) = rne m d := by
  have hk : 0 < 2 ^ k := Nat.two_pow_pos k
  unfold rne
  rw [Nat.pow_add, Nat.mul_div_mul_right _ _ hk, Nat.mul_mod_mul_right]
  have e1 : decide (2 ^ d * 2 ^ k < 2 * (m % 2 ^ d * 2 ^ k)) = decide (2 ^ d < 2 * (m % 2 ^ d)) := by
    rw [← Nat.mul_assoc]
    exact decide_eq_decide.2 (Nat.mul_lt_mul_right hk)
  have e2 : (2 ^ d * 2 ^ k == 2 * (m % 2 ^ d * 2 ^ k)) = (2 ^ d == 2 * (m % 2 ^ d)) := by
    rw [← Nat.mul_assoc]
    by_cases h : 2 ^ d = 2 * (m % 2 ^ d)
    · rw [← h]; simp
    · rw [beq_false_of_ne h, beq_false_of_ne (fun e => h (Nat.eq_of_mul_eq_mul_right hk e))]
  rw [e1, e2]
theorem rne_zero (m : Nat) : rne m 0 = m := by
  unfold rne
  simp [Nat.mod_one]
theorem rne_le (m d : Nat) : rne m d ≤ m / 2 ^ d + 1 := by
  unfold rne
  have := Bool.toNat_le (decide (2 ^ d < 2 * (m % 2 ^ d)) || (2 ^ d == 2 * (m % 2 ^ d) && m / 2 ^ d % 2 == 1))
  omega
theorem rne_ge (m d : Nat) : m / 2 ^ d ≤ rne m d := Nat.le_add_right _ _
theorem rne_mono {m m' d : Nat} (h : m ≤ m') : rne m d ≤ rne m' d := by
  have hg : 0 < 2 ^ d := Nat.two_pow_pos d
  have hq : m / 2 ^ d ≤ m' / 2 ^ d := Nat.div_le_div_right h
  by_cases hlt : m / 2 ^ d < m' / 2 ^ d
  · exact Nat.le_trans (rne_le m d) (Nat.le_trans hlt (rne_ge m' d))
  · have heq : m / 2 ^ d = m' / 2 ^ d := by omega
    have h1 := Nat.div_add_mod m (2 ^ d)
    have h2 := Nat.div_add_mod m' (2 ^ d)
    rw [heq] at h1
    have hr : m % 2 ^ d ≤ m' % 2 ^ d := by omega
    unfold rne
    rw [heq]
    refine Nat.add_le_add_left ?_ _
    generalize m % 2 ^ d = r at hr ⊢
    generalize m' % 2 ^ d = r' at hr ⊢
    generalize (m' / 2 ^ d % 2 == 1) = odd
    by_cases h3 : 2 ^ d < 2 * r'
    · rw [decide_eq_true h3, Bool.true_or]
      exact Bool.toNat_le _
    · by_cases h4 : 2 ^ d = 2 * r'
      · have h5 : ¬ 2 ^ d < 2 * r := by omega
        rw [decide_eq_false h5, decide_eq_false h3, Bool.false_or, Bool.false_or]
        rw [show (2 ^ d == 2 * r') = true by simpa using h4, Bool.true_and]
        cases odd
        · rw [Bool.and_false]; exact Nat.le_refl _
        · exact Bool.toNat_le _
      · rw [decide_eq_false (show ¬ 2 ^ d < 2 * r by omega), beq_false_of_ne (show 2 ^ d ≠ 2 * r by omega)]
        exact Nat.zero_le _

/-- The rung of 'x' units, each of '2 ^ -(1074 + c)'. -/
def rg (c x : Nat) : Nat := if x = 0 then 0 else min ((x.log2 - (c + 52)) * 2 ^ 52 + rne x (x.log2 - (c + 52) + c)) (2047 * 2 ^ 52)
theorem log2_scale {m : Nat} (h : m ≠ 0) (k : Nat) : (m * 2 ^ k).log2 = m.log2 + k := by
  have hk : 0 < 2 ^ k := Nat.two_pow_pos k
  have hne : m * 2 ^ k ≠ 0 := Nat.mul_ne_zero h (Nat.pos_iff_ne_zero.1 hk)
  apply Nat.le_antisymm
  · have : m * 2 ^ k < 2 ^ (m.log2 + k + 1) := by
      rw [show m.log2 + k + 1 = (m.log2 + 1) + k by omega, Nat.pow_add]
      exact Nat.mul_lt_mul_of_pos_right Nat.lt_log2_self hk
    have := (Nat.log2_lt hne).2 this
    omega
  · refine (Nat.le_log2 hne).2 ?_
    rw [Nat.pow_add]
    exact Nat.mul_le_mul_right _ (Nat.log2_self_le h)
theorem rg_mono {c x y : Nat} (h : x ≤ y) : rg c x ≤ rg c y := by
  unfold rg
  by_cases hx : x = 0
  · rw [if_pos hx]; exact Nat.zero_le _
  have hy : y ≠ 0 := by omega
  rw [if_neg hx, if_neg hy]
  have hl : x.log2 ≤ y.log2 := (Nat.le_log2 hy).2 (Nat.le_trans (Nat.log2_self_le hx) h)
  have key : (x.log2 - (c + 52)) * 2 ^ 52 + rne x (x.log2 - (c + 52) + c) ≤ (y.log2 - (c + 52)) * 2 ^ 52 + rne y (y.log2 - (c + 52) + c) := by
    by_cases he : x.log2 - (c + 52) = y.log2 - (c + 52)
    · rw [he]
      exact Nat.add_le_add_left (rne_mono h) _
    · have hlt : x.log2 - (c + 52) + 1 ≤ y.log2 - (c + 52) := by omega
      have h1 : rne x (x.log2 - (c + 52) + c) ≤ 2 ^ 53 := by
        have hb : x < 2 ^ 53 * 2 ^ (x.log2 - (c + 52) + c) := by
          rw [← Nat.pow_add]
          exact Nat.lt_of_lt_of_le Nat.lt_log2_self (Nat.pow_le_pow_right (by decide) (by omega))
        have := (Nat.div_lt_iff_lt_mul (Nat.two_pow_pos _)).2 hb
        have := rne_le x (x.log2 - (c + 52) + c)
        omega
      have h2 : 2 ^ 52 ≤ rne y (y.log2 - (c + 52) + c) := by
        refine Nat.le_trans ?_ (rne_ge _ _)
        rw [Nat.le_div_iff_mul_le (Nat.two_pow_pos _), ← Nat.pow_add]
        exact Nat.le_trans (Nat.pow_le_pow_right (by decide) (by omega)) (Nat.log2_self_le hy)
      have h3 : (x.log2 - (c + 52) + 1) * 2 ^ 52 ≤ (y.log2 - (c + 52)) * 2 ^ 52 := Nat.mul_le_mul_right _ hlt
      have h4 : (x.log2 - (c + 52) + 1) * 2 ^ 52 = (x.log2 - (c + 52)) * 2 ^ 52 + 2 ^ 52 := Nat.succ_mul _ _
      have h5 : (2 : Nat) ^ 53 = 2 ^ 52 + 2 ^ 52 := rfl
      omega
  omega
theorem double_lp : double.leastPlace = -1074 := by kernel_rfl
theorem double_bi : double.binade = 2 ^ 52 := by kernel_rfl
theorem double_ir : double.infRung = 2047 * 2 ^ 52 := by kernel_rfl
theorem double_fb : (double.fractionBits : Int) = 52 := by kernel_rfl
/-- What 'nearest' says, in such units. -/
theorem nearest_eq (neg : Bool) (m : Nat) (p : Int) (c : Nat) (hp : 0 ≤ p + 1074 + c) : double.nearest neg m p = double.word neg (rg c (m * 2 ^ (p + 1074 + c).toNat)) := by
  unfold Format.nearest rg
  by_cases hm : m = 0
  · subst hm
    rw [if_pos rfl, Nat.zero_mul, if_pos rfl]
  obtain ⟨e, he⟩ : ∃ e : Nat, p + 1074 + c = (e : Int) := ⟨(p + 1074 + c).toNat, by omega⟩
  have hne : m * 2 ^ e ≠ 0 := Nat.mul_ne_zero hm (Nat.pos_iff_ne_zero.1 (Nat.two_pow_pos e))
  rw [if_neg hm, he, Int.toNat_natCast, if_neg hne, log2_scale hm, double_fb, double_lp, double_bi, double_ir]
  simp only
  obtain ⟨L, hL⟩ : ∃ L : Nat, L = m.log2 + e - (c + 52) := ⟨_, rfl⟩
  have hlast : max (p + m.log2 - 52) (-1074) = (L : Int) - 1074 := by omega
  rw [hlast, cut_even, ← hL]
  have e1 : ((L : Int) - 1074 - -1074).toNat = L := by omega
  rw [e1]
  congr 3
  rw [Nat.shiftLeft_eq]
  by_cases hc : e ≤ L + c
  · have e2 : (p - ((L : Int) - 1074)).toNat = 0 := by omega
    have e3 : ((L : Int) - 1074 - p).toNat = L + c - e := by omega
    rw [e2, e3, Nat.pow_zero, Nat.mul_one, ← rne_scale m (L + c - e) e]
    congr 1
    omega
  · have e2 : (p - ((L : Int) - 1074)).toNat = e - (L + c) := by omega
    have e3 : ((L : Int) - 1074 - p).toNat = 0 := by omega
    rw [e2, e3, ← rne_scale (m * 2 ^ (e - (L + c))) 0 (L + c), Nat.mul_assoc, ← Nat.pow_add, show e - (L + c) + (L + c) = e by omega, Nat.zero_add]
/-- The magnitude of a rung, in units of the last place. -/
def fv (r : Nat) : Nat := if r < 2 ^ 52 then r else (2 ^ 52 + r % 2 ^ 52) * 2 ^ (r / 2 ^ 52 - 1)
theorem rg_fv (c : Nat) {r : Nat} (hr : r ≤ 2047 * 2 ^ 52) : rg c (fv r * 2 ^ c) = r := by
  unfold rg fv
  by_cases h : r < 2 ^ 52
  · rw [if_pos h]
    by_cases h0 : r = 0
    · subst h0; simp
    have hne : r * 2 ^ c ≠ 0 := Nat.mul_ne_zero h0 (Nat.pos_iff_ne_zero.1 (Nat.two_pow_pos c))
    have hlg : r.log2 < 52 := (Nat.log2_lt h0).2 h
    rw [if_neg hne, log2_scale h0, show r.log2 + c - (c + 52) = 0 by omega, rne_scale, rne_zero]
    omega
  · rw [if_neg h]
    have hf : (2 ^ 52 + r % 2 ^ 52) ≠ 0 := by omega
    have hne : (2 ^ 52 + r % 2 ^ 52) * 2 ^ (r / 2 ^ 52 - 1) * 2 ^ c ≠ 0 := Nat.mul_ne_zero (Nat.mul_ne_zero hf (Nat.pos_iff_ne_zero.1 (Nat.two_pow_pos _))) (Nat.pos_iff_ne_zero.1 (Nat.two_pow_pos c))
    have hlg : (2 ^ 52 + r % 2 ^ 52).log2 = 52 := by
      apply Nat.le_antisymm
      · have : (2 ^ 52 + r % 2 ^ 52).log2 < 53 := (Nat.log2_lt hf).2 (by omega)
        omega
      · exact (Nat.le_log2 hf).2 (by omega)
    rw [if_neg hne, Nat.mul_assoc, ← Nat.pow_add, log2_scale hf, hlg, show 52 + (r / 2 ^ 52 - 1 + c) - (c + 52) = r / 2 ^ 52 - 1 by omega, rne_scale (2 ^ 52 + r % 2 ^ 52) 0 (r / 2 ^ 52 - 1 + c) |> fun h => (by simpa using h : rne ((2 ^ 52 + r % 2 ^ 52) * 2 ^ (r / 2 ^ 52 - 1 + c)) (r / 2 ^ 52 - 1 + c) = rne (2 ^ 52 + r % 2 ^ 52) 0), rne_zero]
    omega
/-- A number of few digits is kept. -/
theorem fv_rg {n s : Nat} (hn : n < 2 ^ 53) (hs : s ≤ 1074) (hs0 : 52 ≤ s) : fv (rg 0 (n * 2 ^ s)) = n * 2 ^ s := by
  by_cases h0 : n = 0
  · subst h0; rw [Nat.zero_mul]; rfl
  have hne : n * 2 ^ s ≠ 0 := Nat.mul_ne_zero h0 (Nat.pos_iff_ne_zero.1 (Nat.two_pow_pos s))
  have hlg : n.log2 < 53 := (Nat.log2_lt h0).2 hn
  unfold rg
  rw [if_neg hne, log2_scale h0]
  obtain ⟨e, he⟩ : ∃ e, n.log2 = e := ⟨_, rfl⟩
  rw [he] at hlg ⊢
  have h1 : rne (n * 2 ^ s) (e + s - (0 + 52) + 0) = n * 2 ^ (52 - e) := by
    have := rne_scale (n * 2 ^ (52 - e)) 0 (e + s - 52)
    rw [Nat.mul_assoc, ← Nat.pow_add, rne_zero, Nat.zero_add] at this
    rw [show 52 - e + (e + s - 52) = s by omega] at this
    rw [show e + s - (0 + 52) + 0 = e + s - 52 by omega]
    exact this
  rw [h1]
  have lo : 2 ^ 52 ≤ n * 2 ^ (52 - e) := by
    have := Nat.log2_self_le h0
    rw [he] at this
    calc 2 ^ 52 = 2 ^ e * 2 ^ (52 - e) := by rw [← Nat.pow_add]; congr 1; omega
      _ ≤ n * 2 ^ (52 - e) := Nat.mul_le_mul_right _ this
  have hi : n * 2 ^ (52 - e) < 2 ^ 53 := by
    have : n < 2 ^ (n.log2 + 1) := Nat.lt_log2_self
    rw [he] at this
    calc n * 2 ^ (52 - e) < 2 ^ (e + 1) * 2 ^ (52 - e) := Nat.mul_lt_mul_of_pos_right this (Nat.two_pow_pos _)
      _ = 2 ^ 53 := by rw [← Nat.pow_add]; congr 1; omega
  have e2 : e + s - (0 + 52) = e + s - 52 := by omega
  rw [e2]
  obtain ⟨k, hk⟩ : ∃ k, k = e + s - 52 := ⟨_, rfl⟩
  rw [← hk]
  have hk2 : k ≤ 1075 := by omega
  have hmin : min (k * 2 ^ 52 + n * 2 ^ (52 - e)) (2047 * 2 ^ 52) = k * 2 ^ 52 + n * 2 ^ (52 - e) := by omega
  rw [hmin]
  unfold fv
  have hge : ¬ k * 2 ^ 52 + n * 2 ^ (52 - e) < 2 ^ 52 := by omega
  rw [if_neg hge]
  have hdiv : (k * 2 ^ 52 + n * 2 ^ (52 - e)) / 2 ^ 52 = k + 1 := by omega
  have hmod : 2 ^ 52 + (k * 2 ^ 52 + n * 2 ^ (52 - e)) % 2 ^ 52 = n * 2 ^ (52 - e) := by omega
  rw [hdiv, hmod, Nat.mul_assoc, ← Nat.pow_add]
  congr 2
  omega
theorem fv_lt {r s : Nat} (h : r < s) : fv r < fv s := by
  unfold fv
  by_cases h1 : s < 2 ^ 52
  · rw [if_pos h1, if_pos (by omega)]; exact h
  · rw [if_neg h1]
    have key : 2 ^ 52 * 2 ^ (s / 2 ^ 52 - 1) ≤ (2 ^ 52 + s % 2 ^ 52) * 2 ^ (s / 2 ^ 52 - 1) := Nat.mul_le_mul_right _ (by omega)
    by_cases h2 : r < 2 ^ 52
    · rw [if_pos h2]
      exact Nat.lt_of_lt_of_le h2 (Nat.le_trans (Nat.le_mul_of_pos_right _ (Nat.two_pow_pos _)) key)
    · rw [if_neg h2]
      by_cases h3 : r / 2 ^ 52 = s / 2 ^ 52
      · rw [h3]; exact Nat.mul_lt_mul_of_pos_right (by omega) (Nat.two_pow_pos _)
      · refine Nat.lt_of_lt_of_le ?_ key
        have h5 : (2 ^ 52 + r % 2 ^ 52) * 2 ^ (r / 2 ^ 52 - 1) < 2 ^ 53 * 2 ^ (r / 2 ^ 52 - 1) := Nat.mul_lt_mul_of_pos_right (by omega) (Nat.two_pow_pos _)
        refine Nat.lt_of_lt_of_le h5 ?_
        rw [show (2 : Nat) ^ 53 = 2 ^ 52 * 2 from rfl, Nat.mul_assoc, ← Nat.pow_succ']
        exact Nat.mul_le_mul_left _ (Nat.pow_le_pow_right (by decide) (by omega))
theorem fv_le {r s : Nat} (h : r ≤ s) : fv r ≤ fv s := by
  rcases Nat.lt_or_eq_of_le h with h | h
  · exact Nat.le_of_lt (fv_lt h)
  · rw [h]; exact Nat.le_refl _
/-- The number itself, in units of the last place. -/
def sv (b : Nat) : Int := if b < 2 ^ 63 then (fv b : Int) else -(fv (b - 2 ^ 63) : Int)
def rung (b : Nat) : Nat := if b < 2 ^ 63 then b else b - 2 ^ 63
def neg (b : Nat) : Bool := decide (2 ^ 63 ≤ b)
/-- Is it no number? -/
def isN (b : Nat) : Bool := decide (2047 * 2 ^ 52 < rung b)
theorem sv_eq (b : Nat) : sv b = if neg b then -(fv (rung b) : Int) else (fv (rung b) : Int) := by
  unfold sv neg rung
  by_cases h : b < 2 ^ 63
  · rw [if_pos h, if_pos h, decide_eq_false (by omega), if_neg (by decide)]
  · rw [if_neg h, if_neg h, decide_eq_true (by omega), if_pos rfl]
theorem double_sw : double.signWeight = 2 ^ 63 := by kernel_rfl
theorem neg_eq {b : Nat} (hb : b < 2 ^ 64) : (b / 2 ^ 63 % 2 == 1) = neg b := by
  unfold neg
  by_cases h : b < 2 ^ 63
  · rw [decide_eq_false (by omega), Nat.div_eq_of_lt h]; rfl
  · rw [decide_eq_true (by omega), show b / 2 ^ 63 = 1 by omega]; rfl
theorem rung_eq {b : Nat} (hb : b < 2 ^ 64) : b % 2 ^ 63 = rung b := by
  unfold rung
  split <;> omega
theorem read_eq {b : Nat} (hb : b < 2 ^ 64) : double.read b = if rung b < 2 ^ 52 then .number (neg b) (rung b) (-1074)
    else if rung b < 2047 * 2 ^ 52 then .number (neg b) (2 ^ 52 + rung b % 2 ^ 52) (-1074 + (rung b / 2 ^ 52 - 1 : Nat))
    else if rung b = 2047 * 2 ^ 52 then .infinity (neg b) else .nan (neg b) (rung b - 2047 * 2 ^ 52) := by
  unfold Format.read
  rw [double_sw, double_bi, double_ir, double_lp, neg_eq hb, rung_eq hb]
theorem cmp_mul {x y : Int} {c : Int} (h : 0 < c) : compare (x * c) (y * c) = compare x y := by
  rcases Int.lt_trichotomy x y with h1 | h1 | h1
  · have h2 : x * c < y * c := Int.mul_lt_mul_of_pos_right h1 h
    rw [Int.compare_eq_lt.2 h1, Int.compare_eq_lt.2 h2]
  · subst h1; rw [Int.compare_eq_eq.2 rfl, Int.compare_eq_eq.2 rfl]
  · have h2 : y * c < x * c := Int.mul_lt_mul_of_pos_right h1 h
    rw [Int.compare_eq_gt.2 h1, Int.compare_eq_gt.2 h2]
theorem signed_mul (s : Bool) (m a c : Nat) : signed s m a * ((2 ^ c : Nat) : Int) = if s then -((m * 2 ^ (a + c) : Nat) : Int) else ((m * 2 ^ (a + c) : Nat) : Int) := by
  unfold signed
  rw [Nat.shiftLeft_eq, Nat.pow_add, ← Nat.mul_assoc]
  cases s <;> simp [Int.neg_mul]
theorem order_num (s t : Bool) (m n e g : Nat) : (Datum.number s m (-1074 + (e : Int))).order (.number t n (-1074 + (g : Int))) = some (compare (if s then -((m * 2 ^ e : Nat) : Int) else ((m * 2 ^ e : Nat) : Int)) (if t then -((n * 2 ^ g : Nat) : Int) else ((n * 2 ^ g : Nat) : Int))) := by
  unfold Datum.order
  simp only
  congr 1
  rw [← cmp_mul (c := ((2 ^ (min e g) : Nat) : Int)) (by have := Nat.two_pow_pos (min e g); omega), signed_mul, signed_mul]
  rw [show (-1074 + (e : Int) - min (-1074 + (e : Int)) (-1074 + (g : Int))).toNat + min e g = e by omega,
    show (-1074 + (g : Int) - min (-1074 + (e : Int)) (-1074 + (g : Int))).toNat + min e g = g by omega]
theorem read_num {b : Nat} (hb : b < 2 ^ 64) (h : rung b < 2047 * 2 ^ 52) : ∃ m e : Nat, double.read b = .number (neg b) m (-1074 + (e : Int)) ∧ m * 2 ^ e = fv (rung b) := by
  rw [read_eq hb]
  unfold fv
  by_cases h1 : rung b < 2 ^ 52
  · rw [if_pos h1, if_pos h1]
    exact ⟨rung b, 0, rfl, by simp⟩
  · rw [if_neg h1, if_neg h1, if_pos h]
    exact ⟨_, _, rfl, rfl⟩
theorem read_inf {b : Nat} (hb : b < 2 ^ 64) (h : rung b = 2047 * 2 ^ 52) : double.read b = .infinity (neg b) := by
  rw [read_eq hb, h]; rfl
theorem read_nan {b : Nat} (hb : b < 2 ^ 64) (h : 2047 * 2 ^ 52 < rung b) : double.read b = .nan (neg b) (rung b - 2047 * 2 ^ 52) := by
  rw [read_eq hb, if_neg (by omega), if_neg (by omega), if_neg (by omega)]
theorem neg_if (n : Bool) (f : Nat) (F : Nat) (h : f < F) : (if n = true then -(f : Int) else (f : Int)) < (F : Int) ∧ -(F : Int) < (if n = true then -(f : Int) else (f : Int)) := by
  cases n
  · simp only [Bool.false_eq_true, if_false]; omega
  · simp only [if_true]; omega
theorem order_sv {a b : Nat} (ha : a < 2 ^ 64) (hb : b < 2 ^ 64) (na : isN a = false) (nb : isN b = false) : double.order a b = some (compare (sv a) (sv b)) := by
  have na := of_decide_eq_false na
  have nb := of_decide_eq_false nb
  unfold Format.order
  rw [sv_eq, sv_eq]
  have big {x : Nat} (h : rung x < 2047 * 2 ^ 52) : fv (rung x) < fv (2047 * 2 ^ 52) := fv_lt h
  have pos : 0 < fv (2047 * 2 ^ 52) := Nat.lt_of_le_of_lt (Nat.zero_le _) (fv_lt (r := 0) (by decide))
  rcases Nat.lt_or_ge (rung a) (2047 * 2 ^ 52) with h1 | h1
  · obtain ⟨m, e, h2, h3⟩ := read_num ha h1
    rcases Nat.lt_or_ge (rung b) (2047 * 2 ^ 52) with h4 | h4
    · obtain ⟨n, g, h5, h6⟩ := read_num hb h4
      rw [h2, h5, order_num, h3, h6]
    · have h4 : rung b = 2047 * 2 ^ 52 := by omega
      rw [h2, read_inf hb h4, h4]
      have := neg_if (neg a) _ _ (big h1)
      generalize fv (2047 * 2 ^ 52) = F at *
      generalize (if neg a = true then -(fv (rung a) : Int) else (fv (rung a) : Int)) = x at *
      cases hn : neg b
      · exact congrArg some (Int.compare_eq_lt.2 (by simpa using this.1)).symm
      · exact congrArg some (Int.compare_eq_gt.2 (by simpa using this.2)).symm
  · have h1 : rung a = 2047 * 2 ^ 52 := by omega
    rw [read_inf ha h1, h1]
    rcases Nat.lt_or_ge (rung b) (2047 * 2 ^ 52) with h4 | h4
    · obtain ⟨n, g, h5, h6⟩ := read_num hb h4
      rw [h5]
      have := neg_if (neg b) _ _ (big h4)
      generalize fv (2047 * 2 ^ 52) = F at *
      generalize (if neg b = true then -(fv (rung b) : Int) else (fv (rung b) : Int)) = x at *
      cases hn : neg a
      · exact congrArg some (Int.compare_eq_gt.2 (by simpa using this.1)).symm
      · exact congrArg some (Int.compare_eq_lt.2 (by simpa using this.2)).symm
    · have h4 : rung b = 2047 * 2 ^ 52 := by omega
      rw [read_inf hb h4, h4]
      generalize fv (2047 * 2 ^ 52) = F at *
      cases hn : neg a <;> cases hm : neg b
      · exact congrArg some (Int.compare_eq_eq.2 rfl).symm
      · exact congrArg some (Int.compare_eq_gt.2 (by simp only [Bool.false_eq_true, if_false, if_true]; omega)).symm
      · exact congrArg some (Int.compare_eq_lt.2 (by simp only [Bool.false_eq_true, if_false, if_true]; omega)).symm
      · exact congrArg some (Int.compare_eq_eq.2 rfl).symm
theorem order_nanL {a b : Nat} (ha : a < 2 ^ 64) (na : isN a = true) : double.order a b = none := by
  have na := of_decide_eq_true na
  unfold Format.order
  rw [read_nan ha na]; rfl
theorem order_nanR {a b : Nat} (hb : b < 2 ^ 64) (nb : isN b = true) : double.order a b = none := by
  have nb := of_decide_eq_true nb
  unfold Format.order
  rw [read_nan hb nb]
  cases double.read a <;> rfl

/-! ### Positive numbers -/
/-- A word that stands for more than nothing. -/
def posF (b : Nat) : Bool := decide (0 < b ∧ b ≤ 2047 * 2 ^ 52)
def one : Nat := 1023 * 2 ^ 52
theorem posF_iff {b : Nat} : posF b = true ↔ 0 < b ∧ b ≤ 2047 * 2 ^ 52 := by simp [posF]
theorem fv_up {x y : Nat} : x < y ↔ fv x < fv y := by
  constructor
  · exact fv_lt
  · intro h
    rcases Nat.lt_trichotomy x y with h1 | h1 | h1
    · exact h1
    · subst h1; omega
    · have := fv_lt h1; omega
theorem sv_pos {b : Nat} (h : b < 2 ^ 63) : sv b = (fv b : Int) := by unfold sv; rw [if_pos h]
theorem sv_neg {b : Nat} (h : ¬ b < 2 ^ 63) : sv b ≤ 0 := by unfold sv; rw [if_neg h]; omega
theorem isN_iff {b : Nat} (h : b < 2 ^ 63) : isN b = decide (2047 * 2 ^ 52 < b) := by unfold isN rung; rw [if_pos h]
theorem gt_zero {b : Nat} (hb : b < 2 ^ 64) : (double.order b 0 == some .gt) = posF b := by
  cases hn : isN b
  · rw [order_sv hb (by decide) hn (by decide), show sv 0 = 0 by decide]
    by_cases h : b < 2 ^ 63
    · rw [isN_iff h] at hn
      have hn := of_decide_eq_false hn
      rw [sv_pos h]
      by_cases h0 : b = 0
      · subst h0; rfl
      · have := (fv_up (x := 0) (y := b)).1 (by omega)
        rw [Int.compare_eq_gt.2 (by omega), posF_iff.2 ⟨by omega, by omega⟩]; rfl
    · have h1 := sv_neg h
      have h2 : posF b = false := by
        unfold posF
        rw [decide_eq_false (by omega)]
      rw [h2]
      rcases Int.lt_or_eq_of_le h1 with h3 | h3
      · rw [Int.compare_eq_lt.2 h3]; rfl
      · rw [Int.compare_eq_eq.2 h3]; rfl
  · rw [order_nanL hb hn]
    have h1 := of_decide_eq_true hn
    unfold rung at h1
    unfold posF
    rw [decide_eq_false (by split at h1 <;> omega)]; rfl
theorem ge_one {b : Nat} (hb : b < 2 ^ 64) (h : (double.order b one == some .gt || double.order b one == some .eq) = true) : one ≤ b ∧ b ≤ 2047 * 2 ^ 52 := by
  have s1 : sv one = (fv one : Int) := sv_pos (by decide)
  have p1 : 0 < fv one := Nat.lt_of_le_of_lt (Nat.zero_le _) (fv_lt (r := 0) (by decide))
  cases hn : isN b
  · rw [order_sv hb (by decide) hn (by decide)] at h
    have hle : sv one ≤ sv b := by
      rcases Int.lt_trichotomy (sv b) (sv one) with h1 | h1 | h1
      · rw [Int.compare_eq_lt.2 h1] at h; cases h
      · omega
      · omega
    by_cases h63 : b < 2 ^ 63
    · rw [sv_pos h63, s1] at hle
      rw [isN_iff h63] at hn
      have hn := of_decide_eq_false hn
      refine ⟨Nat.le_of_not_lt fun hh => ?_, by omega⟩
      have := fv_lt hh
      omega
    · have := sv_neg h63; omega
  · rw [order_nanL hb hn] at h; cases h
theorem le_pos {p q : Nat} (hp : p < 2 ^ 64) (hq : q < 2 ^ 64) (h0 : posF p = true) (h : (double.order p q == some .lt || double.order p q == some .eq) = true) : posF q = true ∧ p ≤ q := by
  obtain ⟨h1, h2⟩ := posF_iff.1 h0
  have p63 : p < 2 ^ 63 := by omega
  have np : isN p = false := by rw [isN_iff p63]; exact decide_eq_false (by omega)
  have f0 := (fv_up (x := 0) (y := p)).1 h1
  cases hn : isN q
  · rw [order_sv hp hq np hn] at h
    have hle : sv p ≤ sv q := by
      rcases Int.lt_trichotomy (sv p) (sv q) with h1 | h1 | h1
      · omega
      · omega
      · rw [Int.compare_eq_gt.2 h1] at h; cases h
    rw [sv_pos p63] at hle
    by_cases h63 : q < 2 ^ 63
    · rw [sv_pos h63] at hle
      rw [isN_iff h63] at hn
      have hn := of_decide_eq_false hn
      have hpq : p ≤ q := Nat.le_of_not_lt fun hh => by
        have := fv_lt hh
        omega
      exact ⟨posF_iff.2 ⟨by omega, by omega⟩, hpq⟩
    · have := sv_neg h63; omega
  · rw [order_nanR hq hn] at h; cases h
/-- The lesser of a positive number and one. -/
theorem order_one {b : Nat} (h0 : posF b = true) : double.order b one = some (compare b one) := by
  obtain ⟨h1, h2⟩ := posF_iff.1 h0
  have b63 : b < 2 ^ 63 := by omega
  rw [order_sv (by omega) (by decide) (by rw [isN_iff b63]; exact decide_eq_false (by omega)) (by decide), sv_pos b63, sv_pos (by decide)]
  refine congrArg some ?_
  rcases Nat.lt_trichotomy b one with h | h | h
  · have := fv_lt h
    rw [Int.compare_eq_lt.2 (by omega), Nat.compare_eq_lt.2 h]
  · rw [h, Int.compare_eq_eq.2 rfl, Nat.compare_eq_eq.2 rfl]
  · have := fv_lt h
    rw [Int.compare_eq_gt.2 (by omega), Nat.compare_eq_gt.2 h]

/-! ### A product of positive numbers, rounded; whole parts -/
theorem word_pos (r : Nat) : double.word false r = r := rfl
theorem prod_num (m n : Nat) (i j : Int) : ((Datum.number false m i).product (.number false n j)).map double.write = some (double.nearest false (m * n) (i + j)) := rfl
theorem mul_pos {x y : Nat} (hx : x < 2047 * 2 ^ 52) (hy : y < 2047 * 2 ^ 52) : double.mul x y = some (rg 1074 (fv x * fv y)) := by
  have rx : rung x = x := by unfold rung; rw [if_pos (by omega)]
  have ry : rung y = y := by unfold rung; rw [if_pos (by omega)]
  obtain ⟨m, e, h1, h2⟩ := read_num (b := x) (by omega) (by rw [rx]; exact hx)
  obtain ⟨n, g, h3, h4⟩ := read_num (b := y) (by omega) (by rw [ry]; exact hy)
  have nx : neg x = false := decide_eq_false (by omega)
  have ny : neg y = false := decide_eq_false (by omega)
  rw [rx] at h2
  rw [ry] at h4
  unfold Format.mul
  rw [h1, h3, nx, ny, prod_num]
  have e1 : (-1074 + (e : Int) + (-1074 + (g : Int)) + 1074 + ((1074 : Nat) : Int)).toNat = e + g := by omega
  rw [nearest_eq _ _ _ 1074 (by omega), word_pos, e1, ← h2, ← h4, Nat.pow_add, Nat.mul_mul_mul_comm]
/-- The whole part of a number of a rung. -/
def whole (r : Nat) : Nat := fv r / 2 ^ 1074
theorem cut_down (m d : Nat) : Toward.down.cut false m d = m / 2 ^ d := by
  unfold Toward.cut
  simp only [Bool.false_and, Bool.toNat_false, Nat.add_zero, Nat.one_shiftLeft]
  by_cases h : d ≤ m.log2 + 2
  · rw [Nat.min_eq_left h]
  · rw [Nat.min_eq_right (by omega)]
    have hm : m < 2 ^ (m.log2 + 1) := Nat.lt_log2_self
    rw [Nat.div_eq_of_lt (Nat.lt_of_lt_of_le hm (Nat.pow_le_pow_right (by decide) (by omega))), Nat.div_eq_of_lt (Nat.lt_of_lt_of_le hm (Nat.pow_le_pow_right (by decide) (by omega)))]
theorem cut_zero (m d : Nat) : Toward.zero.cut false m d = m / 2 ^ d := cut_down m d
theorem div_units (m e : Nat) : (m <<< (-1074 + (e : Int)).toNat) / 2 ^ (-(-1074 + (e : Int))).toNat = m * 2 ^ e / 2 ^ 1074 := by
  rw [Nat.shiftLeft_eq]
  by_cases h : e ≤ 1074
  · rw [show (-1074 + (e : Int)).toNat = 0 by omega, show (-(-1074 + (e : Int))).toNat = 1074 - e by omega, Nat.pow_zero, Nat.mul_one]
    conv => rhs; rw [show 1074 = (1074 - e) + e by omega, Nat.pow_add, Nat.mul_div_mul_right _ _ (Nat.two_pow_pos e)]
  · rw [show (-1074 + (e : Int)).toNat = e - 1074 by omega, show (-(-1074 + (e : Int))).toNat = 0 by omega, Nat.pow_zero, Nat.div_one]
    conv => rhs; rw [show e = (e - 1074) + 1074 by omega, Nat.pow_add, ← Nat.mul_assoc, Nat.mul_div_cancel _ (Nat.two_pow_pos 1074)]
theorem floor_pos {r : Nat} (hr : r < 2047 * 2 ^ 52) : double.write ((double.read r).integral .down) = rg 0 (whole r * 2 ^ 1074) := by
  have rx : rung r = r := by unfold rung; rw [if_pos (by omega)]
  obtain ⟨m, e, h1, h2⟩ := read_num (b := r) (by omega) (by rw [rx]; exact hr)
  have nx : neg r = false := decide_eq_false (by omega)
  rw [h1, nx]
  show double.nearest false (Toward.down.cut false (m <<< (-1074 + (e : Int)).toNat) (-(-1074 + (e : Int))).toNat) 0 = _
  rw [cut_down, div_units, nearest_eq _ _ _ 0 (by decide), h2, rx, word_pos, show ((0 : Int) + 1074 + ((0 : Nat) : Int)).toNat = 1074 from rfl, whole]
theorem toInt_pos {r : Nat} (hr : r < 2047 * 2 ^ 52) : (double.read r).toInt .zero = some ((whole r : Nat) : Int) := by
  have rx : rung r = r := by unfold rung; rw [if_pos (by omega)]
  obtain ⟨m, e, h1, h2⟩ := read_num (b := r) (by omega) (by rw [rx]; exact hr)
  have nx : neg r = false := decide_eq_false (by omega)
  rw [h1, nx]
  show some (signed false (Toward.zero.cut false (m <<< (-1074 + (e : Int)).toNat) (-(-1074 + (e : Int))).toNat) 0) = _
  rw [cut_zero, div_units, h2, rx]
  unfold signed whole
  rw [if_neg (by decide), Nat.shiftLeft_zero]
/-- A whole number as a word. -/
def fl (n : Nat) : Nat := rg 0 (n * 2 ^ 1074)
theorem mul_pow_lt (a b s : Nat) (h : a < b) : a * 2 ^ s < b * 2 ^ s := Nat.mul_lt_mul_of_pos_right h (Nat.two_pow_pos s)
theorem fv_ge (r k : Nat) (h0 : ¬ r < 2 ^ 52) (hk : r / 2 ^ 52 - 1 = k) : 2 ^ 52 * 2 ^ k ≤ fv r := by
  unfold fv
  rw [if_neg h0, hk]
  exact Nat.mul_le_mul_right _ (by omega)
theorem fl_lt' (n s k : Nat) (hs : s = 1074) (hk : 2047 * 2 ^ 52 / 2 ^ 52 - 1 = k) (hn : n < 2 ^ 53) : fv (rg 0 (n * 2 ^ s)) < fv (2047 * 2 ^ 52) := by
  have h1 : fv (rg 0 (n * 2 ^ s)) = n * 2 ^ s := fv_rg hn (by omega) (by omega)
  have e : 2 ^ 52 * 2 ^ k ≤ fv (2047 * 2 ^ 52) := fv_ge _ k (by decide) hk
  rw [h1]
  refine Nat.lt_of_lt_of_le (mul_pow_lt n (2 ^ 53) s hn) (Nat.le_trans ?_ e)
  rw [← Nat.pow_add, ← Nat.pow_add]
  exact Nat.pow_le_pow_right (by decide) (by omega)
theorem fl_lt {n : Nat} (hn : n < 2 ^ 53) : fl n < 2047 * 2 ^ 52 := by
  refine fv_up.2 ?_
  unfold fl
  exact fl_lt' n 1074 2046 rfl (by decide) hn
theorem nearest_fl (n : Nat) : double.nearest false n 0 = fl n := by
  rw [nearest_eq _ _ _ 0 (by decide), word_pos, show ((0 : Int) + 1074 + ((0 : Nat) : Int)).toNat = 1074 from rfl, fl]
theorem whole_fl {n : Nat} (hn : n < 2 ^ 53) : whole (fl n) = n := by
  unfold whole fl
  rw [fv_rg hn (Nat.le_refl _) (by decide)]
  exact Nat.mul_div_cancel n (Nat.two_pow_pos 1074)

/-! ### A part of a time -/
/-- The product, rounded, of n and a number of a rung up to one. -/
def prodR (b n : Nat) : Nat := rg 1074 (n * 2 ^ 1074 * fv (min b one))
def partN (b n : Nat) : Nat := whole (prodR b n)
theorem pow2 (a b c : Nat) (h : a + b = c) : 2 ^ a * 2 ^ b = 2 ^ c := by rw [← Nat.pow_add, h]
theorem fv_one : fv one = 2 ^ 1074 := by
  have h0 : ¬ one < 2 ^ 52 := by decide
  have h1 : one % 2 ^ 52 = 0 := by decide
  have h2 : one / 2 ^ 52 - 1 = 1022 := by decide
  unfold fv
  rw [if_neg h0, h1, h2, Nat.add_zero]
  exact pow2 52 1022 1074 rfl
theorem prodR_le {b n : Nat} (hn : n < 2 ^ 53) : prodR b n ≤ fl n := by
  have h1 : fv (min b one) ≤ 2 ^ 1074 := by rw [← fv_one]; exact fv_le (Nat.min_le_right _ _)
  have h2 : n * 2 ^ 1074 * fv (min b one) ≤ fv (fl n) * 2 ^ 1074 := by
    rw [fl, fv_rg hn (Nat.le_refl _) (by decide)]
    exact Nat.mul_le_mul_left _ h1
  refine Nat.le_trans (rg_mono h2) ?_
  rw [rg_fv 1074 (Nat.le_of_lt (fl_lt hn))]
  exact Nat.le_refl _
theorem prodR_one {b n : Nat} (hn : n < 2 ^ 53) (hb : one ≤ b) : prodR b n = fl n := by
  unfold prodR
  rw [Nat.min_eq_right hb, fv_one, ← rg_fv 1074 (Nat.le_of_lt (fl_lt hn)), fl, fv_rg hn (Nat.le_refl _) (by decide)]
theorem whole_mono {r s : Nat} (h : r ≤ s) : whole r ≤ whole s := Nat.div_le_div_right (fv_le h)
theorem partN_le {b n : Nat} (hn : n < 2 ^ 53) : partN b n ≤ n := by
  have := whole_mono (prodR_le (b := b) hn)
  rwa [whole_fl hn] at this
theorem partN_one {b n : Nat} (hn : n < 2 ^ 53) (hb : one ≤ b) : partN b n = n := by
  unfold partN
  rw [prodR_one hn hb, whole_fl hn]
theorem partN_mono {b c n m : Nat} (h : b ≤ c) (k : n ≤ m) : partN b n ≤ partN c m := by
  refine whole_mono (rg_mono ?_)
  exact Nat.mul_le_mul (Nat.mul_le_mul_right _ k) (fv_le (by omega))
/-- A half, a quarter .. -/
def halfF (k : Nat) : Nat := (1023 - k) * 2 ^ 52
theorem fv_half {k : Nat} (hk : k ≤ 1000) : fv (halfF k) = 2 ^ (1074 - k) := by
  unfold fv halfF
  rw [if_neg (by omega), Nat.mul_mod_left, Nat.mul_div_cancel _ (by decide), Nat.add_zero, ← Nat.pow_add]
  congr 1
  omega
theorem partN_half {k n : Nat} (hk : k ≤ 1000) (hn : n < 2 ^ 53) : partN (halfF k) n = n / 2 ^ k := by
  have hmin : min (halfF k) one = halfF k := by unfold halfF one; omega
  have h1 : fv (rg 0 (n * 2 ^ (1074 - k))) = n * 2 ^ (1074 - k) := fv_rg hn (by omega) (by omega)
  have hle : rg 0 (n * 2 ^ (1074 - k)) ≤ 2047 * 2 ^ 52 := by
    unfold rg
    split
    · exact Nat.zero_le _
    · exact Nat.min_le_right _ _
  unfold partN prodR whole
  rw [hmin, fv_half hk, Nat.mul_right_comm, ← h1, rg_fv 1074 hle, h1]
  conv => lhs; rw [show 1074 = k + (1074 - k) by omega]
  rw [show k + (1074 - k) - k = 1074 - k by omega, Nat.pow_add, Nat.mul_div_mul_right _ _ (Nat.two_pow_pos _)]
end Go.Proofs.Ytainjcpocodehaa.Rnd

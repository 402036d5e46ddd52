/- Sums, differences, products with nothing, and quotients of numbers of the float format: plain facts. -/
import Derived.Test.YtainjcpocodehaaRound
set_option linter.unusedSimpArgs false
set_option linter.unusedVariables false
namespace Go.Proofs.Ytainjcpocodehaa.Rnd
open Ieee
set_option maxRecDepth 20000

theorem rg_scale (c x : Nat) : rg c (x * 2 ^ c) = rg 0 x := by
  unfold rg
  by_cases h : x = 0
  · subst h; rw [Nat.zero_mul, if_pos rfl, if_pos rfl]
  have hne : x * 2 ^ c ≠ 0 := Nat.mul_ne_zero h (Nat.pos_iff_ne_zero.1 (Nat.two_pow_pos c))
  rw [if_neg hne, if_neg h, log2_scale h, show x.log2 + c - (c + 52) = x.log2 - 52 by omega, rne_scale]
  simp
theorem fv_rg2 {n s : Nat} (hn : n < 2 ^ 53) (hs : s ≤ 1900) (hs0 : 52 ≤ s) : fv (rg 0 (n * 2 ^ s)) = n * 2 ^ s := by
  by_cases h0 : n = 0
  · subst h0; rw [Nat.zero_mul]; rfl
  have hne : n * 2 ^ s ≠ 0 := Nat.mul_ne_zero h0 (Nat.pos_iff_ne_zero.1 (Nat.two_pow_pos s))
  have hlg : n.log2 < 53 := (Nat.log2_lt h0).2 hn
  unfold rg
  rw [if_neg hne, log2_scale h0]
  obtain ⟨e, he⟩ : ∃ e, n.log2 = e := ⟨_, rfl⟩
  rw [he] at hlg ⊢
  have h1 : rne (n * 2 ^ s) (e + s - (0 + 52) + 0) = n * 2 ^ (52 - e) := by
    have := rne_scale (n * 2 ^ (52 - e)) 0 (e + s - 52)
    rw [Nat.mul_assoc, ← Nat.pow_add, rne_zero, Nat.zero_add] at this
    rw [show 52 - e + (e + s - 52) = s by omega] at this
    rw [show e + s - (0 + 52) + 0 = e + s - 52 by omega]
    exact this
  rw [h1]
  have lo : 2 ^ 52 ≤ n * 2 ^ (52 - e) := by
    have := Nat.log2_self_le h0
    rw [he] at this
    calc 2 ^ 52 = 2 ^ e * 2 ^ (52 - e) := by rw [← Nat.pow_add]; congr 1; omega
      _ ≤ n * 2 ^ (52 - e) := Nat.mul_le_mul_right _ this
  have hi : n * 2 ^ (52 - e) < 2 ^ 53 := by
    have : n < 2 ^ (n.log2 + 1) := Nat.lt_log2_self
    rw [he] at this
    calc n * 2 ^ (52 - e) < 2 ^ (e + 1) * 2 ^ (52 - e) := Nat.mul_lt_mul_of_pos_right this (Nat.two_pow_pos _)
      _ = 2 ^ 53 := by rw [← Nat.pow_add]; congr 1; omega
  have e2 : e + s - (0 + 52) = e + s - 52 := by omega
  rw [e2]
  obtain ⟨k, hk⟩ : ∃ k, k = e + s - 52 := ⟨_, rfl⟩
  rw [← hk]
  have hk2 : k ≤ 1900 := by omega
  have hmin : min (k * 2 ^ 52 + n * 2 ^ (52 - e)) (2047 * 2 ^ 52) = k * 2 ^ 52 + n * 2 ^ (52 - e) := by omega
  rw [hmin]
  unfold fv
  have hge : ¬ k * 2 ^ 52 + n * 2 ^ (52 - e) < 2 ^ 52 := by omega
  rw [if_neg hge]
  have hdiv : (k * 2 ^ 52 + n * 2 ^ (52 - e)) / 2 ^ 52 = k + 1 := by omega
  have hmod : 2 ^ 52 + (k * 2 ^ 52 + n * 2 ^ (52 - e)) % 2 ^ 52 = n * 2 ^ (52 - e) := by omega
  rw [hdiv, hmod, Nat.mul_assoc, ← Nat.pow_add]
  congr 2
  omega
/-- Numbers far enough apart have different rungs. -/
theorem rg_sep {c x y : Nat} (h1 : 2 ^ (c + 103) ≤ x) (h2 : x < 2 ^ (c + 1900)) (h3 : x * (2 ^ 50 + 1) ≤ y * 2 ^ 50) : rg c x < rg c y := by
  have h0 : x ≠ 0 := fun e => by
    have := Nat.two_pow_pos (c + 103)
    omega
  have hl1 : c + 103 ≤ x.log2 := (Nat.le_log2 h0).2 h1
  have hl2 : x.log2 < c + 1900 := (Nat.log2_lt h0).2 h2
  obtain ⟨s, hs⟩ : ∃ s, x.log2 = c + s + 51 := ⟨x.log2 - c - 51, by omega⟩
  have lo : 2 ^ (c + s) * 2 ^ 51 ≤ x := by
    rw [← Nat.pow_add, ← hs]; exact Nat.log2_self_le h0
  have hi : x < 2 ^ (c + s) * 2 ^ 52 := by
    rw [← Nat.pow_add, show c + s + 52 = x.log2 + 1 by omega]; exact Nat.lt_log2_self
  have hp := Nat.two_pow_pos (c + s)
  obtain ⟨P, hP⟩ : ∃ P, 2 ^ (c + s) = P := ⟨_, rfl⟩
  rw [hP] at lo hi hp
  have hm : x / P < 2 ^ 52 := (Nat.div_lt_iff_lt_mul hp).2 (by rw [Nat.mul_comm]; exact hi)
  have hd := Nat.div_add_mod x P
  have hr := Nat.mod_lt x hp
  have hx : x ≤ (x / P + 1) * P := by rw [Nat.add_mul, Nat.mul_comm (x / P) P]; omega
  have hy : (x / P + 2) * P ≤ y := by rw [Nat.add_mul, Nat.mul_comm (x / P) P]; omega
  have e : ∀ n, n * P = n * 2 ^ s * 2 ^ c := fun n => by rw [← hP, Nat.mul_assoc, ← Nat.pow_add, Nat.add_comm s c]
  refine Nat.lt_of_le_of_lt (rg_mono hx) (Nat.lt_of_lt_of_le ?_ (rg_mono hy))
  rw [e, e, rg_scale, rg_scale]
  refine fv_up.2 ?_
  rw [fv_rg2 (by omega) (by omega) (by omega), fv_rg2 (by omega) (by omega) (by omega)]
  exact Nat.mul_lt_mul_of_pos_right (by omega) (Nat.two_pow_pos _)
theorem rg_pos {c x : Nat} (h : 2 ^ c ≤ x) : 0 < rg c x := by
  have := rg_mono (c := c) h
  rw [show (2 : Nat) ^ c = fv 1 * 2 ^ c by rw [show fv 1 = 1 from rfl, Nat.one_mul], rg_fv c (by omega)] at this
  exact this
theorem rg_inf (c x : Nat) : rg c x ≤ 2047 * 2 ^ 52 := by unfold rg; split <;> omega

/-! ### Words -/
def INF : Nat := 2047 * 2 ^ 52
def wd (n : Bool) (r : Nat) : Nat := if n then 2 ^ 63 + r else r
theorem word_wd (n : Bool) (r : Nat) : double.word n r = wd n r := by
  unfold Format.word wd; rw [double_sw]
theorem wd_rung (n : Bool) {r : Nat} (h : r < 2 ^ 63) : rung (wd n r) = r := by
  unfold rung wd; cases n
  · show (if r < 2 ^ 63 then r else r - 2 ^ 63) = r
    rw [if_pos h]
  · show (if 2 ^ 63 + r < 2 ^ 63 then 2 ^ 63 + r else 2 ^ 63 + r - 2 ^ 63) = r
    rw [if_neg (by omega)]; omega
theorem wd_neg (n : Bool) {r : Nat} (h : r < 2 ^ 63) : neg (wd n r) = n := by
  unfold neg wd; cases n
  · rw [if_neg (by decide)]; exact decide_eq_false (by omega)
  · rw [if_pos rfl]; exact decide_eq_true (by omega)
theorem wd_lt (n : Bool) {r : Nat} (h : r < 2 ^ 63) : wd n r < 2 ^ 64 := by
  unfold wd; split <;> omega
theorem wd_sv (n : Bool) {r : Nat} (h : r < 2 ^ 63) : sv (wd n r) = if n then -(fv r : Int) else (fv r : Int) := by
  rw [sv_eq, wd_neg n h, wd_rung n h]
theorem wd_eta {b : Nat} (h : b < 2 ^ 64) : wd (neg b) (rung b) = b := by
  unfold wd neg rung
  by_cases h1 : b < 2 ^ 63
  · rw [if_pos h1, decide_eq_false (by omega), if_neg (by decide)]
  · rw [if_neg h1, decide_eq_true (by omega), if_pos rfl]; omega
theorem rung_lt' {b : Nat} (h : b < 2 ^ 64) : rung b < 2 ^ 63 := by unfold rung; split <;> omega

/-! ### Sums -/
/-- Which sign a sum has. -/
def sg (s t : Bool) (S : Int) : Bool := if S = 0 then s && t else decide (S < 0)
theorem sum_num (s t : Bool) (m n e g : Nat) (S : Int) (hS : S = (if s then -((m * 2 ^ e : Nat) : Int) else ((m * 2 ^ e : Nat) : Int)) + (if t then -((n * 2 ^ g : Nat) : Int) else ((n * 2 ^ g : Nat) : Int))) :
    ((Datum.number s m (-1074 + (e : Int))).sum (.number t n (-1074 + (g : Int)))).map double.write = some (wd (sg s t S) (rg 0 S.natAbs)) := by
  obtain ⟨b, hb⟩ : ∃ b, min e g = b := ⟨_, rfl⟩
  have hbase : min (-1074 + (e : Int)) (-1074 + (g : Int)) = -1074 + (b : Int) := by omega
  unfold Datum.sum
  simp only [hbase]
  rw [show (-1074 + (e : Int) - (-1074 + (b : Int))).toNat = e - b by omega, show (-1074 + (g : Int) - (-1074 + (b : Int))).toNat = g - b by omega]
  obtain ⟨T, hT⟩ : ∃ T, signed s m (e - b) + signed t n (g - b) = T := ⟨_, rfl⟩
  have hTS : T * ((2 ^ b : Nat) : Int) = S := by
    rw [← hT, Int.add_mul, signed_mul, signed_mul, show e - b + b = e by omega, show g - b + b = g by omega, hS]
  have hp : (0 : Int) < ((2 ^ b : Nat) : Int) := by have := Nat.two_pow_pos b; omega
  rw [hT]
  show some (double.nearest _ _ _) = _
  rw [nearest_eq _ _ _ 0 (by omega), word_wd]
  have hn : T.natAbs * 2 ^ (-1074 + (b : Int) + 1074 + ((0 : Nat) : Int)).toNat = S.natAbs := by
    rw [show (-1074 + (b : Int) + 1074 + ((0 : Nat) : Int)).toNat = b by omega, ← hTS, Int.natAbs_mul]; rfl
  rw [hn]
  congr 2
  unfold sg
  by_cases h0 : T = 0
  · have : S = 0 := by rw [← hTS, h0, Int.zero_mul]
    rw [if_pos h0, if_pos this]
  · have h1 : ¬ S = 0 := fun h => by
      rw [← hTS] at h
      rcases Int.mul_eq_zero.1 h with h | h
      · exact h0 h
      · omega
    rw [if_neg h0, if_neg h1]
    refine decide_eq_decide.2 ?_
    rw [← hTS]
    constructor
    · intro h; exact Int.mul_neg_of_neg_of_pos h hp
    · intro h
      by_cases h2 : T < 0
      · exact h2
      · have := Int.mul_nonneg (show 0 ≤ T by omega) (Int.le_of_lt hp); omega
theorem add_sv {x y : Nat} (hx : x < 2 ^ 64) (hy : y < 2 ^ 64) (fx : rung x < INF) (fy : rung y < INF) : double.add x y = some (wd (sg (neg x) (neg y) (sv x + sv y)) (rg 0 (sv x + sv y).natAbs)) := by
  obtain ⟨m, e, h1, h2⟩ := read_num hx fx
  obtain ⟨n, g, h3, h4⟩ := read_num hy fy
  unfold Format.add
  rw [h1, h3]
  exact sum_num _ _ _ _ _ _ _ (by rw [h2, h4, sv_eq, sv_eq])
theorem sub_sv {x y : Nat} (hx : x < 2 ^ 64) (hy : y < 2 ^ 64) (fx : rung x < INF) (fy : rung y < INF) : double.sub x y = some (wd (sg (neg x) (!neg y) (sv x - sv y)) (rg 0 (sv x - sv y).natAbs)) := by
  obtain ⟨m, e, h1, h2⟩ := read_num hx fx
  obtain ⟨n, g, h3, h4⟩ := read_num hy fy
  unfold Format.sub
  rw [h1, h3]
  refine sum_num _ _ _ _ _ _ _ ?_
  rw [h2, h4, sv_eq, sv_eq]
  cases neg x <;> cases neg y <;> simp <;> omega
/-- What is taken from itself leaves nothing. -/
theorem sub_self {x : Nat} (hx : x < 2 ^ 64) (fx : rung x < INF) : double.sub x x = some 0 := by
  rw [sub_sv hx hx fx fx, Int.sub_self]
  unfold sg
  cases neg x <;> rfl
/-- A product with nothing is nothing. -/
theorem mul_zeroL {p x : Nat} (hp : p < 2 ^ 64) (hx : x < 2 ^ 64) (h0 : rung p = 0) (fx : rung x < INF) : double.mul p x = some (wd (neg p ^^ neg x) 0) := by
  obtain ⟨n, g, h3, h4⟩ := read_num hx fx
  unfold Format.mul
  rw [read_eq hp, h0, if_pos (by decide), h3]
  show some (double.nearest _ (0 * n) _) = _
  rw [Nat.zero_mul, ← word_wd]; rfl
theorem mul_zeroR {p x : Nat} (hp : p < 2 ^ 64) (hx : x < 2 ^ 64) (h0 : rung x = 0) (fp : rung p < INF) : double.mul p x = some (wd (neg p ^^ neg x) 0) := by
  obtain ⟨n, g, h3, h4⟩ := read_num hp fp
  unfold Format.mul
  rw [read_eq hx, h0, if_pos (by decide), h3]
  show some (double.nearest _ (n * 0) _) = _
  rw [Nat.mul_zero, ← word_wd]; rfl
theorem sv_zero {x : Nat} (h : rung x = 0) : sv x = 0 := by
  rw [sv_eq, h]; cases neg x <;> rfl
theorem fv_zero {r : Nat} (h : fv r = 0) : r = 0 := by
  rcases Nat.eq_zero_or_pos r with h1 | h1
  · exact h1
  · have := fv_lt h1; omega
theorem sv_zero' {x : Nat} (h : sv x = 0) : rung x = 0 := by
  rw [sv_eq] at h
  have : fv (rung x) = 0 := by cases hn : neg x <;> rw [hn] at h <;> simp at h <;> omega
  exact fv_zero this
/-- With nothing added a number has the same worth. -/
theorem add_zero {x z : Nat} (hx : x < 2 ^ 64) (hz : z < 2 ^ 64) (fx : rung x < INF) (h0 : rung z = 0) : ∃ r, double.add x z = some r ∧ r < 2 ^ 64 ∧ isN r = false ∧ sv r = sv x := by
  have h63 : rung x < 2 ^ 63 := rung_lt' hx
  have ia : INF = 2047 * 2 ^ 52 := rfl
  rw [add_sv hx hz fx (by rw [h0]; decide), sv_zero h0, Int.add_zero]
  have hfr : rg 0 (fv (rung x)) = rung x := by
    have := rg_fv 0 (r := rung x) (by omega)
    rwa [Nat.pow_zero, Nat.mul_one] at this
  have hab : (sv x).natAbs = fv (rung x) := by rw [sv_eq]; split <;> omega
  rw [hab, hfr]
  refine ⟨_, rfl, wd_lt _ h63, ?_, ?_⟩
  · unfold isN; rw [wd_rung _ h63]; exact decide_eq_false (by omega)
  · rw [wd_sv _ h63]
    unfold sg
    by_cases hs : sv x = 0
    · have := sv_zero' hs
      rw [if_pos hs, this, hs]; split <;> rfl
    · rw [if_neg hs, sv_eq]
      have hp : fv (rung x) ≠ 0 := fun h => hs (sv_zero (fv_zero h))
      cases neg x
      · simp only [Bool.false_eq_true, if_false]
        rw [decide_eq_false (by omega), if_neg (by decide)]
      · simp only [if_true]
        rw [decide_eq_true (by omega), if_pos rfl]

/-! ### Whole numbers -/
def fI (z : Int) : Nat := wd (decide (z < 0)) (fl z.natAbs)
theorem nearest_fI (z : Int) : double.nearest (decide (z < 0)) z.natAbs 0 = fI z := by
  rw [nearest_eq _ _ _ 0 (by omega), word_wd, show ((0 : Int) + 1074 + ((0 : Nat) : Int)).toNat = 1074 from rfl]
  unfold fI fl
  with_reducible rfl
theorem fl_inf {n : Nat} (h : n < 2 ^ 53) : fl n < INF := fl_lt h
theorem fv_fl {n : Nat} (h : n < 2 ^ 53) : fv (fl n) = n * 2 ^ 1074 := by
  unfold fl
  exact fv_rg2 (s := 1074) h (by decide) (by decide)
theorem fI_lt {z : Int} (h : z.natAbs < 2 ^ 53) : fI z < 2 ^ 64 := wd_lt _ (by have := fl_inf h; have : INF = 2047 * 2 ^ 52 := rfl; omega)
theorem fl63 {n : Nat} (h : n < 2 ^ 53) : fl n < 2 ^ 63 := by have := fl_inf h; have : INF = 2047 * 2 ^ 52 := rfl; omega
theorem fI_rung {z : Int} (h : z.natAbs < 2 ^ 53) : rung (fI z) = fl z.natAbs := wd_rung _ (fl63 h)
theorem fI_neg {z : Int} (h : z.natAbs < 2 ^ 53) : neg (fI z) = decide (z < 0) := wd_neg _ (fl63 h)
theorem fI_sv {z : Int} (h : z.natAbs < 2 ^ 53) : sv (fI z) = z * ((2 ^ 1074 : Nat) : Int) := by
  unfold fI
  rw [wd_sv _ (fl63 h), fv_fl h]
  generalize 2 ^ 1074 = P
  by_cases hz : z < 0
  · rw [decide_eq_true hz, if_pos rfl, Int.natCast_mul, ← Int.neg_mul]; congr 1; omega
  · rw [decide_eq_false hz, if_neg (by decide), Int.natCast_mul]; congr 1; omega
theorem fI_add {a b : Int} (ha : a.natAbs < 2 ^ 53) (hb : b.natAbs < 2 ^ 53) : double.add (fI a) (fI b) = some (fI (a + b)) := by
  rw [add_sv (fI_lt ha) (fI_lt hb) (by rw [fI_rung ha]; exact fl_inf ha) (by rw [fI_rung hb]; exact fl_inf hb), fI_sv ha, fI_sv hb, fI_neg ha, fI_neg hb, ← Int.add_mul]
  have hp : (0 : Int) < ((2 ^ 1074 : Nat) : Int) := by have := Nat.two_pow_pos 1074; omega
  obtain ⟨P, hP⟩ : ∃ P : Nat, 2 ^ 1074 = P := ⟨_, rfl⟩
  unfold fI fl
  rw [hP] at hp ⊢
  congr 2
  · unfold sg
    by_cases h0 : a + b = 0
    · rw [h0, Int.zero_mul, if_pos rfl]
      by_cases h1 : a < 0
      · rw [decide_eq_false (show ¬ b < 0 by omega)]; simp
      · rw [decide_eq_false h1]; rfl
    · rw [if_neg (fun h => by rcases Int.mul_eq_zero.1 h with h | h <;> omega)]
      refine decide_eq_decide.2 ⟨fun h => ?_, fun h => Int.mul_neg_of_neg_of_pos h hp⟩
      by_cases h2 : a + b < 0
      · exact h2
      · have := Int.mul_nonneg (show 0 ≤ a + b by omega) (Int.le_of_lt hp); omega
  · rw [Int.natAbs_mul]; rfl

/-! ### Quotients -/
theorem read_norm {b : Nat} (h0 : 2 ^ 52 ≤ b) (h : b < INF) : ∃ m e : Nat, double.read b = .number false m (-1074 + (e : Int)) ∧ m * 2 ^ e = fv b ∧ 2 ^ 52 ≤ m ∧ m < 2 ^ 53 ∧ e = b / 2 ^ 52 - 1 ∧ m = 2 ^ 52 + b % 2 ^ 52 := by
  have ia : INF = 2047 * 2 ^ 52 := rfl
  have hr : rung b = b := by unfold rung; rw [if_pos (by omega)]
  have hn : neg b = false := decide_eq_false (by omega)
  rw [read_eq (by omega), hr, hn, if_neg (by omega), if_pos (by omega)]
  refine ⟨_, _, rfl, ?_, by omega, by omega, rfl, rfl⟩
  unfold fv
  rw [if_neg (by omega)]
theorem log_norm {m : Nat} (h0 : 2 ^ 52 ≤ m) (h : m < 2 ^ 53) : m.log2 = 52 := by
  have hne : m ≠ 0 := by omega
  have h1 : m.log2 < 53 := (Nat.log2_lt hne).2 h
  have h2 : 52 ≤ m.log2 := (Nat.le_log2 hne).2 h0
  omega
/-- What a quotient of two numbers is made of: a number of units of `2 ^ -2148` that is nearly exact. -/
theorem div_units' {x w : Nat} (hx0 : 2 ^ 52 ≤ x) (hx : x < INF) (hw0 : 2 ^ 52 ≤ w) (hw : w < INF) :
    ∃ X : Nat, double.div x w = some (rg 1074 X) ∧ X * (2 ^ 52 + w % 2 ^ 52) * 2 ^ 54 ≤ fv x * 2 ^ (2148 - (w / 2 ^ 52 - 1)) * (2 ^ 54 + 1) ∧ fv x * 2 ^ (2148 - (w / 2 ^ 52 - 1)) * (2 ^ 54 - 1) ≤ X * (2 ^ 52 + w % 2 ^ 52) * 2 ^ 54 := by
  obtain ⟨mx, ex, h1, h2, h3, h4, _, _⟩ := read_norm hx0 hx
  obtain ⟨mw, ew, g1, g2, g3, g4, g5, g6⟩ := read_norm hw0 hw
  have ia : INF = 2047 * 2 ^ 52 := rfl
  have hew : ew ≤ 2046 := by omega
  rw [← g5, ← g6]
  have hdiv : double.div x w = some (double.nearest false (2 * (mx <<< 54 / mw) + (mx <<< 54 % mw != 0).toNat) (-1074 + (ex : Int) - (-1074 + (ew : Int)) - ((54 : Nat) : Int) - 1)) := by
    unfold Format.div
    rw [h1, g1]
    unfold Datum.quotient
    simp only
    rw [if_neg (by omega), log_norm h3 h4, log_norm g3 g4, show double.fractionBits + 2 + 52 - 52 = 54 from rfl]
    rfl
  obtain ⟨Q, hQ⟩ : ∃ Q, 2 * (mx <<< 54 / mw) + (mx <<< 54 % mw != 0).toNat = Q := ⟨_, rfl⟩
  rw [hQ, nearest_eq _ _ _ 1074 (by omega), word_pos] at hdiv
  obtain ⟨T, hT⟩ : ∃ T : Nat, (-1074 + (ex : Int) - (-1074 + (ew : Int)) - ((54 : Nat) : Int) - 1 + 1074 + ((1074 : Nat) : Int)).toNat = T := ⟨_, rfl⟩
  have hT2 : T + 55 = ex + (2148 - ew) := by omega
  rw [hT] at hdiv
  refine ⟨Q * 2 ^ T, hdiv, ?_⟩
  -- the bounds of Q
  have hD : mx <<< 54 = mx * 2 ^ 54 := Nat.shiftLeft_eq _ _
  rw [hD] at hQ
  have hb : Q * mw ≤ 2 * (mx * 2 ^ 54) + mw ∧ 2 * (mx * 2 ^ 54) ≤ Q * mw + mw := by
    have hd := Nat.div_add_mod (mx * 2 ^ 54) mw
    have hr := Nat.mod_lt (mx * 2 ^ 54) (show 0 < mw by omega)
    have hm : mx * 2 ^ 54 / mw * mw = mw * (mx * 2 ^ 54 / mw) := Nat.mul_comm _ _
    rw [← hQ, Nat.add_mul, Nat.mul_assoc, hm]
    cases hz : (mx * 2 ^ 54 % mw != 0)
    · have h0 : mx * 2 ^ 54 % mw = 0 := by simpa using hz
      simp only [Bool.toNat_false, Nat.zero_mul]; omega
    · simp only [Bool.toNat_true, Nat.one_mul]; omega
  have hfx : fv x * 2 ^ (2148 - ew) = mx * 2 ^ 55 * 2 ^ T := by
    rw [← h2, Nat.mul_assoc, Nat.mul_assoc, ← Nat.pow_add, ← Nat.pow_add, ← hT2, Nat.add_comm]
  have e1 : Q * 2 ^ T * mw * 2 ^ 54 = (Q * mw * 2 ^ 54) * 2 ^ T := by
    simp only [Nat.mul_assoc, Nat.mul_comm, Nat.mul_left_comm]
  have e2 : ∀ c, mx * 2 ^ 55 * 2 ^ T * c = (mx * 2 ^ 55 * c) * 2 ^ T := fun c => by
    simp only [Nat.mul_assoc, Nat.mul_comm, Nat.mul_left_comm]
  rw [hfx, e1, e2, e2]
  exact ⟨Nat.mul_le_mul_right _ (by omega), Nat.mul_le_mul_right _ (by omega)⟩
end Go.Proofs.Ytainjcpocodehaa.Rnd

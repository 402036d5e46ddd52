/- The calendar in plain numbers: days from the first of 1970 on, and that a day has one date. -/
import Derived.Test.YtmjfkcjdmfgkcaaDoorEa
set_option linter.unusedSimpArgs false
set_option linter.unusedVariables false
namespace Go.Cal

def leapB (y : Int) : Bool := y % 4 == 0 && (y % 100 != 0 || y % 400 == 0)
def lenM (l : Bool) (m : Int) : Int := if m = 4 ∨ m = 6 ∨ m = 9 ∨ m = 11 then 30 else if m = 2 then (if l then 29 else 28) else 31
/-- The days of the months before this one. -/
def cum (l : Bool) (m : Int) : Int :=
  (if m ≤ 1 then 0 else if m = 2 then 31 else if m = 3 then 59 else if m = 4 then 90 else if m = 5 then 120 else if m = 6 then 151 else if m = 7 then 181 else if m = 8 then 212 else if m = 9 then 243 else if m = 10 then 273 else if m = 11 then 304 else if m = 12 then 334 else 365) + (if l = true ∧ 2 < m then 1 else 0)
def leaps (y : Int) : Int := y / 4 - y / 100 + y / 400
def yd (y : Int) : Int := 365 * (y - 1970) + leaps (y - 1) - 477
def dayN (y m d : Int) : Int := yd y + cum (leapB y) m + d - 1
structure Valid (y m d : Int) : Prop where
  y0 : 1970 ≤ y
  y1 : y ≤ 9999
  m0 : 1 ≤ m
  m1 : m ≤ 12
  d0 : 1 ≤ d
  d1 : d ≤ lenM (leapB y) m

theorem leapB_iff (y : Int) : leapB y = true ↔ y % 4 = 0 ∧ (y % 100 ≠ 0 ∨ y % 400 = 0) := by
  simp [leapB]
theorem months {m : Int} (h0 : 1 ≤ m) (h1 : m ≤ 12) : m = 1 ∨ m = 2 ∨ m = 3 ∨ m = 4 ∨ m = 5 ∨ m = 6 ∨ m = 7 ∨ m = 8 ∨ m = 9 ∨ m = 10 ∨ m = 11 ∨ m = 12 := by omega
theorem cum_succ (l : Bool) {m : Int} (h0 : 1 ≤ m) (h1 : m ≤ 12) : cum l (m + 1) = cum l m + lenM l m := by
  rcases months h0 h1 with h | h | h | h | h | h | h | h | h | h | h | h <;> subst h <;> cases l <;> decide
theorem cum_one (l : Bool) : cum l 1 = 0 := by cases l <;> decide
theorem cum_last (l : Bool) : cum l 13 = if l = true then 366 else 365 := by cases l <;> decide
theorem lenM_pos (l : Bool) {m : Int} (h0 : 1 ≤ m) (h1 : m ≤ 12) : 28 ≤ lenM l m ∧ lenM l m ≤ 31 := by
  rcases months h0 h1 with h | h | h | h | h | h | h | h | h | h | h | h <;> subst h <;> cases l <;> decide
theorem cum_mono (l : Bool) {m n : Int} (h0 : 1 ≤ m) (hmn : m < n) (h1 : n ≤ 13) : cum l (m + 1) ≤ cum l n := by
  obtain ⟨k, hk⟩ : ∃ k : Nat, n = m + 1 + k := ⟨(n - m - 1).toNat, by omega⟩
  induction k generalizing n with
  | zero => subst hk; simp
  | succ k ih =>
    subst hk
    by_cases hk0 : k = 0
    · subst hk0
      have e := cum_succ l (m := m + 1) (by omega) (by omega)
      have p := lenM_pos l (m := m + 1) (by omega) (by omega)
      have e2 : m + 1 + ((0 + 1 : Nat) : Int) = m + 1 + 1 := by omega
      rw [e2]; omega
    · have i := ih (n := m + 1 + k) (by omega) (by omega) rfl
      have e := cum_succ l (m := m + 1 + k) (by omega) (by omega)
      have p := lenM_pos l (m := m + 1 + k) (by omega) (by omega)
      have e2 : m + 1 + ((k + 1 : Nat) : Int) = m + 1 + k + 1 := by omega
      rw [e2]; omega
theorem cum_nonneg (l : Bool) {m : Int} (h0 : 1 ≤ m) (h1 : m ≤ 13) : 0 ≤ cum l m := by
  by_cases h : m = 1
  · subst h; rw [cum_one]; exact Int.le_refl 0
  · have := cum_mono l (m := 1) (n := m) (by omega) (by omega) h1
    have e := cum_succ l (m := 1) (by omega) (by omega)
    have p := lenM_pos l (m := 1) (by omega) (by omega)
    rw [cum_one] at e
    omega
theorem cum_le (l : Bool) {m : Int} (h0 : 1 ≤ m) (h1 : m ≤ 13) : cum l m ≤ 366 := by
  have e : cum l 13 ≤ 366 := by cases l <;> decide
  by_cases h : m = 13
  · subst h; exact e
  · have a := cum_mono l (m := m) (n := 13) h0 (by omega) (by omega)
    have b := cum_succ l h0 (show m ≤ 12 by omega)
    have c := lenM_pos l h0 (show m ≤ 12 by omega)
    omega
theorem yd_succ (y : Int) : yd (y + 1) = yd y + (if leapB y = true then 366 else 365) := by
  unfold yd leaps
  by_cases h : leapB y = true
  · rw [if_pos h]
    rw [leapB_iff] at h
    omega
  · rw [if_neg h]
    rw [leapB_iff] at h
    omega
theorem yd_succ' (y : Int) : yd (y + 1) = yd y + cum (leapB y) 13 := by rw [yd_succ, cum_last]
theorem yd_mono {y z : Int} (h : y ≤ z) : yd y ≤ yd z := by unfold yd leaps; omega
theorem yd_lt {y z : Int} (h : y < z) : yd (y + 1) ≤ yd z := yd_mono (by omega)
/-- Where a date lies in its year. -/
theorem dayN_in {y m d : Int} (h : Valid y m d) : yd y + cum (leapB y) m ≤ dayN y m d ∧ dayN y m d < yd y + cum (leapB y) (m + 1) ∧ cum (leapB y) (m + 1) ≤ cum (leapB y) 13 ∧ 0 ≤ cum (leapB y) m := by
  have e := cum_succ (leapB y) h.m0 h.m1
  have p := h.d0
  have q := h.d1
  refine ⟨by unfold dayN; omega, by unfold dayN; omega, ?_, cum_nonneg _ h.m0 (by have := h.m1; omega)⟩
  have hm0 := h.m0
  have hm1 := h.m1
  by_cases h12 : m = 12
  · subst h12; exact Int.le_refl _
  · exact cum_mono (leapB y) (m := m) (n := 13) hm0 (by omega) (by omega)
theorem uniq {y m d y' m' d' : Int} (h : Valid y m d) (h' : Valid y' m' d') (e : dayN y m d = dayN y' m' d') : y = y' ∧ m = m' ∧ d = d' := by
  obtain ⟨a1, a2, a3, a4⟩ := dayN_in h
  obtain ⟨b1, b2, b3, b4⟩ := dayN_in h'
  have y1 := yd_succ' y
  have y2 := yd_succ' y'
  have hy : y = y' := by
    rcases Int.lt_trichotomy y y' with hl | hl | hl
    · have := yd_lt hl; omega
    · exact hl
    · have := yd_lt hl; omega
  subst hy
  have hm : m = m' := by
    rcases Int.lt_trichotomy m m' with hl | hl | hl
    · have := cum_mono (leapB y) h.m0 hl (by have := h'.m1; omega); omega
    · exact hl
    · have := cum_mono (leapB y) h'.m0 hl (by have := h.m1; omega); omega
  subst hm
  refine ⟨rfl, rfl, ?_⟩
  unfold dayN at e
  omega
/-- The next day: the next of the month, or the first of one. -/
theorem next_day {y m d y' m' d' : Int} (h : Valid y m d) (h' : Valid y' m' d') (e : dayN y' m' d' = dayN y m d + 1) : d' = d + 1 ∨ d' = 1 := by
  by_cases h1 : d' = 1
  · exact .inr h1
  · have v : Valid y' m' (d' - 1) := ⟨h'.y0, h'.y1, h'.m0, h'.m1, by have := h'.d0; omega, by have := h'.d1; omega⟩
    have := uniq h v (by unfold dayN at e ⊢; omega)
    omega
/-- The year of a day. -/
theorem yd_start {k : Int} (h : 0 ≤ k) (h2 : k ≤ 8100) : yd (1970 + k) ≤ 366 * k := by unfold yd leaps; omega
theorem yd_end : yd 10000 = 2932897 := by decide
end Go.Cal

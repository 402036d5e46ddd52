/- Dates in plain numbers and bytes: what is counted, written and read. -/
import Derived.Test.YtmjfkcjdmfgkcaaDoorCal
set_option linter.unusedSimpArgs false
set_option linter.unusedVariables false
namespace Go.Cal

structure CV where
  y : Int
  m : Int
  d : Int
  h : Int
  i : Int
  s : Int
  w : Int
abbrev B8 := List UInt8
def okD (y m d : Int) : Bool := decide (1970 ≤ y ∧ y ≤ 9999 ∧ 1 ≤ m ∧ m ≤ 12 ∧ 1 ≤ d ∧ d ≤ lenM (leapB y) m)
theorem okD_iff {y m d : Int} : okD y m d = true ↔ Valid y m d := by
  unfold okD
  rw [decide_eq_true_iff]
  exact ⟨fun ⟨a, b, c, d, e, f⟩ => ⟨a, b, c, d, e, f⟩, fun ⟨a, b, c, d, e, f⟩ => ⟨a, b, c, d, e, f⟩⟩
def dayV (y m d : Int) : Int := if okD y m d = true then dayN y m d else 0
def dayE (y m d : Int) : Int := if okD y m d = true then 0 else 2
def okS (c : CV) : Bool := okD c.y c.m c.d && decide (0 ≤ c.h ∧ c.h < 24 ∧ 0 ≤ c.i ∧ c.i < 60 ∧ 0 ≤ c.s ∧ c.s < 60 ∧ c.w = (dayN c.y c.m c.d + 4) % 7)
def secN (c : CV) : Int := dayN c.y c.m c.d * 86400 + (3600 * c.h + 60 * c.i + c.s)
def secV (c : CV) : Int := if okS c = true then secN c else 0
def secE (c : CV) : Int := if okS c = true then 0 else 2
def okT (t : Int) : Bool := decide (0 ≤ t ∧ t ≤ 253402300799)
/-- The date of a day. -/
noncomputable def dt (n : Int) : Int × Int × Int := Classical.epsilon fun p => Valid p.1 p.2.1 p.2.2 ∧ dayN p.1 p.2.1 p.2.2 = n
theorem dt_eq {y m d n : Int} (h : Valid y m d) (e : dayN y m d = n) : dt n = (y, m, d) := by
  have h2 := Classical.epsilon_spec (p := fun p : Int × Int × Int => Valid p.1 p.2.1 p.2.2 ∧ dayN p.1 p.2.1 p.2.2 = n) ⟨(y, m, d), h, e⟩
  have h3 := uniq h2.1 h (h2.2.trans e.symm)
  exact Prod.ext h3.1 (Prod.ext h3.2.1 h3.2.2)
/-- A place between steps that do not fall. -/
theorem between (f : Nat → Int) (n : Int) (h0 : f 0 ≤ n) : ∀ k : Nat, n < f k → ∃ j, j < k ∧ f j ≤ n ∧ n < f (j + 1)
  | 0, h => by omega
  | k + 1, h => by
    by_cases hk : n < f k
    · obtain ⟨j, h1, h2⟩ := between f n h0 k hk
      exact ⟨j, by omega, h2⟩
    · exact ⟨k, by omega, by omega, h⟩
theorem yd_first : yd 1970 = 0 := by decide
theorem date_ex {n : Int} (h0 : 0 ≤ n) (h1 : n < 2932897) : ∃ y m d, Valid y m d ∧ dayN y m d = n := by
  obtain ⟨j, hj, g1, g2⟩ := between (fun j => yd (1970 + j)) n (by show yd (1970 + 0) ≤ n; rw [Int.add_zero, yd_first]; exact h0) 8030 (by show n < yd (1970 + 8030); have := yd_end; rw [show (1970 : Int) + 8030 = 10000 by decide]; omega)
  simp only [Int.natCast_add] at g2
  generalize hy : (1970 : Int) + j = y at *
  rw [show (1970 : Int) + (j + (1 : Nat)) = y + 1 by omega, yd_succ'] at g2
  obtain ⟨k, hk, g3, g4⟩ := between (fun k => cum (leapB y) (1 + k)) (n - yd y) (by show cum _ (1 + 0) ≤ _; rw [Int.add_zero, cum_one]; omega) 12 (by show _ < cum _ (1 + 12); rw [show (1 : Int) + 12 = 13 by decide]; omega)
  simp only [Int.natCast_add] at g4
  generalize hm : (1 : Int) + k = m at *
  rw [show (1 : Int) + (k + (1 : Nat)) = m + 1 by omega, cum_succ _ (by omega) (by omega)] at g4
  exact ⟨y, m, n - yd y - cum (leapB y) m + 1, ⟨by omega, by omega, by omega, by omega, by omega, by omega⟩, by unfold dayN; omega⟩
theorem dt_valid {n : Int} (h0 : 0 ≤ n) (h1 : n < 2932897) : Valid (dt n).1 (dt n).2.1 (dt n).2.2 ∧ dayN (dt n).1 (dt n).2.1 (dt n).2.2 = n := by
  obtain ⟨y, m, d, h, e⟩ := date_ex h0 h1
  rw [dt_eq h e]; exact ⟨h, e⟩
noncomputable def civ (t : Int) : CV := if okT t = true then ⟨(dt (t / 86400)).1, (dt (t / 86400)).2.1, (dt (t / 86400)).2.2, t % 86400 / 3600, t % 86400 % 3600 / 60, t % 86400 % 60, (t / 86400 + 4) % 7⟩ else ⟨0, 0, 0, 0, 0, 0, 0⟩
def civE (t : Int) : Int := if okT t = true then 0 else 2
theorem day_range {y m d : Int} (h : Valid y m d) : 0 ≤ dayN y m d ∧ dayN y m d < 2932897 := by
  obtain ⟨a1, a2, a3, a4⟩ := dayN_in h
  have h1 : yd 1970 ≤ yd y := yd_mono h.y0
  have h2 := yd_lt (y := y) (z := 10000) (by have := h.y1; omega)
  rw [yd_first] at h1
  rw [yd_end, yd_succ'] at h2
  omega
theorem okS_iff {c : CV} : okS c = true ↔ Valid c.y c.m c.d ∧ 0 ≤ c.h ∧ c.h < 24 ∧ 0 ≤ c.i ∧ c.i < 60 ∧ 0 ≤ c.s ∧ c.s < 60 ∧ c.w = (dayN c.y c.m c.d + 4) % 7 := by
  unfold okS
  rw [Bool.and_eq_true, okD_iff, decide_eq_true_iff]
theorem okT_iff {t : Int} : okT t = true ↔ 0 ≤ t ∧ t ≤ 253402300799 := by unfold okT; rw [decide_eq_true_iff]
theorem civ_ok {t : Int} (h : okT t = true) : okS (civ t) = true ∧ secN (civ t) = t := by
  have ht := okT_iff.1 h
  obtain ⟨h1, h2⟩ := dt_valid (n := t / 86400) (by omega) (by omega)
  unfold civ
  rw [if_pos h]
  refine ⟨okS_iff.2 ⟨h1, ?_⟩, ?_⟩
  · simp only
    rw [h2]
    refine ⟨by omega, by omega, by omega, by omega, by omega, by omega, rfl⟩
  · unfold secN
    simp only
    rw [h2]
    omega
theorem sec_ok {c : CV} (h : okS c = true) : okT (secN c) = true ∧ civ (secN c) = c := by
  obtain ⟨hv, h1, h2, h3, h4, h5, h6, h7⟩ := okS_iff.1 h
  obtain ⟨r1, r2⟩ := day_range hv
  have ht : okT (secN c) = true := okT_iff.2 (by unfold secN; omega)
  refine ⟨ht, ?_⟩
  unfold civ
  rw [if_pos ht]
  have e1 : secN c / 86400 = dayN c.y c.m c.d := by unfold secN; omega
  have e2 : secN c % 86400 = 3600 * c.h + 60 * c.i + c.s := by unfold secN; omega
  rw [e1, e2, dt_eq hv rfl, ← h7]
  obtain ⟨y, m, d, hh, i, s, w⟩ := c
  simp only at *
  congr 1 <;> omega
theorem secV_ok {c : CV} (h : okS c = true) : secV c = secN c := if_pos h
theorem sec_inj {c c' : CV} (h : okS c = true) (h' : okS c' = true) (e : secN c = secN c') : c = c' := by rw [← (sec_ok h).2, e, (sec_ok h').2]

/-! ### Written -/
def d10 (n : Int) : UInt8 := UInt8.ofNat (48 + n / 10 % 10).toNat
def d01 (n : Int) : UInt8 := UInt8.ofNat (48 + n % 10).toNat
def two (n : Int) : B8 := [d10 n, d01 n]
def dayL : List B8 := [[83, 117, 110, 100, 97, 121], [77, 111, 110, 100, 97, 121], [84, 117, 101, 115, 100, 97, 121], [87, 101, 100, 110, 101, 115, 100, 97, 121], [84, 104, 117, 114, 115, 100, 97, 121], [70, 114, 105, 100, 97, 121], [83, 97, 116, 117, 114, 100, 97, 121]]
def monL : List B8 := [[], [74, 97, 110], [70, 101, 98], [77, 97, 114], [65, 112, 114], [77, 97, 121], [74, 117, 110], [74, 117, 108], [65, 117, 103], [83, 101, 112], [79, 99, 116], [78, 111, 118], [68, 101, 99]]
def dayF (w : Int) : B8 := dayL.getD w.toNat []
def monF (m : Int) : B8 := monL.getD m.toNat []
def clk (c : CV) : B8 := two c.h ++ [58] ++ two c.i ++ [58] ++ two c.s
def form1 (c : CV) : B8 := (dayF c.w).take 3 ++ [44, 32] ++ two c.d ++ [32] ++ monF c.m ++ [32] ++ two (c.y / 100) ++ two (c.y % 100) ++ [32] ++ clk c ++ [32, 71, 77, 84]
def form2 (c : CV) : B8 := dayF c.w ++ [44, 32] ++ two c.d ++ [45] ++ monF c.m ++ [45] ++ two (c.y % 100) ++ [32] ++ clk c ++ [32, 71, 77, 84]
def day3 (n : Int) : B8 := if n < 10 then 32 :: (two n).drop 1 else two n
def form3 (c : CV) : B8 := (dayF c.w).take 3 ++ [32] ++ monF c.m ++ [32] ++ day3 c.d ++ [32] ++ clk c ++ [32] ++ (two (c.y / 100) ++ two (c.y % 100))
theorem dayL_length : dayL.length = 7 := rfl
theorem monL_length : monL.length = 13 := rfl
noncomputable def fmt (t : Int) : B8 := if okT t = true then form1 (civ t) else []

/-! ### Read, step by step: what is left, and whether it is bad -/
abbrev RS := B8 × Bool
def isDg (c : UInt8) : Bool := decide (48 ≤ c.toNat) && decide (c.toNat ≤ 57)
def nV (s : B8) : Nat := s.foldl (fun n c => n * 10 + (c.toNat - 48)) 0
def okN (s : B8) : Bool := decide (s ≠ []) && s.all isDg
def tkV (n : Nat) (s : B8) : B8 := if s.length < n then [] else s.take n
def tkS (n : Nat) (s : B8) : B8 := if s.length < n then s else s.drop n
def tkB (n : Nat) (s : B8) (b : Bool) : Bool := if s.length < n then true else b
def msB (x s : B8) (b : Bool) : Bool := if tkV x.length s ≠ x then true else tkB x.length s b
def mustR (x : B8) (r : RS) : RS := (tkS x.length r.1, msB x r.1 r.2)
def nmB (n : Nat) (s : B8) (b : Bool) : Bool := if tkB n s b = true then true else !(okN (tkV n s))
def numR (n : Nat) (r : RS) : RS := (tkS n r.1, nmB n r.1 r.2)
def nX (s : B8) : Int := if okN s = true then nV s else 0
def numX (n : Nat) (r : RS) : Int := nX (tkV n r.1)
def pfx (n : Nat) (x : B8) : B8 := if 0 < n ∧ n < x.length then x.take n else x
def hitB (n : Nat) (s x : B8) : Bool := decide (pfx n x ≠ []) && (pfx n x).isPrefixOf s
def nmI (l : List B8) (n : Nat) (s : B8) : Option Nat := l.findIdx? (hitB n s)
def nmX (l : List B8) (n : Nat) (r : RS) : Int := match nmI l n r.1 with | some i => (i : Int) | none => 0
def nmR (l : List B8) (n : Nat) (r : RS) : RS := match nmI l n r.1 with | some i => (r.1.drop (pfx n (l.getD i [])).length, r.2) | none => (r.1, true)
theorem must_iff {x s' : B8} {r : RS} : mustR x r = (s', false) ↔ r = (x ++ s', false) := by
  obtain ⟨s, b⟩ := r
  unfold mustR msB tkB tkS tkV
  simp only [Prod.mk.injEq]
  constructor
  · rintro ⟨h1, h2⟩
    by_cases hl : s.length < x.length
    · simp [hl] at h2
    · simp only [if_neg hl] at h1 h2
      split at h2
      · cases h2
      · rename_i h3
        have h3 : s.take x.length = x := by simpa using h3
        refine ⟨?_, h2⟩
        rw [← h1, ← List.take_append_drop x.length s, h3]
        simp
  · rintro ⟨rfl, rfl⟩
    have hl : ¬ (x ++ s').length < x.length := by simp
    simp only [if_neg hl, List.take_left, List.drop_left, ne_eq, not_true_eq_false, if_false, and_self]
theorem num_iff {n : Nat} {s' : B8} {r : RS} (hn : 0 < n) : numR n r = (s', false) ↔ ∃ D : B8, D.length = n ∧ D.all isDg = true ∧ r = (D ++ s', false) := by
  obtain ⟨s, b⟩ := r
  unfold numR nmB tkB tkS tkV okN
  simp only [Prod.mk.injEq]
  constructor
  · rintro ⟨h1, h2⟩
    by_cases hl : s.length < n
    · simp [hl] at h2
    · simp only [if_neg hl] at h1 h2
      split at h2
      · cases h2
      · rename_i h3
        simp only [Bool.not_eq_false', Bool.and_eq_true, decide_eq_true_eq] at h2
        refine ⟨s.take n, by rw [List.length_take]; omega, h2.2, ?_, by simpa using h3⟩
        rw [← h1, List.take_append_drop]
  · rintro ⟨D, h1, h2, rfl, rfl⟩
    have hl : ¬ (D ++ s').length < n := by simp; omega
    have hD : D ≠ [] := fun e => by subst e; simp at h1; omega
    subst h1
    simp only [if_neg hl, List.take_left, List.drop_left, decide_eq_true hD, h2, Bool.and_self, Bool.not_true, Bool.false_eq_true, if_false, and_self]
theorem num_val {D s' : B8} {n : Nat} (h1 : D.length = n) (h2 : D.all isDg = true) (hn : 0 < n) : numX n (D ++ s', false) = nV D := by
  have hl : ¬ (D ++ s').length < n := by simp; omega
  have hD : D ≠ [] := fun e => by subst e; simp at h1; omega
  subst h1
  simp only [numX, nX, tkV, okN, if_neg hl, List.take_left, decide_eq_true hD, h2, Bool.and_self, if_true]
theorem nm_some {l : List B8} {n : Nat} {s' : B8} {r : RS} (h : nmR l n r = (s', false)) : ∃ i, i < l.length ∧ r = (pfx n (l.getD i []) ++ s', false) ∧ nmX l n r = (i : Int) ∧ pfx n (l.getD i []) ≠ [] := by
  obtain ⟨s, b⟩ := r
  unfold nmR at h
  unfold nmX
  simp only at h ⊢
  cases hi : nmI l n s with
  | none => rw [hi] at h; simp at h
  | some i =>
    rw [hi] at h
    simp only [Prod.mk.injEq] at h
    obtain ⟨h1, rfl⟩ := h
    unfold nmI at hi
    rw [List.findIdx?_eq_some_iff_getElem] at hi
    obtain ⟨hlt, hp, _⟩ := hi
    have hg : l.getD i [] = l[i] := by rw [List.getD_eq_getElem?_getD, List.getElem?_eq_getElem hlt]; rfl
    unfold hitB at hp
    simp only [Bool.and_eq_true, decide_eq_true_eq, List.isPrefixOf_iff_prefix] at hp
    obtain ⟨hne, t, ht⟩ := hp
    refine ⟨i, hlt, ?_, rfl, by rw [hg]; exact hne⟩
    rw [hg] at h1 ⊢
    rw [← ht, List.drop_left] at h1
    rw [← h1, ht]

/-! ### Digits -/
theorem dg_of {n : Int} (h0 : 0 ≤ n) (h1 : n ≤ 9) : (UInt8.ofNat (48 + n).toNat).toNat = (48 + n).toNat := by
  rw [UInt8.toNat_ofNat']; omega
theorem d10_nat (n : Int) : (d10 n).toNat = (48 + n / 10 % 10).toNat := dg_of (by omega) (by omega)
theorem d01_nat (n : Int) : (d01 n).toNat = (48 + n % 10).toNat := dg_of (by omega) (by omega)
theorem isDg_iff {c : UInt8} : isDg c = true ↔ 48 ≤ c.toNat ∧ c.toNat ≤ 57 := by unfold isDg; simp
theorem d10_dg (n : Int) : isDg (d10 n) = true := isDg_iff.2 (by rw [d10_nat]; omega)
theorem d01_dg (n : Int) : isDg (d01 n) = true := isDg_iff.2 (by rw [d01_nat]; omega)
theorem two_dg (n : Int) : (two n).all isDg = true := by simp [two, d10_dg, d01_dg]
theorem two_len (n : Int) : (two n).length = 2 := rfl
theorem two_val {n : Int} (h0 : 0 ≤ n) (h1 : n ≤ 99) : ((nV (two n) : Nat) : Int) = n := by
  simp only [nV, two, List.foldl_cons, List.foldl_nil, d10_nat, d01_nat]
  omega
theorem byte_ext {a b : UInt8} (h : a.toNat = b.toNat) : a = b := UInt8.toNat_inj.1 h
theorem val_two {D : B8} (h1 : D.length = 2) (h2 : D.all isDg = true) : two (nV D : Nat) = D ∧ nV D ≤ 99 := by
  match D, h1, h2 with
  | [a, b], _, h2 =>
    simp only [List.all_cons, List.all_nil, Bool.and_true, Bool.and_eq_true, isDg_iff] at h2
    obtain ⟨⟨a1, a2⟩, b1, b2⟩ := h2
    have e : nV [a, b] = (a.toNat - 48) * 10 + (b.toNat - 48) := by simp [nV]
    rw [e]
    refine ⟨?_, by omega⟩
    unfold two
    congr 1
    · apply byte_ext; rw [d10_nat]; omega
    · congr 1
      apply byte_ext; rw [d01_nat]; omega
theorem val_four {D : B8} (h1 : D.length = 4) (h2 : D.all isDg = true) : two ((nV D : Nat) / 100) ++ two ((nV D : Nat) % 100) = D ∧ nV D ≤ 9999 := by
  match D, h1, h2 with
  | [a, b, c, d], _, h2 =>
    simp only [List.all_cons, List.all_nil, Bool.and_true, Bool.and_eq_true, isDg_iff] at h2
    obtain ⟨⟨a1, a2⟩, ⟨b1, b2⟩, ⟨c1, c2⟩, d1, d2⟩ := h2
    have e : nV [a, b, c, d] = (((a.toNat - 48) * 10 + (b.toNat - 48)) * 10 + (c.toNat - 48)) * 10 + (d.toNat - 48) := by simp [nV]
    rw [e]
    refine ⟨?_, by omega⟩
    unfold two
    simp only [List.cons_append, List.nil_append]
    congr 1
    · apply byte_ext; rw [d10_nat]; omega
    · congr 1
      · apply byte_ext; rw [d01_nat]; omega
      · congr 1
        · apply byte_ext; rw [d10_nat]; omega
        · congr 1
          apply byte_ext; rw [d01_nat]; omega
theorem four_val {y : Int} (h0 : 0 ≤ y) (h1 : y ≤ 9999) : ((nV (two (y / 100) ++ two (y % 100)) : Nat) : Int) = y ∧ (two (y / 100) ++ two (y % 100)).all isDg = true ∧ (two (y / 100) ++ two (y % 100)).length = 4 := by
  refine ⟨?_, by simp [two, d10_dg, d01_dg], rfl⟩
  simp only [nV, two, List.cons_append, List.nil_append, List.foldl_cons, List.foldl_nil, d10_nat, d01_nat]
  omega
end Go.Cal

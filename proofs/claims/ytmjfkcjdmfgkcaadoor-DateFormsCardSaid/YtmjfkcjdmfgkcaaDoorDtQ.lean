/- The three forms of a time: what is read is what is written. -/
import Derived.Test.YtmjfkcjdmfgkcaaDoorDtP
set_option linter.unusedSimpArgs false
set_option linter.unusedVariables false
namespace Go.Cal

noncomputable def late (n now : Int) : Int :=
  (fun y0 : Int => (fun y : Int => (fun y : Int => if y < 1970 then y + 100 else y) (if y0 + 50 < y then y - 100 else y)) (y0 - y0 % 100 + n)) (civ (min (max now 0) 253402300799)).y
def rd1 (s : B8) : CV × RS :=
  let r0 : RS := (s, false)
  let r1 := nmR dayL 3 r0
  let r2 := mustR [44, 32] r1
  let r3 := numR 2 r2
  let r4 := mustR [32] r3
  let r5 := nmR monL 0 r4
  let r6 := mustR [32] r5
  let r7 := numR 4 r6
  let r8 := mustR [32] r7
  let r9 := numR 2 r8
  let ra := mustR [58] r9
  let rb := numR 2 ra
  let rc := mustR [58] rb
  let rd := numR 2 rc
  (⟨numX 4 r6, nmX monL 0 r4, numX 2 r2, numX 2 r8, numX 2 ra, numX 2 rc, nmX dayL 3 r0⟩, mustR [32, 71, 77, 84] rd)
noncomputable def rd2 (s : B8) (now : Int) : CV × RS :=
  let r0 : RS := (s, false)
  let r1 := nmR dayL 0 r0
  let r2 := mustR [44, 32] r1
  let r3 := numR 2 r2
  let r4 := mustR [45] r3
  let r5 := nmR monL 0 r4
  let r6 := mustR [45] r5
  let r7 := numR 2 r6
  let r8 := mustR [32] r7
  let r9 := numR 2 r8
  let ra := mustR [58] r9
  let rb := numR 2 ra
  let rc := mustR [58] rb
  let rd := numR 2 rc
  (⟨late (numX 2 r6) now, nmX monL 0 r4, numX 2 r2, numX 2 r8, numX 2 ra, numX 2 rc, nmX dayL 0 r0⟩, mustR [32, 71, 77, 84] rd)
def dyV (r : RS) : Int := if [32].isPrefixOf r.1 = true then numX 1 (mustR [32] r) else numX 2 r
def dyR (r : RS) : RS := if [32].isPrefixOf r.1 = true then numR 1 (mustR [32] r) else ((numR 2 r).1, if (numR 2 r).2 = true then true else decide (numX 2 r < 10))
def rd3 (s : B8) : CV × RS :=
  let r0 : RS := (s, false)
  let r1 := nmR dayL 3 r0
  let r2 := mustR [32] r1
  let r3 := nmR monL 0 r2
  let r4 := mustR [32] r3
  let r5 := dyR r4
  let r8 := mustR [32] r5
  let r9 := numR 2 r8
  let ra := mustR [58] r9
  let rb := numR 2 ra
  let rc := mustR [58] rb
  let rd := numR 2 rc
  let re := mustR [32] rd
  (⟨numX 4 re, nmX monL 0 r2, dyV r4, numX 2 r8, numX 2 ra, numX 2 rc, nmX dayL 3 r0⟩, numR 4 re)
structure Rng (c : CV) : Prop where
  y0 : 0 ≤ c.y
  y1 : c.y ≤ 9999
  m0 : 1 ≤ c.m
  m1 : c.m ≤ 12
  d0 : 0 ≤ c.d
  d1 : c.d ≤ 99
  h0 : 0 ≤ c.h
  h1 : c.h ≤ 99
  i0 : 0 ≤ c.i
  i1 : c.i ≤ 99
  s0 : 0 ≤ c.s
  s1 : c.s ≤ 99
  w0 : 0 ≤ c.w
  w1 : c.w ≤ 6

/-! ### Steps, where what is read stands first -/
theorem must_go (x s' : B8) : mustR x (x ++ s', false) = (s', false) := must_iff.2 rfl
theorem must_end (x : B8) : mustR x (x, false) = ([], false) := by simpa using must_go x []
theorem num_go {D : B8} (s' : B8) {n : Nat} (hn : 0 < n) (h1 : D.length = n) (h2 : D.all isDg = true) : numR n (D ++ s', false) = (s', false) := (num_iff hn).2 ⟨D, h1, h2, rfl⟩
theorem two_go (n : Int) (s' : B8) : numR 2 (two n ++ s', false) = (s', false) := num_go s' (by decide) rfl (two_dg n)
theorem two_X {n : Int} (h0 : 0 ≤ n) (h1 : n ≤ 99) (s' : B8) : numX 2 (two n ++ s', false) = n := by rw [num_val (n := 2) (two_len n) (two_dg n) (by decide), two_val h0 h1]
theorem four_go {y : Int} (h0 : 0 ≤ y) (h1 : y ≤ 9999) (s' : B8) : numR 4 ((two (y / 100) ++ two (y % 100)) ++ s', false) = (s', false) ∧ numX 4 ((two (y / 100) ++ two (y % 100)) ++ s', false) = y := by
  obtain ⟨e1, e2, e3⟩ := four_val h0 h1
  exact ⟨num_go s' (by decide) e3 e2, by rw [num_val e3 e2 (by decide), e1]⟩
theorem wcases {w : Int} (h0 : 0 ≤ w) (h1 : w ≤ 6) : w = 0 ∨ w = 1 ∨ w = 2 ∨ w = 3 ∨ w = 4 ∨ w = 5 ∨ w = 6 := by omega
theorem day3_go {w : Int} (h0 : 0 ≤ w) (h1 : w ≤ 6) (s' : B8) : nmR dayL 3 ((dayF w).take 3 ++ s', false) = (s', false) ∧ nmX dayL 3 ((dayF w).take 3 ++ s', false) = w := by
  rcases wcases h0 h1 with h | h | h | h | h | h | h <;> subst h <;> exact ⟨rfl, rfl⟩
theorem day0_go {w : Int} (h0 : 0 ≤ w) (h1 : w ≤ 6) (s' : B8) : nmR dayL 0 (dayF w ++ s', false) = (s', false) ∧ nmX dayL 0 (dayF w ++ s', false) = w := by
  rcases wcases h0 h1 with h | h | h | h | h | h | h <;> subst h <;> exact ⟨rfl, rfl⟩
theorem mon_go {m : Int} (h0 : 1 ≤ m) (h1 : m ≤ 12) (s' : B8) : nmR monL 0 (monF m ++ s', false) = (s', false) ∧ nmX monL 0 (monF m ++ s', false) = m := by
  rcases months h0 h1 with h | h | h | h | h | h | h | h | h | h | h | h <;> subst h <;> exact ⟨rfl, rfl⟩
theorem day3_from {r : RS} {s' : B8} (h : nmR dayL 3 r = (s', false)) : ∃ w : Int, 0 ≤ w ∧ w ≤ 6 ∧ r = ((dayF w).take 3 ++ s', false) ∧ nmX dayL 3 r = w := by
  obtain ⟨i, h1, h2, h3, _⟩ := nm_some h
  have h1 : i < 7 := h1
  refine ⟨i, by omega, by omega, ?_, h3⟩
  rw [h2]
  have h5 : i = 0 ∨ i = 1 ∨ i = 2 ∨ i = 3 ∨ i = 4 ∨ i = 5 ∨ i = 6 := by omega
  rcases h5 with rfl | rfl | rfl | rfl | rfl | rfl | rfl <;> rfl
theorem day0_from {r : RS} {s' : B8} (h : nmR dayL 0 r = (s', false)) : ∃ w : Int, 0 ≤ w ∧ w ≤ 6 ∧ r = (dayF w ++ s', false) ∧ nmX dayL 0 r = w := by
  obtain ⟨i, h1, h2, h3, _⟩ := nm_some h
  have h1 : i < 7 := h1
  exact ⟨i, by omega, by omega, h2, h3⟩
theorem mon_from {r : RS} {s' : B8} (h : nmR monL 0 r = (s', false)) : ∃ m : Int, 1 ≤ m ∧ m ≤ 12 ∧ r = (monF m ++ s', false) ∧ nmX monL 0 r = m := by
  obtain ⟨i, h1, h2, h3, h4⟩ := nm_some h
  have h1 : i < 13 := h1
  have h5 : i ≠ 0 := fun e => by subst e; exact h4 rfl
  exact ⟨i, by omega, by omega, h2, h3⟩
theorem two_from {r : RS} {s' : B8} (h : numR 2 r = (s', false)) : ∃ n : Int, 0 ≤ n ∧ n ≤ 99 ∧ r = (two n ++ s', false) ∧ numX 2 r = n := by
  obtain ⟨D, h1, h2, rfl⟩ := (num_iff (by decide)).1 h
  obtain ⟨h3, h4⟩ := val_two h1 h2
  exact ⟨nV D, by omega, by omega, by rw [h3], num_val h1 h2 (by decide)⟩
theorem four_from {r : RS} {s' : B8} (h : numR 4 r = (s', false)) : ∃ y : Int, 0 ≤ y ∧ y ≤ 9999 ∧ r = ((two (y / 100) ++ two (y % 100)) ++ s', false) ∧ numX 4 r = y := by
  obtain ⟨D, h1, h2, rfl⟩ := (num_iff (by decide)).1 h
  obtain ⟨h3, h4⟩ := val_four h1 h2
  exact ⟨nV D, by omega, by omega, by rw [h3], num_val h1 h2 (by decide)⟩
theorem one_val {D : B8} (h1 : D.length = 1) (h2 : D.all isDg = true) : (two (nV D : Nat)).drop 1 = D ∧ nV D ≤ 9 := by
  match D, h1, h2 with
  | [a], _, h2 =>
    simp only [List.all_cons, List.all_nil, Bool.and_true, isDg_iff] at h2
    have e : nV [a] = a.toNat - 48 := by simp [nV]
    rw [e]
    refine ⟨?_, by omega⟩
    show [d01 _] = [a]
    congr 1
    apply byte_ext; rw [d01_nat]; omega
theorem dig_ne {c : UInt8} (h : isDg c = true) {n : Nat} (hn : n < 48) : c.toNat ≠ n := by have := (isDg_iff.1 h).1; omega
theorem dy_from {r : RS} {s' : B8} (h : dyR r = (s', false)) : ∃ d : Int, 0 ≤ d ∧ d ≤ 99 ∧ r = (day3 d ++ s', false) ∧ dyV r = d := by
  unfold dyR at h
  unfold dyV
  split at h
  · rename_i hp
    rw [if_pos hp]
    obtain ⟨D, h1, h2, h3⟩ := (num_iff (by decide)).1 h
    obtain ⟨h4, h5⟩ := one_val h1 h2
    refine ⟨nV D, by omega, by omega, ?_, ?_⟩
    · rw [must_iff.1 h3]
      unfold day3
      rw [if_pos (by omega), h4]
      rfl
    · rw [h3, num_val h1 h2 (by decide)]
  · rename_i hp
    rw [if_neg hp]
    simp only [Prod.mk.injEq] at h
    obtain ⟨h1, h2⟩ := h
    split at h2
    · cases h2
    · rename_i h3
      have h3 : (numR 2 r).2 = false := by simpa using h3
      obtain ⟨n, g1, g2, g3, g4⟩ := two_from (r := r) (s' := s') (Prod.ext h1 h3)
      rw [g4] at h2
      simp only [decide_eq_false_iff_not] at h2
      refine ⟨n, g1, g2, ?_, g4⟩
      rw [g3]
      unfold day3
      rw [if_neg (by omega)]
theorem dy_go {d : Int} (h0 : 0 ≤ d) (h1 : d ≤ 99) (s' : B8) : dyR (day3 d ++ s', false) = (s', false) ∧ dyV (day3 d ++ s', false) = d := by
  unfold day3
  by_cases h : d < 10
  · rw [if_pos h]
    have hp : [32].isPrefixOf ((32 :: (two d).drop 1) ++ s') = true := rfl
    have h2 : ((two d).drop 1).all isDg = true := by simp [two, d01_dg]
    have e : nV ((two d).drop 1) = d.toNat := by
      show nV [d01 d] = _
      simp only [nV, List.foldl_cons, List.foldl_nil, d01_nat]
      omega
    have hm : mustR [32] ((32 :: (two d).drop 1) ++ s', false) = ((two d).drop 1 ++ s', false) := must_go [32] ((two d).drop 1 ++ s')
    unfold dyR dyV
    simp only [hp, if_true, hm]
    exact ⟨num_go s' (by decide) rfl h2, by rw [num_val (n := 1) rfl h2 (by decide), e]; omega⟩
  · rw [if_neg h]
    have hp : [32].isPrefixOf (two d ++ s') = false := by
      show (32 == d10 d && _) = false
      have : (32 == d10 d) = false := by
        rw [beq_eq_false_iff_ne]
        intro e
        exact dig_ne (d10_dg d) (n := 32) (by decide) (by rw [← e]; rfl)
      rw [this]; rfl
    unfold dyR dyV
    simp only [hp, Bool.false_eq_true, if_false, two_go, two_X h0 h1]
    exact ⟨by rw [decide_eq_false h], trivial⟩

theorem rd1_from {s : B8} (h : (rd1 s).2 = ([], false)) : Rng (rd1 s).1 ∧ s = form1 (rd1 s).1 := by
  unfold rd1 at h ⊢
  simp only at h ⊢
  have k1 := must_iff.1 h
  obtain ⟨n1, a1, b1, k2, x1⟩ := two_from k1
  have k3 := must_iff.1 k2
  obtain ⟨n2, a2, b2, k4, x2⟩ := two_from k3
  have k5 := must_iff.1 k4
  obtain ⟨n3, a3, b3, k6, x3⟩ := two_from k5
  have k7 := must_iff.1 k6
  obtain ⟨n4, a4, b4, k8, x4⟩ := four_from k7
  have k9 := must_iff.1 k8
  obtain ⟨n5, a5, b5, k10, x5⟩ := mon_from k9
  have k11 := must_iff.1 k10
  obtain ⟨n6, a6, b6, k12, x6⟩ := two_from k11
  have k13 := must_iff.1 k12
  obtain ⟨n7, a7, b7, k14, x7⟩ := day3_from k13
  rw [x1, x2, x3, x4, x5, x6, x7]
  refine ⟨⟨a4, b4, a5, b5, a6, b6, a3, b3, a2, b2, a1, b1, a7, b7⟩, ?_⟩
  have := congrArg Prod.fst k14
  simp only at this
  rw [this]
  simp only [form1, clk, List.append_assoc, List.append_nil]
theorem rd1_go {c : CV} (h : Rng c) : rd1 (form1 c) = (c, [], false) := by
  have e : form1 c = (dayF c.w).take 3 ++ ([44, 32] ++ (two c.d ++ ([32] ++ (monF c.m ++ ([32] ++ ((two (c.y / 100) ++ two (c.y % 100)) ++ ([32] ++ (two c.h ++ ([58] ++ (two c.i ++ ([58] ++ (two c.s ++ [32, 71, 77, 84])))))))))))) := by
    simp only [form1, clk, List.append_assoc]
  unfold rd1
  simp only [e, day3_go h.w0 h.w1, must_go, must_end, two_go, two_X h.d0 h.d1, two_X h.h0 h.h1, two_X h.i0 h.i1, two_X h.s0 h.s1, mon_go h.m0 h.m1, four_go h.y0 h.y1]
theorem rd2_from {s : B8} {now : Int} (h : (rd2 s now).2 = ([], false)) : ∃ n : Int, 0 ≤ n ∧ n ≤ 99 ∧ (rd2 s now).1.y = late n now ∧ Rng { (rd2 s now).1 with y := n } ∧ s = form2 { (rd2 s now).1 with y := n } := by
  unfold rd2 at h ⊢
  simp only at h ⊢
  have k1 := must_iff.1 h
  obtain ⟨n1, a1, b1, k2, x1⟩ := two_from k1
  have k3 := must_iff.1 k2
  obtain ⟨n2, a2, b2, k4, x2⟩ := two_from k3
  have k5 := must_iff.1 k4
  obtain ⟨n3, a3, b3, k6, x3⟩ := two_from k5
  have k7 := must_iff.1 k6
  obtain ⟨n4, a4, b4, k8, x4⟩ := two_from k7
  have k9 := must_iff.1 k8
  obtain ⟨n5, a5, b5, k10, x5⟩ := mon_from k9
  have k11 := must_iff.1 k10
  obtain ⟨n6, a6, b6, k12, x6⟩ := two_from k11
  have k13 := must_iff.1 k12
  obtain ⟨n7, a7, b7, k14, x7⟩ := day0_from k13
  rw [x1, x2, x3, x4, x5, x6, x7]
  refine ⟨n4, a4, b4, rfl, ⟨a4, Int.le_trans b4 (by decide), a5, b5, a6, b6, a3, b3, a2, b2, a1, b1, a7, b7⟩, ?_⟩
  have := congrArg Prod.fst k14
  simp only at this
  rw [this]
  simp only [form2, clk, List.append_assoc, List.append_nil, show n4 % 100 = n4 by omega]
theorem rd2_go {c : CV} {now : Int} (h : Rng c) : rd2 (form2 c) now = ({ c with y := late (c.y % 100) now }, [], false) := by
  have e : form2 c = dayF c.w ++ ([44, 32] ++ (two c.d ++ ([45] ++ (monF c.m ++ ([45] ++ (two (c.y % 100) ++ ([32] ++ (two c.h ++ ([58] ++ (two c.i ++ ([58] ++ (two c.s ++ [32, 71, 77, 84])))))))))))) := by
    simp only [form2, clk, List.append_assoc]
  unfold rd2
  simp only [e, day0_go h.w0 h.w1, must_go, must_end, two_go, two_X h.d0 h.d1, two_X h.h0 h.h1, two_X h.i0 h.i1, two_X h.s0 h.s1, mon_go h.m0 h.m1, two_X (n := c.y % 100) (by omega) (by omega)]
theorem rd3_from {s : B8} (h : (rd3 s).2 = ([], false)) : Rng (rd3 s).1 ∧ s = form3 (rd3 s).1 := by
  unfold rd3 at h ⊢
  simp only at h ⊢
  obtain ⟨n4, a4, b4, k0, x4⟩ := four_from h
  have k1 := must_iff.1 k0
  obtain ⟨n1, a1, b1, k2, x1⟩ := two_from k1
  have k3 := must_iff.1 k2
  obtain ⟨n2, a2, b2, k4, x2⟩ := two_from k3
  have k5 := must_iff.1 k4
  obtain ⟨n3, a3, b3, k6, x3⟩ := two_from k5
  have k7 := must_iff.1 k6
  obtain ⟨n6, a6, b6, k8, x6⟩ := dy_from k7
  have k9 := must_iff.1 k8
  obtain ⟨n5, a5, b5, k10, x5⟩ := mon_from k9
  have k11 := must_iff.1 k10
  obtain ⟨n7, a7, b7, k12, x7⟩ := day3_from k11
  rw [x1, x2, x3, x4, x5, x6, x7]
  refine ⟨⟨a4, b4, a5, b5, a6, b6, a3, b3, a2, b2, a1, b1, a7, b7⟩, ?_⟩
  have := congrArg Prod.fst k12
  simp only at this
  rw [this]
  simp only [form3, clk, List.append_assoc, List.append_nil]
theorem rd3_go {c : CV} (h : Rng c) : rd3 (form3 c) = (c, [], false) := by
  have e : form3 c = (dayF c.w).take 3 ++ ([32] ++ (monF c.m ++ ([32] ++ (day3 c.d ++ ([32] ++ (two c.h ++ ([58] ++ (two c.i ++ ([58] ++ (two c.s ++ ([32] ++ ((two (c.y / 100) ++ two (c.y % 100)) ++ [])))))))))))) := by
    simp only [form3, clk, List.append_assoc, List.append_nil]
  unfold rd3
  simp only [e, day3_go h.w0 h.w1, must_go, dy_go h.d0 h.d1, two_go, two_X h.h0 h.h1, two_X h.i0 h.i1, two_X h.s0 h.s1, mon_go h.m0 h.m1, four_go h.y0 h.y1]

/-! ### The whole -/
def fine (a : CV × RS) : Bool := !a.2.2 && decide (a.2.1 = []) && okS a.1
theorem fine_iff {a : CV × RS} : fine a = true ↔ a.2 = ([], false) ∧ okS a.1 = true := by
  obtain ⟨c, r, b⟩ := a
  cases b <;> simp [fine, Prod.ext_iff]
noncomputable def prsV (s : B8) (now : Int) : Int := if fine (rd1 s) = true then secN (rd1 s).1 else if fine (rd2 s now) = true then secN (rd2 s now).1 else if fine (rd3 s) = true then secN (rd3 s).1 else 0
noncomputable def prsE (s : B8) (now : Int) : Int := if fine (rd1 s) = true then 0 else if fine (rd2 s now) = true then 0 else if fine (rd3 s) = true then 0 else 4
structure Acc (s : B8) (now : Int) (c : CV) : Prop where
  ok : okS c = true
  form : s = form1 c ∨ (s = form2 c ∧ c.y = late (c.y % 100) now) ∨ s = form3 c
theorem rng_of {c : CV} (h : okS c = true) : Rng c := by
  obtain ⟨hv, h1, h2, h3, h4, h5, h6, h7⟩ := okS_iff.1 h
  have := lenM_pos (leapB c.y) hv.m0 hv.m1
  have := hv.d1
  have := hv.d0
  have := hv.y0
  have := hv.y1
  exact ⟨by omega, by omega, hv.m0, hv.m1, by omega, by omega, by omega, by omega, by omega, by omega, by omega, by omega, by omega, by omega⟩
theorem at3_1 (c : CV) (h : Rng c) : (form1 c)[3]? = some 44 := by
  rcases wcases h.w0 h.w1 with e | e | e | e | e | e | e <;> (unfold form1; rw [e]; rfl)
theorem at3_3 (c : CV) (h : Rng c) : (form3 c)[3]? = some 32 := by
  rcases wcases h.w0 h.w1 with e | e | e | e | e | e | e <;> (unfold form3; rw [e]; rfl)
theorem at3_2 (c : CV) (h : Rng c) : (form2 c)[3]? ≠ some 44 ∧ (form2 c)[3]? ≠ some 32 := by
  rcases wcases h.w0 h.w1 with e | e | e | e | e | e | e <;> (unfold form2; rw [e]; exact ⟨(fun h => by cases h), (fun h => by cases h)⟩)
theorem form2_y (c : CV) (n : Int) (h : n % 100 = c.y % 100) : form2 { c with y := n } = form2 c := by
  unfold form2 clk; simp only [h]
theorem acc1 {s : B8} {now : Int} (h : fine (rd1 s) = true) : Acc s now (rd1 s).1 := by
  obtain ⟨h1, h2⟩ := fine_iff.1 h
  exact ⟨h2, .inl (rd1_from h1).2⟩
theorem late_y {n now : Int} (h0 : 0 ≤ n) (h1 : n ≤ 99) : late n now % 100 = n := by
  unfold late
  simp only
  split <;> split <;> omega
theorem acc2 {s : B8} {now : Int} (h : fine (rd2 s now) = true) : Acc s now (rd2 s now).1 := by
  obtain ⟨h1, h2⟩ := fine_iff.1 h
  obtain ⟨n, a, b, e, _, hs⟩ := rd2_from h1
  have hl := late_y (now := now) a b
  refine ⟨h2, .inr (.inl ⟨?_, ?_⟩)⟩
  · rw [form2_y _ n (by rw [e, hl]; omega)] at hs; exact hs
  · rw [e, hl]
theorem acc3 {s : B8} {now : Int} (h : fine (rd3 s) = true) : Acc s now (rd3 s).1 := by
  obtain ⟨h1, h2⟩ := fine_iff.1 h
  exact ⟨h2, .inr (.inr (rd3_from h1).2)⟩
theorem prs_acc {s : B8} {now : Int} {c : CV} (h : Acc s now c) : prsV s now = secN c ∧ prsE s now = 0 := by
  have hr := rng_of h.ok
  have f1 : ∀ c', s = form1 c' → Rng c' → s[3]? = some 44 := fun c' e hc => by rw [e]; exact at3_1 c' hc
  have no1 : s[3]? ≠ some 44 → ¬ fine (rd1 s) = true := fun hn hf => by
    have h1 := (fine_iff.1 hf).1
    exact hn (f1 _ (rd1_from h1).2 (rd1_from h1).1)
  have no2 : s[3]? = some 32 → ¬ fine (rd2 s now) = true := fun hn hf => by
    obtain ⟨n, _, _, _, h3, h4⟩ := rd2_from (fine_iff.1 hf).1
    exact (at3_2 _ h3).2 (h4 ▸ hn)
  unfold prsV prsE
  rcases h.form with e | ⟨e, hy⟩ | e
  · have hf : rd1 s = (c, [], false) := by rw [e]; exact rd1_go hr
    have : fine (rd1 s) = true := fine_iff.2 (by rw [hf]; exact ⟨rfl, h.ok⟩)
    rw [if_pos this, if_pos this, hf]; exact ⟨rfl, rfl⟩
  · have n1 := no1 (by rw [e]; exact (at3_2 c hr).1)
    have hf : rd2 s now = (c, [], false) := by
      rw [e, rd2_go hr, ← hy]
    have : fine (rd2 s now) = true := fine_iff.2 (by rw [hf]; exact ⟨rfl, h.ok⟩)
    rw [if_neg n1, if_neg n1, if_pos this, if_pos this, hf]; exact ⟨rfl, rfl⟩
  · have h3 : s[3]? = some 32 := by rw [e]; exact at3_3 c hr
    have n1 := no1 (by rw [h3]; intro hh; cases hh)
    have n2 := no2 h3
    have hf : rd3 s = (c, [], false) := by rw [e]; exact rd3_go hr
    have : fine (rd3 s) = true := fine_iff.2 (by rw [hf]; exact ⟨rfl, h.ok⟩)
    rw [if_neg n1, if_neg n1, if_neg n2, if_neg n2, if_pos this, if_pos this, hf]; exact ⟨rfl, rfl⟩
theorem prs_cases (s : B8) (now : Int) : (∃ c, Acc s now c ∧ prsV s now = secN c ∧ prsE s now = 0) ∨ ((∀ c, ¬ Acc s now c) ∧ prsV s now = 0 ∧ prsE s now = 4) := by
  by_cases h : ∃ c, Acc s now c
  · obtain ⟨c, hc⟩ := h
    exact .inl ⟨c, hc, prs_acc hc⟩
  · right
    refine ⟨fun c hc => h ⟨c, hc⟩, ?_⟩
    unfold prsV prsE
    rw [if_neg (fun hf => h ⟨_, acc1 hf⟩), if_neg (fun hf => h ⟨_, acc1 hf⟩), if_neg (fun hf => h ⟨_, acc2 hf⟩), if_neg (fun hf => h ⟨_, acc2 hf⟩), if_neg (fun hf => h ⟨_, acc3 (now := now) hf⟩), if_neg (fun hf => h ⟨_, acc3 (now := now) hf⟩)]
    exact ⟨rfl, rfl⟩
theorem acc_uniq {s : B8} {now : Int} {c c' : CV} (h : Acc s now c) (h' : Acc s now c') : c = c' :=
  sec_inj h.ok h'.ok ((prs_acc h).1.symm.trans (prs_acc h').1)
end Go.Cal

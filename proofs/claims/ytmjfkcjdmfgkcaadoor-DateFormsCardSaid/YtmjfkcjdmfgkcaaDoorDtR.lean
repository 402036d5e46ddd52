/- The document's way to read a time: the same. -/
import Derived.Test.YtmjfkcjdmfgkcaaDoorDtQ
set_option linter.unusedSimpArgs false
set_option linter.unusedVariables false
namespace Go.Cal

def rnum (s : B8) (i n : Nat) : Int := if ((s.drop i).take n).length = n ∧ ((s.drop i).take n).all isDg = true then nV ((s.drop i).take n) else -1
def rwh (s : B8) (i : Nat) : Int := match (monL.drop 1).findIdx? (fun x => decide ((s.drop i).take 3 = x)) with | some k => (k : Int) + 1 | none => 0
def cm (s : B8) : Nat := (s.takeWhile fun c => decide (c ≠ 44)).length
def rA (s : B8) : CV := ⟨rnum s 12 4, rwh s 8, rnum s 5 2, rnum s 17 2, rnum s 20 2, rnum s 23 2, 0⟩
def rBd (s : B8) : Int := if 9 < s.length ∧ s.getD 8 0 = 32 then rnum s 9 1 else rnum s 8 2
def rB (s : B8) : CV := ⟨rnum s 20 4, rwh s 4, rBd s, rnum s 11 2, rnum s 14 2, rnum s 17 2, 0⟩
noncomputable def rC (s : B8) (now : Int) : CV := ⟨late (rnum s (cm s + 9) 2) now, rwh s (cm s + 5), rnum s (cm s + 2) 2, rnum s (cm s + 12) 2, rnum s (cm s + 15) 2, rnum s (cm s + 18) 2, 0⟩
def wk (c : CV) : CV := { c with w := (dayN c.y c.m c.d + 4) % 7 }
structure Hit (s : B8) (c : CV) : Prop where
  ok : okS (wk c) = true
  form : s = form1 (wk c) ∨ s = form2 (wk c) ∨ s = form3 (wk c)
theorem months3 {m : Int} (h0 : 1 ≤ m) (h1 : m ≤ 12) : ∃ a b c, monF m = [a, b, c] := by
  rcases months h0 h1 with h | h | h | h | h | h | h | h | h | h | h | h <;> subst h <;> exact ⟨_, _, _, rfl⟩
theorem days3 {w : Int} (h0 : 0 ≤ w) (h1 : w ≤ 6) : ∃ a b c, (dayF w).take 3 = [a, b, c] := by
  rcases wcases h0 h1 with h | h | h | h | h | h | h <;> subst h <;> exact ⟨_, _, _, rfl⟩
theorem form1_at {c : CV} {x y z a b g : UInt8} (hd : (dayF c.w).take 3 = [x, y, z]) (hm : monF c.m = [a, b, g]) : form1 c = [x, y, z, 44, 32, d10 c.d, d01 c.d, 32, a, b, g, 32, d10 (c.y / 100), d01 (c.y / 100), d10 (c.y % 100), d01 (c.y % 100), 32, d10 c.h, d01 c.h, 58, d10 c.i, d01 c.i, 58, d10 c.s, d01 c.s, 32, 71, 77, 84] := by
  unfold form1 clk; rw [hd, hm]; rfl
theorem form2_at {c : CV} {a b g : UInt8} (hm : monF c.m = [a, b, g]) : form2 c = dayF c.w ++ [44, 32, d10 c.d, d01 c.d, 45, a, b, g, 45, d10 (c.y % 100), d01 (c.y % 100), 32, d10 c.h, d01 c.h, 58, d10 c.i, d01 c.i, 58, d10 c.s, d01 c.s, 32, 71, 77, 84] := by
  unfold form2 clk; rw [hm]; simp only [List.append_assoc]; rfl
theorem form3_at {c : CV} {x y z a b g p q : UInt8} (hd : (dayF c.w).take 3 = [x, y, z]) (hm : monF c.m = [a, b, g]) (h3 : day3 c.d = [p, q]) : form3 c = [x, y, z, 32, a, b, g, 32, p, q, 32, d10 c.h, d01 c.h, 58, d10 c.i, d01 c.i, 58, d10 c.s, d01 c.s, 32, d10 (c.y / 100), d01 (c.y / 100), d10 (c.y % 100), d01 (c.y % 100)] := by
  unfold form3 clk; rw [hd, hm, h3]; rfl
theorem rwh_of {s : B8} {i : Nat} {m : Int} (h0 : 1 ≤ m) (h1 : m ≤ 12) (h : (s.drop i).take 3 = monF m) : rwh s i = m := by
  unfold rwh
  rw [h]
  rcases months h0 h1 with h | h | h | h | h | h | h | h | h | h | h | h <;> subst h <;> rfl
theorem rnum_two {s : B8} {i : Nat} {n : Int} (h0 : 0 ≤ n) (h1 : n ≤ 99) (h : (s.drop i).take 2 = two n) : rnum s i 2 = n := by
  unfold rnum
  rw [h, if_pos ⟨rfl, two_dg n⟩, two_val h0 h1]
theorem rnum_four {s : B8} {i : Nat} {y : Int} (h0 : 0 ≤ y) (h1 : y ≤ 9999) (h : (s.drop i).take 4 = two (y / 100) ++ two (y % 100)) : rnum s i 4 = y := by
  obtain ⟨e1, e2, e3⟩ := four_val h0 h1
  unfold rnum
  rw [h, if_pos ⟨e3, e2⟩, e1]
theorem rnum_neg {s : B8} {i n : Nat} {c : UInt8} (h : c ∈ (s.drop i).take n) (hc : isDg c = false) : rnum s i n = -1 := by
  unfold rnum
  rw [if_neg]
  rintro ⟨_, h2⟩
  rw [List.all_eq_true] at h2
  have := h2 c h
  rw [hc] at this; cases this
theorem wk_of {c : CV} (h : okS c = true) (w : Int) : wk { c with w := w } = c := by
  obtain ⟨_, _, _, _, _, _, _, h7⟩ := okS_iff.1 h
  unfold wk
  simp only [← h7]
theorem rA_of {c : CV} (h : okS c = true) : wk (rA (form1 c)) = c := by
  have r := rng_of h
  obtain ⟨a, b, g, hm⟩ := months3 r.m0 r.m1
  have e : rA (form1 c) = { c with w := 0 } := by
    unfold rA
    obtain ⟨x, y, z, hx⟩ := days3 r.w0 r.w1
    rw [form1_at hx hm]
    rw [rnum_four (y := c.y) r.y0 r.y1 rfl, rwh_of r.m0 r.m1 (by rw [hm]; rfl), rnum_two (n := c.d) r.d0 r.d1 rfl, rnum_two (n := c.h) r.h0 r.h1 rfl, rnum_two (n := c.i) r.i0 r.i1 rfl, rnum_two (n := c.s) r.s0 r.s1 rfl]
  rw [e]; exact wk_of h 0
theorem rB_of {c : CV} (h : okS c = true) : wk (rB (form3 c)) = c := by
  have r := rng_of h
  obtain ⟨a, b, g, hm⟩ := months3 r.m0 r.m1
  have e : rB (form3 c) = { c with w := 0 } := by
    unfold rB rBd
    by_cases hd : c.d < 10
    · have h3 : day3 c.d = [32, d01 c.d] := by unfold day3; rw [if_pos hd]; rfl
      have hone : nV [d01 c.d] = c.d.toNat := by
        simp only [nV, List.foldl_cons, List.foldl_nil, d01_nat]
        have := r.d0
        omega
      obtain ⟨x, y, z, hx⟩ := days3 r.w0 r.w1
      rw [form3_at hx hm h3]
      have h9 : rnum [x, y, z, 32, a, b, g, 32, 32, d01 c.d, 32, d10 c.h, d01 c.h, 58, d10 c.i, d01 c.i, 58, d10 c.s, d01 c.s, 32, d10 (c.y / 100), d01 (c.y / 100), d10 (c.y % 100), d01 (c.y % 100)] 9 1 = c.d := by
        unfold rnum
        refine (if_pos ⟨rfl, ?_⟩).trans ?_
        · show ((nV [d01 c.d] : Nat) : Int) = c.d
          rw [hone]; have := r.d0; omega
        · show ([d01 c.d] : B8).all isDg = true
          simp [d01_dg]
      rw [rnum_four (y := c.y) r.y0 r.y1 rfl, rwh_of r.m0 r.m1 (by rw [hm]; rfl), if_pos ⟨by simp, rfl⟩, h9, rnum_two (n := c.h) r.h0 r.h1 rfl, rnum_two (n := c.i) r.i0 r.i1 rfl, rnum_two (n := c.s) r.s0 r.s1 rfl]
    · have h3 : day3 c.d = [d10 c.d, d01 c.d] := by unfold day3; rw [if_neg hd]; rfl
      obtain ⟨x, y, z, hx⟩ := days3 r.w0 r.w1
      rw [form3_at hx hm h3]
      rw [rnum_four (y := c.y) r.y0 r.y1 rfl, rwh_of r.m0 r.m1 (by rw [hm]; rfl), if_neg ?_, rnum_two (n := c.d) r.d0 r.d1 rfl, rnum_two (n := c.h) r.h0 r.h1 rfl, rnum_two (n := c.i) r.i0 r.i1 rfl, rnum_two (n := c.s) r.s0 r.s1 rfl]
      rintro ⟨_, hh⟩
      have hh : d10 c.d = 32 := hh
      exact dig_ne (d10_dg c.d) (n := 32) (by decide) (by rw [hh]; rfl)
  rw [e]; exact wk_of h 0
theorem cm_of {c : CV} (w0 : 0 ≤ c.w) (w1 : c.w ≤ 6) : cm (form2 c) = (dayF c.w).length := by
  rcases wcases w0 w1 with e | e | e | e | e | e | e <;> (unfold cm form2; rw [e]; rfl)
theorem rCn_of {c : CV} (h : Rng c) : rnum (form2 c) (cm (form2 c) + 9) 2 = c.y % 100 := by
  obtain ⟨a, b, g, hm⟩ := months3 h.m0 h.m1
  rw [cm_of h.w0 h.w1]
  rcases wcases h.w0 h.w1 with e | e | e | e | e | e | e <;>
  · rw [form2_at hm, e]
    exact rnum_two (n := c.y % 100) (by omega) (by omega) rfl
theorem rC_of {c : CV} {now : Int} (h : okS c = true) (hy : c.y = late (c.y % 100) now) : wk (rC (form2 c) now) = c := by
  have r := rng_of h
  obtain ⟨a, b, g, hm⟩ := months3 r.m0 r.m1
  have e : rC (form2 c) now = { c with w := 0 } := by
    unfold rC
    rw [rCn_of r, ← hy, cm_of r.w0 r.w1]
    rcases wcases r.w0 r.w1 with e | e | e | e | e | e | e <;>
    · rw [form2_at hm, e]
      rw [rwh_of r.m0 r.m1 (by rw [hm]; rfl), rnum_two (n := c.d) r.d0 r.d1 rfl, rnum_two (n := c.h) r.h0 r.h1 rfl, rnum_two (n := c.i) r.i0 r.i1 rfl, rnum_two (n := c.s) r.s0 r.s1 rfl]
  rw [e]; exact wk_of h 0
theorem no12 {c : CV} (h : Rng c) : rnum (form2 c) 12 4 = -1 := by
  obtain ⟨a, b, g, hm⟩ := months3 h.m0 h.m1
  refine rnum_neg (c := 45) ?_ rfl
  rcases wcases h.w0 h.w1 with e | e | e | e | e | e | e <;>
  · rw [form2_at hm, e]
    simp [dayF, dayL]
theorem no20 {c : CV} (h : Rng c) : rnum (form2 c) 20 4 = -1 := by
  obtain ⟨a, b, g, hm⟩ := months3 h.m0 h.m1
  refine rnum_neg (c := 58) ?_ rfl
  rcases wcases h.w0 h.w1 with e | e | e | e | e | e | e <;>
  · rw [form2_at hm, e]
    simp [dayF, dayL]
theorem htA {s : B8} {now : Int} (h : Hit s (rA s)) : Acc s now (wk (rA s)) := by
  refine ⟨h.ok, ?_⟩
  rcases h.form with e | e | e
  · exact .inl e
  · exfalso
    have h1 := no12 (rng_of h.ok)
    rw [← e] at h1
    have h2 : (wk (rA s)).y = rnum s 12 4 := rfl
    have := (okS_iff.1 h.ok).1.y0
    omega
  · exact .inr (.inr e)
theorem htB {s : B8} {now : Int} (h : Hit s (rB s)) : Acc s now (wk (rB s)) := by
  refine ⟨h.ok, ?_⟩
  rcases h.form with e | e | e
  · exact .inl e
  · exfalso
    have h1 := no20 (rng_of h.ok)
    rw [← e] at h1
    have h2 : (wk (rB s)).y = rnum s 20 4 := rfl
    have := (okS_iff.1 h.ok).1.y0
    omega
  · exact .inr (.inr e)
theorem htC {s : B8} {now : Int} (h : Hit s (rC s now)) : Acc s now (wk (rC s now)) := by
  refine ⟨h.ok, ?_⟩
  rcases h.form with e | e | e
  · exact .inl e
  · refine .inr (.inl ⟨e, ?_⟩)
    have h1 := rCn_of (rng_of h.ok)
    rw [← e] at h1
    rw [← h1]
    rfl
  · exact .inr (.inr e)
open Classical in
noncomputable def rprsV (s : B8) (now : Int) : Int := if Hit s (rA s) then secN (wk (rA s)) else if Hit s (rB s) then secN (wk (rB s)) else if 0 ≤ rnum s (cm s + 9) 2 ∧ Hit s (rC s now) then secN (wk (rC s now)) else 0
open Classical in
noncomputable def rprsE (s : B8) (now : Int) : Int := if Hit s (rA s) then 0 else if Hit s (rB s) then 0 else if 0 ≤ rnum s (cm s + 9) 2 ∧ Hit s (rC s now) then 0 else 4
theorem rprs_eq (s : B8) (now : Int) : rprsV s now = prsV s now ∧ rprsE s now = prsE s now := by
  unfold rprsV rprsE
  by_cases h1 : Hit s (rA s)
  · rw [if_pos h1, if_pos h1, (prs_acc (htA h1)).1, (prs_acc (htA (now := now) h1)).2]; exact ⟨rfl, rfl⟩
  rw [if_neg h1, if_neg h1]
  by_cases h2 : Hit s (rB s)
  · rw [if_pos h2, if_pos h2, (prs_acc (htB h2)).1, (prs_acc (htB (now := now) h2)).2]; exact ⟨rfl, rfl⟩
  rw [if_neg h2, if_neg h2]
  by_cases h3 : 0 ≤ rnum s (cm s + 9) 2 ∧ Hit s (rC s now)
  · rw [if_pos h3, if_pos h3, (prs_acc (htC h3.2)).1, (prs_acc (htC h3.2)).2]; exact ⟨rfl, rfl⟩
  rw [if_neg h3, if_neg h3]
  rcases prs_cases s now with ⟨c, hc, _⟩ | ⟨_, e1, e2⟩
  · exfalso
    have hr := rng_of hc.ok
    rcases hc.form with e | ⟨e, hy⟩ | e
    · exact h1 ⟨by rw [e, rA_of hc.ok]; exact hc.ok, .inl (by rw [e, rA_of hc.ok])⟩
    · refine h3 ⟨?_, by rw [e, rC_of hc.ok hy]; exact hc.ok, .inr (.inl (by rw [e, rC_of hc.ok hy]))⟩
      rw [e, rCn_of hr]; omega
    · exact h2 ⟨by rw [e, rB_of hc.ok]; exact hc.ok, .inr (.inr (by rw [e, rB_of hc.ok]))⟩
  · exact ⟨e1.symm, e2.symm⟩
end Go.Cal

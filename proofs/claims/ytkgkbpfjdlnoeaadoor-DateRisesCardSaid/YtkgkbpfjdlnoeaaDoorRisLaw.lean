/- The law of seconds and days. -/
import Derived.Test.YtkgkbpfjdlnoeaaDoorCiv0
import Derived.Test.YtkgkbpfjdlnoeaaDoorCiv1
import Derived.Test.YtkgkbpfjdlnoeaaDoorCiv2
import Derived.Test.YtkgkbpfjdlnoeaaDoorRisWsame
import Derived.Test.YtkgkbpfjdlnoeaaDoorRisWcar
import Derived.Test.YtkgkbpfjdlnoeaaDoorRisWhour
namespace Go.Proofs.YtkgkbpfjdlnoeaaDoor
open Go Go.Ve Go.Cal
set_option maxRecDepth 20000

theorem rises_law (t : Int) : CW env 3 [.int .i64 t] [] fun v ch => v = .bool true ∧ ch = none := by
  by_cases h0 : t < 0
  · exact rises_lo t (decide_eq_true h0)
  by_cases h1 : t > 253402214399
  · exact rises_hi t (decide_eq_false h0) (decide_eq_true h1)
  have w0 : 0 ≤ t := by omega
  have w1 : t ≤ 253402214399 := by omega
  obtain ⟨_, v0, _, _, ⟨y, m, d, hv, e, _⟩, _⟩ := civil_ex0 t w0 (by omega)
  obtain ⟨_, v1, _, _, ⟨y', m', d', hv', e', _⟩, _⟩ := civil_ex0 (t + 1) (by omega) (by omega)
  obtain ⟨_, v2, _, _, ⟨y2, m2, d2, hv2, e2, _⟩, _⟩ := civil_ex0 (t + 86400) (by omega) (by omega)
  have ca := civil_ok0 t w0 (by omega)
  have cb := civil_ok1 (t + 1) (by omega) (by omega)
  have cc := civil_ok2 (t + 86400) (by omega) (by omega)
  rw [dt_eq hv e] at ca
  simp only [dt_eq hv' e'] at cb
  simp only [dt_eq hv2 e2] at cc
  have cd := fun H => days_ok y m d hv H
  rw [e] at cd
  have hd31 := lenM_pos (leapB y) hv.m0 hv.m1
  have hd0 := hv.d0
  have hd1 := hv.d1
  have nd := next_day hv hv2 (by rw [e, e2]; omega)
  have kd : (d2 == d + 1) = true ∨ ((d2 == d + 1) = false ∧ (d2 == 1) = true) := by
    by_cases hk : d2 = d + 1
    · left; simp [hk]
    · right; exact ⟨by simp [hk], by simp; omega⟩
  have kw : (((t + 86400) / 86400 + 4) % 7 == ((t / 86400 + 4) % 7 + 1) % 7) = true := by rw [beq_iff_eq]; omega
  have kh : ((t + 86400) % 86400 / 3600 == t % 86400 / 3600) = true := by rw [beq_iff_eq]; omega
  have km : ((t + 86400) % 86400 % 3600 / 60 == t % 86400 % 3600 / 60) = true := by rw [beq_iff_eq]; omega
  have ks : ((t + 86400) % 86400 % 60 == t % 86400 % 60) = true := by rw [beq_iff_eq]; omega
  have kn : (t / 86400 == t / 86400) = true := by simp
  by_cases h59 : t % 86400 % 60 = 59
  · have k1 : decide (t % 86400 % 60 < 59) = false := decide_eq_false (by omega)
    have k6 : (t % 86400 % 60 == 59) = true := by rw [beq_iff_eq]; exact h59
    have k2 : ((t + 1) % 86400 % 60 == 0) = true := by rw [beq_iff_eq]; omega
    by_cases hm : (t + 1) % 86400 % 3600 / 60 = t % 86400 % 3600 / 60 + 1
    · have k3 : ((t + 1) % 86400 % 3600 / 60 == t % 86400 % 3600 / 60 + 1) = true := by rw [beq_iff_eq]; exact hm
      rcases kd with kd | ⟨kd, kd1⟩
      · exact rises_car1 t _ _ _ _ _ _ _ _ _ _ _ _ _ _ _ _ _ _ _ _ _ _ (decide_eq_false h0) (decide_eq_false h1) w0 w1 ca cb cc cd (by omega) (by omega) (by omega) (show 0 ≤ d ∧ d ≤ 31 by omega) kw kh km ks kn k1 k6 k2 k3 kd
      · exact rises_car0 t _ _ _ _ _ _ _ _ _ _ _ _ _ _ _ _ _ _ _ _ _ _ (decide_eq_false h0) (decide_eq_false h1) w0 w1 ca cb cc cd (by omega) (by omega) (by omega) (show 0 ≤ d ∧ d ≤ 31 by omega) kw kh km ks kn k1 k6 k2 k3 kd kd1
    · have k3 : ((t + 1) % 86400 % 3600 / 60 == t % 86400 % 3600 / 60 + 1) = false := by rw [beq_eq_false_iff_ne]; exact hm
      have k4 : ((t + 1) % 86400 % 3600 / 60 == 0) = true := by rw [beq_iff_eq]; omega
      have k5 : (t % 86400 % 3600 / 60 == 59) = true := by rw [beq_iff_eq]; omega
      rcases kd with kd | ⟨kd, kd1⟩
      · exact rises_hour1 t _ _ _ _ _ _ _ _ _ _ _ _ _ _ _ _ _ _ _ _ _ _ (decide_eq_false h0) (decide_eq_false h1) w0 w1 ca cb cc cd (by omega) (by omega) (by omega) (show 0 ≤ d ∧ d ≤ 31 by omega) kw kh km ks kn k1 k6 k2 k3 k4 k5 kd
      · exact rises_hour0 t _ _ _ _ _ _ _ _ _ _ _ _ _ _ _ _ _ _ _ _ _ _ (decide_eq_false h0) (decide_eq_false h1) w0 w1 ca cb cc cd (by omega) (by omega) (by omega) (show 0 ≤ d ∧ d ≤ 31 by omega) kw kh km ks kn k1 k6 k2 k3 k4 k5 kd kd1
  · have k1 : decide (t % 86400 % 60 < 59) = true := decide_eq_true (by omega)
    have k6 : (t % 86400 % 60 == 59) = false := by rw [beq_eq_false_iff_ne]; exact h59
    have hsame := uniq hv hv' (by rw [e, e']; omega)
    have k2 : ((t + 1) % 86400 % 60 == t % 86400 % 60 + 1) = true := by rw [beq_iff_eq]; omega
    have k3 : ((t + 1) % 86400 % 3600 / 60 == t % 86400 % 3600 / 60) = true := by rw [beq_iff_eq]; omega
    have k4 : ((t + 1) % 86400 / 3600 == t % 86400 / 3600) = true := by rw [beq_iff_eq]; omega
    have k5 : (d' == d) = true := by rw [beq_iff_eq]; exact hsame.2.2.symm
    rcases kd with kd | ⟨kd, kd1⟩
    · exact rises_same1 t _ _ _ _ _ _ _ _ _ _ _ _ _ _ _ _ _ _ _ _ _ _ (decide_eq_false h0) (decide_eq_false h1) w0 w1 ca cb cc cd (by omega) (by omega) (by omega) (show 0 ≤ d ∧ d ≤ 31 by omega) kw kh km ks kn k1 k2 k3 k4 k5 k6 kd
    · exact rises_same0 t _ _ _ _ _ _ _ _ _ _ _ _ _ _ _ _ _ _ _ _ _ _ (decide_eq_false h0) (decide_eq_false h1) w0 w1 ca cb cc cd (by omega) (by omega) (by omega) (show 0 ≤ d ∧ d ≤ 31 by omega) kw kh km ks kn k1 k2 k3 k4 k5 k6 kd kd1
end Go.Proofs.YtkgkbpfjdlnoeaaDoor

/- What the layer of dates answers: a second, written. -/
import Derived.Test.YtmjfkcjdmfgkcaaDoorDaM
import Derived.Test.YtmjfkcjdmfgkcaaDoorDtQ
set_option linter.unusedSimpArgs false
set_option linter.unusedVariables false
namespace Go.Proofs.YtmjfkcjdmfgkcaaDoor
open Go Go.Ve Go.Cal
set_option maxRecDepth 20000
noncomputable def TDF : List (Nat × SpecE) := [(6, flatE gCiv), (13, eNames dayL), (15, eNames monL), (14, flatE gTwo), (16, flatE gClk)]
noncomputable def VDF : VE := ⟨Tryd.prog, tabS TDF noS, noO, fun _ => none⟩
noncomputable def gFmt (args : List AV) : Option (Bool × AV) := match args with | [.int .i64 t] => some (true, .tuple [.str (fmt t), .int .i64 (civE t)]) | _ => none

noncomputable def vFmt  (t : Int) : Prop := vcF VDF [(4, .ch)] 300 [] [(18, .str (dayF (civ t).w)), (30, .str (monF (civ t).m))] 8 [.int .i64 t] [] (one (.tuple [.str (fmt t), .int .i64 (civE t)]))
theorem vFmt_eq  (t : Int) : vFmt t = (bif !eqI (civE t) (0 : Int) then ∃ (_x : Unit), True ∧ True ∧ (([] : List UInt8) = fmt t ∧ civE t = civE t ∧ True) ∧ True else bif leI (0 : Int) (civ t).w && ltI (civ t).w (7 : Int) then (tsD dayL)[(0 : Nat) + (civ t).w.toNat * (1 : Nat)]? = some (AV.str (dayF (civ t).w)) ∧ bif leI (3 : Int) (ic (List.length (dayF (civ t).w))) then bif decide ((List.take (3 : Nat) (dayF (civ t).w)).length + (2 : Nat) ≤ (9223372036854775807 : Nat)) then bif leI (0 : Int) (civ t).d && leI (civ t).d (99 : Int) then bif decide ((List.take (3 : Nat) (dayF (civ t).w) ++ [(44 : UInt8), (32 : UInt8)]).length + (2 : Nat) ≤ (9223372036854775807 : Nat)) then bif decide ((List.take (3 : Nat) (dayF (civ t).w) ++ [(44 : UInt8), (32 : UInt8)] ++ two (civ t).d).length + (1 : Nat) ≤ (9223372036854775807 : Nat)) then bif leI (0 : Int) (civ t).m && ltI (civ t).m (13 : Int) then (tsD monL)[(0 : Nat) + (civ t).m.toNat * (1 : Nat)]? = some (AV.str (monF (civ t).m)) ∧ bif decide ((List.take (3 : Nat) (dayF (civ t).w) ++ [(44 : UInt8), (32 : UInt8)] ++ two (civ t).d ++ [(32 : UInt8)]).length + List.length (monF (civ t).m) ≤ (9223372036854775807 : Nat)) then bif decide ((List.take (3 : Nat) (dayF (civ t).w) ++ [(44 : UInt8), (32 : UInt8)] ++ two (civ t).d ++ [(32 : UInt8)] ++ monF (civ t).m).length + (1 : Nat) ≤ (9223372036854775807 : Nat)) then bif leI (0 : Int) (civ t).y && (leI (-9223372036854775808 : Int) (civ t).y && leI (civ t).y (9223372036854775807 : Int)) then bif leI (0 : Int) ((civ t).y / (100 : Int)) && leI ((civ t).y / (100 : Int)) (99 : Int) then bif decide ((List.take (3 : Nat) (dayF (civ t).w) ++ [(44 : UInt8), (32 : UInt8)] ++ two (civ t).d ++ [(32 : UInt8)] ++ monF (civ t).m ++ [(32 : UInt8)]).length + (2 : Nat) ≤ (9223372036854775807 : Nat)) then bif leI (0 : Int) (civ t).y && true then bif leI (0 : Int) ((civ t).y % (100 : Int)) && leI ((civ t).y % (100 : Int)) (99 : Int) then bif decide ((List.take (3 : Nat) (dayF (civ t).w) ++ [(44 : UInt8), (32 : UInt8)] ++ two (civ t).d ++ [(32 : UInt8)] ++ monF (civ t).m ++ [(32 : UInt8)] ++ two ((civ t).y / (100 : Int))).length + (2 : Nat) ≤ (9223372036854775807 : Nat)) then bif decide ((List.take (3 : Nat) (dayF (civ t).w) ++ [(44 : UInt8), (32 : UInt8)] ++ two (civ t).d ++ [(32 : UInt8)] ++ monF (civ t).m ++ [(32 : UInt8)] ++ two ((civ t).y / (100 : Int)) ++ two ((civ t).y % (100 : Int))).length + (1 : Nat) ≤ (9223372036854775807 : Nat)) then bif in99 (civ t).h && (in99 (civ t).i && in99 (civ t).s) then bif decide ((List.take (3 : Nat) (dayF (civ t).w) ++ [(44 : UInt8), (32 : UInt8)] ++ two (civ t).d ++ [(32 : UInt8)] ++ monF (civ t).m ++ [(32 : UInt8)] ++ two ((civ t).y / (100 : Int)) ++ two ((civ t).y % (100 : Int)) ++ [(32 : UInt8)]).length + (8 : Nat) ≤ (9223372036854775807 : Nat)) then bif decide ((List.take (3 : Nat) (dayF (civ t).w) ++ [(44 : UInt8), (32 : UInt8)] ++ two (civ t).d ++ [(32 : UInt8)] ++ monF (civ t).m ++ [(32 : UInt8)] ++ two ((civ t).y / (100 : Int)) ++ two ((civ t).y % (100 : Int)) ++ [(32 : UInt8)] ++ clkS (civ t).h (civ t).i (civ t).s).length + (4 : Nat) ≤ (9223372036854775807 : Nat)) then (True ∧ (AV.agg [AV.int IntKind.i64 (civ t).y, AV.int IntKind.i64 (civ t).m, AV.int IntKind.i64 (civ t).d, AV.int IntKind.i64 (civ t).h, AV.int IntKind.i64 (civ t).i, AV.int IntKind.i64 (civ t).s, AV.int IntKind.i64 (civ t).w] = AV.agg [AV.int IntKind.i64 (civ t).y, AV.int IntKind.i64 (civ t).m, AV.int IntKind.i64 (civ t).d, AV.int IntKind.i64 (civ t).h, AV.int IntKind.i64 (civ t).i, AV.int IntKind.i64 (civ t).s, AV.int IntKind.i64 (civ t).w] ∧ AV.agg [AV.int IntKind.i64 (civ t).y, AV.int IntKind.i64 (civ t).m, AV.int IntKind.i64 (civ t).d, AV.int IntKind.i64 (civ t).h, AV.int IntKind.i64 (civ t).i, AV.int IntKind.i64 (civ t).s, AV.int IntKind.i64 (civ t).w] = AV.agg [AV.int IntKind.i64 (civ t).y, AV.int IntKind.i64 (civ t).m, AV.int IntKind.i64 (civ t).d, AV.int IntKind.i64 (civ t).h, AV.int IntKind.i64 (civ t).i, AV.int IntKind.i64 (civ t).s, AV.int IntKind.i64 (civ t).w] ∧ AV.agg [AV.int IntKind.i64 (civ t).y, AV.int IntKind.i64 (civ t).m, AV.int IntKind.i64 (civ t).d, AV.int IntKind.i64 (civ t).h, AV.int IntKind.i64 (civ t).i, AV.int IntKind.i64 (civ t).s, AV.int IntKind.i64 (civ t).w] = AV.agg [AV.int IntKind.i64 (civ t).y, AV.int IntKind.i64 (civ t).m, AV.int IntKind.i64 (civ t).d, AV.int IntKind.i64 (civ t).h, AV.int IntKind.i64 (civ t).i, AV.int IntKind.i64 (civ t).s, AV.int IntKind.i64 (civ t).w] ∧ True) ∧ True ∧ (AV.int IntKind.i64 (civ t).y = AV.int IntKind.i64 (civ t).y ∧ AV.int IntKind.i64 (civ t).y = AV.int IntKind.i64 (civ t).y ∧ AV.int IntKind.i64 (civ t).y = AV.int IntKind.i64 (civ t).y ∧ True) ∧ True ∧ (AV.int IntKind.i64 (civ t).y = AV.int IntKind.i64 (civ t).y ∧ AV.int IntKind.i64 (civ t).y = AV.int IntKind.i64 (civ t).y ∧ AV.int IntKind.i64 (civ t).y = AV.int IntKind.i64 (civ t).y ∧ True) ∧ True ∧ (AV.int IntKind.i64 (civ t).m = AV.int IntKind.i64 (civ t).m ∧ AV.int IntKind.i64 (civ t).m = AV.int IntKind.i64 (civ t).m ∧ AV.int IntKind.i64 (civ t).m = AV.int IntKind.i64 (civ t).m ∧ True) ∧ True ∧ True ∧ (AV.int IntKind.i64 (civ t).d = AV.int IntKind.i64 (civ t).d ∧ AV.int IntKind.i64 (civ t).d = AV.int IntKind.i64 (civ t).d ∧ True) ∧ (((tsD dayL)[(0 : Nat) + (civ t).w.toNat * (1 : Nat)]? = some (AV.str (dayF (civ t).w)) ∧ AV.str (dayF (civ t).w) = AV.str (dayF (civ t).w)) ∧ ((tsD dayL)[(0 : Nat) + (civ t).w.toNat * (1 : Nat)]? = some (AV.str (dayF (civ t).w)) ∧ AV.str (dayF (civ t).w) = AV.str (dayF (civ t).w)) ∧ True) ∧ (AV.int IntKind.i64 (civ t).w = AV.int IntKind.i64 (civ t).w ∧ AV.int IntKind.i64 (civ t).w = AV.int IntKind.i64 (civ t).w ∧ AV.int IntKind.i64 (civ t).w = AV.int IntKind.i64 (civ t).w ∧ True) ∧ True ∧ True) ∧ ∃ (_x : Unit), True ∧ True ∧ (List.take (3 : Nat) (dayF (civ t).w) ++ [(44 : UInt8), (32 : UInt8)] ++ two (civ t).d ++ [(32 : UInt8)] ++ monF (civ t).m ++ [(32 : UInt8)] ++ two ((civ t).y / (100 : Int)) ++ two ((civ t).y % (100 : Int)) ++ [(32 : UInt8)] ++ clkS (civ t).h (civ t).i (civ t).s ++ [(32 : UInt8), (71 : UInt8), (77 : UInt8), (84 : UInt8)] = fmt t ∧ (0 : Int) = civE t ∧ True) ∧ True else False else False else False else False else False else False else False else False else False else False else False else False else False else False else False else False else False else False else False) := by kernel_rfl
theorem TDF_ok : SpecOk Tryd.prog (tabS TDF noS) := by
  refine tabS_ok (fun p hp => ?_) noS_ok
  simp only [TDF, List.mem_cons, List.mem_nil_iff, or_false] at hp
  rcases hp with rfl | rfl | rfl | rfl | rfl
  · exact gCiv_ok
  · exact eDays_ok
  · exact eMonths_ok
  · exact gTwo_ok
  · exact gClk_ok
theorem civE_iff {t : Int} : civE t = 0 ↔ okT t = true := by
  unfold civE
  by_cases h : okT t = true
  · rw [if_pos h]; exact ⟨fun _ => h, fun _ => rfl⟩
  · rw [if_neg h]; exact ⟨(fun e => by cases e), fun e => absurd e h⟩
theorem clkS_len (h i s : Int) : (clkS h i s).length = 8 := rfl
theorem dayF_at {w : Int} (h0 : 0 ≤ w) (h1 : w ≤ 6) : (tsD dayL)[0 + w.toNat * 1]? = some (AV.str (dayF w)) ∧ 6 ≤ (dayF w).length ∧ (dayF w).length ≤ 9 := by
  rcases wcases h0 h1 with h | h | h | h | h | h | h <;> subst h <;> exact ⟨rfl, by decide, by decide⟩
theorem monF_at {m : Int} (h0 : 1 ≤ m) (h1 : m ≤ 12) : (tsD monL)[0 + m.toNat * 1]? = some (AV.str (monF m)) ∧ (monF m).length = 3 := by
  rcases months h0 h1 with h | h | h | h | h | h | h | h | h | h | h | h <;> subst h <;> exact ⟨rfl, rfl⟩
theorem fmt_vc (t : Int) : vFmt t := by
  rw [vFmt_eq]
  ((try simp only [ic, cond_F]); simp only [cond_P, leI_t, leI_f, ltI_t, ltI_f, eqI_t, eqI_f, and_t, not_t, not_f, dec_t, dec_f, true_and, and_true, exists_const, eq_self])
  refine ⟨fun h => ?_, fun h => ?_⟩
  · unfold fmt
    rw [if_neg fun e => h (civE_iff.2 e)]
  have ht := civE_iff.1 h
  have r := rng_of (civ_ok ht).1
  obtain ⟨d1, d2, d3⟩ := dayF_at r.w0 r.w1
  obtain ⟨m1, m2⟩ := monF_at r.m0 r.m1
  have hD : ((dayF (civ t).w).take 3).length ≤ 3 := by rw [List.length_take]; omega
  have w0 := r.w0
  have w1 := r.w1
  have hm0 := r.m0
  have hm1 := r.m1
  have y0 := r.y0
  have y1 := r.y1
  have i1 : in99 (civ t).h = true := by unfold in99; rw [and_t, leI_t, leI_t]; exact ⟨r.h0, r.h1⟩
  have i2 : in99 (civ t).i = true := by unfold in99; rw [and_t, leI_t, leI_t]; exact ⟨r.i0, r.i1⟩
  have i3 : in99 (civ t).s = true := by unfold in99; rw [and_t, leI_t, leI_t]; exact ⟨r.s0, r.s1⟩
  refine ⟨by omega, d1, by omega, (by first | omega | (simp only [List.length_append, List.length_cons, List.length_nil, two_len, clkS_len]; omega)), ⟨r.d0, r.d1⟩, (by first | omega | (simp only [List.length_append, List.length_cons, List.length_nil, two_len, clkS_len]; omega)), (by first | omega | (simp only [List.length_append, List.length_cons, List.length_nil, two_len, clkS_len]; omega)), by omega, m1, (by first | omega | (simp only [List.length_append, List.length_cons, List.length_nil, two_len, clkS_len]; omega)), (by first | omega | (simp only [List.length_append, List.length_cons, List.length_nil, two_len, clkS_len]; omega)), by omega, by omega, (by first | omega | (simp only [List.length_append, List.length_cons, List.length_nil, two_len, clkS_len]; omega)), by omega, by omega, (by first | omega | (simp only [List.length_append, List.length_cons, List.length_nil, two_len, clkS_len]; omega)), (by first | omega | (simp only [List.length_append, List.length_cons, List.length_nil, two_len, clkS_len]; omega)), ⟨i1, i2, i3⟩, (by first | omega | (simp only [List.length_append, List.length_cons, List.length_nil, two_len, clkS_len]; omega)), (by first | omega | (simp only [List.length_append, List.length_cons, List.length_nil, two_len, clkS_len]; omega)), ⟨d1, d1⟩, ?_, h.symm⟩
  unfold fmt
  rw [if_pos ht]
  rfl
theorem gFmt_ok : EntryOk Tryd.prog 8 (flatE gFmt) := by
  refine flatE_ok fun args b v hg hb => ?_
  unfold gFmt at hg
  split at hg
  · rename_i t
    cases hg
    exact ⟨rfl, rfl, SC.one (V := VDF) names0 mixed0 TDF_ok noO_ok (fmt_vc t)⟩
  · cases hg

/- The law FramingLengths, walked: digits. -/
import Derived.Test.YtiobbjbodpkpjaaDoorLenP
import Derived.Test.YtiobbjbodpkpjaaDoorOwn
set_option linter.unusedSimpArgs false
set_option linter.unusedVariables false
namespace Go.Proofs.YtiobbjbodpkpjaaDoor
open Go Go.Ve
set_option maxRecDepth 20000
def gDig (k : Nat) (args : List AV) : Option (Bool × AV) := match args with | [.int .i64 n] => some (Bool.and (leI 0 n) (Bool.and (ltI n k) (leI n 9007199254740991)), .str (digN n.toNat)) | _ => none
noncomputable def TD (k : Nat) : List (Nat × SpecE) := [(17, flatE (gDig k))]
noncomputable def VD (k : Nat) : VE := ⟨Tryd.prog, tabS (TD k) noS, noO, fun _ => none⟩
def pickN (n m : Int) : Int := if m < 1 then 0 else if Int.tmod n m < 0 then Int.tmod n m + m else Int.tmod n m

noncomputable def vDig  (k n : Nat) : Prop := vcF (VD k) [] 300 [] [] 17 [.int .i64 n] [] (one (.str (digN n)))
noncomputable def vPick  (n m : Int) : Prop := vcF (VD 0) [] 300 [] [(10, .int .i64 0)] 16 [.int .i64 n, .int .i64 m] [] (one (.int .i64 (pickN n m)))
theorem vDig_eq  (k n : Nat) : vDig k n = (bif ltI (ic n) (10 : Int) then bif leI (ic n + (1 : Int)) (9223372036854775807 : Int) then bif leI (ic n + (1 : Int)) (10 : Int) then bif leI (ic n) (ic (ic n + (1 : Int)).toNat) then ∃ (_x : Unit), True ∧ True ∧ List.take ((ic n + (1 : Int)).toNat - n) (List.drop n [(48 : UInt8), (49 : UInt8), (50 : UInt8), (51 : UInt8), (52 : UInt8), (53 : UInt8), (54 : UInt8), (55 : UInt8), (56 : UInt8), (57 : UInt8)]) = digN n ∧ True else False else False else False else bif leI (ic n) (9223372036854775807 : Int) then bif ltI (ic n / (10 : Int)) (ic k) && leI (ic n / (10 : Int)) (9007199254740991 : Int) then bif ltI (ic n % (10 : Int)) (ic k) && leI (ic n % (10 : Int)) (9007199254740991 : Int) then bif decide ((digN (ic n / (10 : Int)).toNat).length + (digN (ic n % (10 : Int)).toNat).length ≤ (9223372036854775807 : Nat)) then ∃ (_x : Unit), True ∧ True ∧ digN (ic n / (10 : Int)).toNat ++ digN (ic n % (10 : Int)).toNat = digN n ∧ True else False else False else False else False) := by kernel_rfl
theorem vPick_eq  (n m : Int) : vPick n m = (bif ltI m (1 : Int) then ∃ (_x : Unit), True ∧ True ∧ (0 : Int) = pickN n m ∧ True else bif !eqI m (0 : Int) then bif ltI (n.tmod m) (0 : Int) then bif leI (-9223372036854775808 : Int) (n.tmod m + m) && leI (n.tmod m + m) (9223372036854775807 : Int) then ∃ (_x : Unit), True ∧ True ∧ n.tmod m + m = pickN n m ∧ True else False else ∃ (_x : Unit), True ∧ True ∧ n.tmod m = pickN n m ∧ True else False) := by kernel_rfl
theorem dig_vc (k n : Nat) (h : n ≤ k) (hn : n ≤ 9007199254740991) : vDig k n := by
  rw [vDig_eq]
  simp only [ic, cond_F]
  simp only [cond_P, leI_t, leI_f, ltI_t, ltI_f, eqI_t, eqI_f, and_t, not_t, not_f, dec_t, dec_f, Nat.zero_add, Nat.mul_one, List.drop_zero]
  simp only [cells_tsr, cells_fld, take_ts, ts_length, and_true, true_and, and_false, false_and, or_false, false_or, exists_false, Nat.le_refl, exists_const, Nat.succ_ne_self, Nat.not_succ_le_self, false_implies, not_false_eq_true, true_implies, fldT_at, fldOk_at, getS_ts]
  refine ⟨fun hl => ⟨by omega, by omega, by omega, ?_⟩, fun hg => ⟨by omega, ⟨by omega, by omega⟩, ⟨by omega, by omega⟩, ?_, ?_⟩⟩
  · have hc : n = 0 ∨ n = 1 ∨ n = 2 ∨ n = 3 ∨ n = 4 ∨ n = 5 ∨ n = 6 ∨ n = 7 ∨ n = 8 ∨ n = 9 := by omega
    rcases hc with rfl | rfl | rfl | rfl | rfl | rfl | rfl | rfl | rfl | rfl <;> (rw [digN_lt (by omega)]; rfl)
  · have h1 := digN_len ((n : Int) / 10).toNat
    have h2 := digN_len ((n : Int) % 10).toNat
    omega
  · rw [show ((n : Int) / 10).toNat = n / 10 by omega, show ((n : Int) % 10).toNat = n % 10 by omega, digN_ge (n := n) (by omega), digN_lt (n := n % 10) (by omega)]
theorem pick_vc (n m : Int) (hm : inK .i64 m = true) : vPick n m := by
  rw [vPick_eq]
  simp only [ic, cond_F]
  simp only [cond_P, leI_t, leI_f, ltI_t, ltI_f, eqI_t, eqI_f, and_t, not_t, not_f, dec_t, dec_f, Nat.zero_add, Nat.mul_one, List.drop_zero]
  simp only [cells_tsr, cells_fld, take_ts, ts_length, and_true, true_and, and_false, false_and, or_false, false_or, exists_false, Nat.le_refl, exists_const, Nat.succ_ne_self, Nat.not_succ_le_self, false_implies, not_false_eq_true, true_implies, fldT_at, fldOk_at, getS_ts]
  simp only [inK, leI_eq, Bool.and_eq_true, decide_eq_true_eq] at hm
  refine ⟨fun h => by simp [pickN, h], fun h => ⟨by omega, fun h1 => ?_, fun h1 => ?_⟩⟩
  · have h2 : -m < n.tmod m := by
      have := Int.lt_tmod_of_pos n (show 0 < m by omega)
      omega
    refine ⟨⟨by omega, by omega⟩, ?_⟩
    unfold pickN
    rw [if_neg (by omega), if_pos h1]
  · unfold pickN
    rw [if_neg (by omega), if_neg (by omega)]
theorem pick_in (n : Int) {m : Int} (h : 1 ≤ m) : 0 ≤ pickN n m ∧ pickN n m < m := by
  have h1 := Int.lt_tmod_of_pos n (show 0 < m by omega)
  have h2 := Int.tmod_lt_of_pos n (show 0 < m by omega)
  unfold pickN
  rw [if_neg (by omega)]
  split <;> omega
def gDigits (args : List AV) : Option (Bool × AV) := match args with | [.int .i64 n] => some (Bool.and (leI 0 n) (leI n 9007199254740991), .str (digN n.toNat)) | _ => none
theorem dig_sc (k : Nat) : ∀ n : Nat, n < k → n ≤ 9007199254740991 → SC Tryd.prog 17 [.int .i64 n] [] (fun v H => v = .str (digN n) ∧ H = []) := by
  induction k with
  | zero => intro n h; omega
  | succ k ih =>
    intro n h hn
    have hT : SpecOk Tryd.prog (tabS (TD k) noS) := by
      refine tabS_ok (fun p hp => ?_) noS_ok
      simp only [TD, List.mem_cons, List.mem_nil_iff, or_false] at hp
      subst hp
      refine flatE_ok fun args b v hg hb => ?_
      unfold gDig at hg
      split at hg
      · rename_i m
        cases hg
        rw [and_t, and_t, leI_t, ltI_t, leI_t] at hb
        refine ⟨rfl, rfl, ?_⟩
        have h3 := ih m.toNat (by omega) (by omega)
        rw [show ((m.toNat : Nat) : Int) = m by omega] at h3
        exact h3
      · cases hg
    exact SC.one (V := VD k) names0 mixed0 hT noO_ok (dig_vc k n (by omega) hn)
theorem gDigits_ok : EntryOk Tryd.prog 17 (flatE gDigits) := by
  refine flatE_ok fun args b v hg hb => ?_
  unfold gDigits at hg
  split at hg
  · rename_i m
    cases hg
    rw [and_t, leI_t, leI_t] at hb
    refine ⟨rfl, rfl, ?_⟩
    have h3 := dig_sc (m.toNat + 1) m.toNat (by omega) (by omega)
    rw [show ((m.toNat : Nat) : Int) = m by omega] at h3
    exact h3
  · cases hg
def gPickN (args : List AV) : Option (Bool × AV) := match args with | [.int .i64 n, .int .i64 m] => some (inK .i64 m, .int .i64 (pickN n m)) | _ => none
theorem VD0_ok : SpecOk Tryd.prog (tabS (TD 0) noS) := by
  refine tabS_ok (fun p hp => ?_) noS_ok
  simp only [TD, List.mem_cons, List.mem_nil_iff, or_false] at hp
  subst hp
  refine flatE_ok fun args b v hg hb => ?_
  unfold gDig at hg
  split at hg
  · cases hg
    rw [and_t, and_t, leI_t, ltI_t, leI_t] at hb
    omega
  · cases hg
theorem gPickN_ok : EntryOk Tryd.prog 16 (flatE gPickN) := by
  refine flatE_ok fun args b v hg hb => ?_
  unfold gPickN at hg
  split at hg
  · cases hg
    exact ⟨rfl, rfl, SC.one (V := VD 0) names0 mixed0 VD0_ok noO_ok (pick_vc _ _ hb)⟩
  · cases hg
end Go.Proofs.YtiobbjbodpkpjaaDoor

/- What the document's Digits, Key and Primary answer. -/
import Derived.Test.YtciciemaldbidaaGreatDoorRMat
set_option linter.unusedSimpArgs false
set_option linter.unusedVariables false
namespace Go.Proofs.YtciciemaldbidaaGreatDoor
open Go Go.Ve
set_option maxRecDepth 20000
def gDgK (k : Nat) (args : List AV) : Option (Bool × AV) := match args with | [.int .i64 n] => some (Bool.and (leI 0 n) (Bool.and (ltI n k) (leI n 9007199254740991)), .str (Lib.itoa n)) | _ => none
noncomputable def TDg (k : Nat) : List (Nat × SpecE) := [(37, flatE (gDgK k))]
noncomputable def VDg (k : Nat) : VE := ⟨Tryz.prog, tabS (TDg k) noS, noO, fun _ => none⟩
def gDg (args : List AV) : Option (Bool × AV) := match args with | [.int .i64 n] => some (Bool.and (leI 0 n) (leI n 9007199254740991), .str (Lib.itoa n)) | _ => none
noncomputable def TKr : List (Nat × SpecE) := [(10, eVal), (25, flatE (g1 le40 fun s => .str (lower s))), (37, flatE gDg)]
noncomputable def aKr (l : LL) (fa : FL) : Anns := [(3, [.mk Nat (fun i => [(6, .int .i64 i), (5, .str (keyT (l.take i) fa))]) (fun _ => none) (fun i => i ≤ l.length) (fun i => l.length - i) gcB gcB (fun i => [(18, .str (l.getD i [])), (24, .str (l.getD i []))]) (fun _ => [])])]
noncomputable def VKr : VE := ⟨Tryz.prog, tabS TKr noS, noO, fun _ => none⟩
noncomputable def TPr : List (Nat × SpecE) := [(21, flatE (g1 le40 fun s => .str (lower s))), (25, flatE (g1 le40 fun s => .str (lower s)))]
noncomputable def VPr : VE := ⟨Tryz.prog, tabS TPr noS, noO, fun _ => none⟩
def gPr (args : List AV) : Option (Bool × AV) := match args with | [.str h, .str p] => some (Bool.and (le40 h) (le40 p), .str (lower h ++ [32] ++ p)) | _ => none

noncomputable def vDg  (k n : Nat) : Prop := vcF (VDg k) [] 300 [] [] 37 [.int .i64 n] [] (Go.Ve.one (.str (Lib.itoa n)))
noncomputable def vPr  (h p : List UInt8) : Prop := vcF VPr [] 300 [] [] 16 [.str h, .str p] [] (Go.Ve.one (.str (lower h ++ [32] ++ p)))
noncomputable def vPrR  (h p : List UInt8) : Prop := vcF VPr [] 300 [] [] 17 [.str h, .str p] [] (Go.Ve.one (.str (lower h ++ [32] ++ p)))
noncomputable def vKrN  (l r : LL) (e : Nat) (ro : Bool) (c : Nat) (ex : Bool) (fT aT pT : List AV) : Prop := vcF VKr [] 300 (aKr l []) [] 15 [.sl 3 0 l.length c ex, .nilsl] [gFst fT, gAcc aT, gPow pT, .cells (ts (l ++ r)) e ro] [⟨Unit, fun _ => .str (keyT l []), fun _ => [gFst fT, gAcc aT, gPow pT, .cells (ts (l ++ r)) e ro], fun _ => True, gcB⟩]
noncomputable def vKrA  (l r : LL) (e : Nat) (ro : Bool) (c : Nat) (ex : Bool) (fT aT pT : List AV) (fa ra : FL) (ea : Nat) (roa : Bool) (ca : Nat) (exa : Bool) : Prop := vcF VKr [] 300 (aKr l fa) [] 15 [.sl 3 0 l.length c ex, .sl 4 0 fa.length ca exa] [gFst fT, gAcc aT, gPow pT, .cells (ts (l ++ r)) e ro, .cells (fieldC (fa ++ ra)) ea roa] [⟨Unit, fun _ => .str (keyT l fa), fun _ => [gFst fT, gAcc aT, gPow pT, .cells (ts (l ++ r)) e ro, .cells (fieldC (fa ++ ra)) ea roa], fun _ => True, gcB⟩]
def gqRKey0 : Nat → Nat := (fun (b : Nat) => [0, 1, 2, 3].getD b 4)
def gqRKey1 : Nat → Nat := (fun (b : Nat) => [0, 1, 2, 3, 4].getD b 5)
theorem vDg_eq  (k n : Nat) : vDg k n = (bif ltI (ic n) (10 : Int) then bif leI (ic n + (1 : Int)) (9223372036854775807 : Int) then bif leI (ic n + (1 : Int)) (10 : Int) then bif leI (ic n) (ic (ic n + (1 : Int)).toNat) then ∃ (_x : Unit), True ∧ True ∧ List.take ((ic n + (1 : Int)).toNat - n) (List.drop n [(48 : UInt8), (49 : UInt8), (50 : UInt8), (51 : UInt8), (52 : UInt8), (53 : UInt8), (54 : UInt8), (55 : UInt8), (56 : UInt8), (57 : UInt8)]) = Lib.itoa (ic n) ∧ True else False else False else False else bif leI (ic n) (9223372036854775807 : Int) then bif ltI (ic n / (10 : Int)) (ic k) && leI (ic n / (10 : Int)) (9007199254740991 : Int) then bif ltI (ic n % (10 : Int)) (ic k) && leI (ic n % (10 : Int)) (9007199254740991 : Int) then bif decide ((Lib.itoa (ic n / (10 : Int))).length + (Lib.itoa (ic n % (10 : Int))).length ≤ 9223372036854775807) then ∃ (_x : Unit), True ∧ True ∧ Lib.itoa (ic n / (10 : Int)) ++ Lib.itoa (ic n % (10 : Int)) = Lib.itoa (ic n) ∧ True else False else False else False else False) := by kernel_rfl
theorem vPr_eq  (h p : List UInt8) : vPr h p = (bif le40 h then bif decide ((lower h).length + 1 ≤ 9223372036854775807) then bif decide ((lower h ++ [(32 : UInt8)]).length + p.length ≤ 9223372036854775807) then ∃ (_x : Unit), True ∧ True ∧ lower h ++ [(32 : UInt8)] ++ p = lower h ++ [(32 : UInt8)] ++ p ∧ True else False else False else False) := by kernel_rfl
theorem vPrR_eq  (h p : List UInt8) : vPrR h p = (bif le40 h then bif decide ((lower h).length + 1 ≤ 9223372036854775807) then bif decide ((lower h ++ [(32 : UInt8)]).length + p.length ≤ 9223372036854775807) then ∃ (_x : Unit), True ∧ True ∧ lower h ++ [(32 : UInt8)] ++ p = lower h ++ [(32 : UInt8)] ++ p ∧ True else False else False else False) := by kernel_rfl
theorem vKrN_eq  (l r : LL) (e : Nat) (ro : Bool) (c : Nat) (ex : Bool) (fT aT pT : List AV) : vKrN l r e ro c ex fT aT pT = ((∃ (x : Nat), x ≤ List.length l ∧ ((2 = 2 ∧ cellsP gqRKey0 fT fT) ∧ (3 = 3 ∧ cellsP gqRKey0 aT aT) ∧ (1 = 1 ∧ cellsP gqRKey0 pT pT) ∧ (bif e.beq e && sameB ro ro then cellsP gqRKey0 (ts (l ++ r)) (ts (l ++ r)) ∧ True else False) ∧ True) ∧ (0 : Int) = ic x ∧ ([] : List UInt8) = keyT (List.take x l) [] ∧ True) ∧ ∀ (x : Nat), x ≤ List.length l → bif ltI (ic x) (ic (List.length l)) then bif ltI (ic x) (ic (List.length l)) then (ts (l ++ r))[0 + x * 1]? = some (AV.str (List.getD l x [])) ∧ bif ltI (ic x) (ic (List.length l)) then (ts (l ++ r))[0 + x * 1]? = some (AV.str (List.getD l x [])) ∧ bif le40 (List.getD l x []) then bif decide ((keyT (List.take x l) []).length + (lower (List.getD l x [])).length ≤ 9223372036854775807) then bif decide ((keyT (List.take x l) [] ++ lower (List.getD l x [])).length + 1 ≤ 9223372036854775807) then bif decide ((keyT (List.take x l) [] ++ lower (List.getD l x []) ++ [(58 : UInt8)]).length + 1 ≤ 9223372036854775807) then bif decide ((keyT (List.take x l) [] ++ lower (List.getD l x []) ++ [(58 : UInt8)] ++ Lib.itoa (1 : Int)).length + 1 ≤ 9223372036854775807) then bif decide ((keyT (List.take x l) [] ++ lower (List.getD l x []) ++ [(58 : UInt8)] ++ Lib.itoa (1 : Int) ++ [(58 : UInt8)]).length + 1 ≤ 9223372036854775807) then bif decide ((keyT (List.take x l) [] ++ lower (List.getD l x []) ++ [(58 : UInt8)] ++ Lib.itoa (1 : Int) ++ [(58 : UInt8)] ++ [(45 : UInt8)]).length + 1 ≤ 9223372036854775807) then bif leI (ic x + (1 : Int)) (9223372036854775807 : Int) then ∃ (y : Nat), y ≤ List.length l ∧ List.length l - y < List.length l - x ∧ ((2 = 2 ∧ cellsP gqRKey0 fT fT) ∧ (3 = 3 ∧ cellsP gqRKey0 aT aT) ∧ (1 = 1 ∧ cellsP gqRKey0 pT pT) ∧ (bif e.beq e && sameB ro ro then cellsP gqRKey0 (ts (l ++ r)) (ts (l ++ r)) ∧ True else False) ∧ True) ∧ ic x + (1 : Int) = ic y ∧ keyT (List.take x l) [] ++ lower (List.getD l x []) ++ [(58 : UInt8)] ++ Lib.itoa (1 : Int) ++ [(58 : UInt8)] ++ [(45 : UInt8)] ++ [(10 : UInt8)] = keyT (List.take y l) [] ∧ True else False else False else False else False else False else False else False else False else False else False else ∃ (_x : Unit), True ∧ ((2 = 2 ∧ cellsP gqRKey0 fT fT) ∧ (3 = 3 ∧ cellsP gqRKey0 aT aT) ∧ (1 = 1 ∧ cellsP gqRKey0 pT pT) ∧ (bif e.beq e && sameB ro ro then cellsP gqRKey0 (ts (l ++ r)) (ts (l ++ r)) ∧ True else False) ∧ True) ∧ keyT (List.take x l) [] = keyT l [] ∧ True) := by kernel_rfl
theorem vKrA_eq  (l r : LL) (e : Nat) (ro : Bool) (c : Nat) (ex : Bool) (fT aT pT : List AV) (fa ra : FL) (ea : Nat) (roa : Bool) (ca : Nat) (exa : Bool) : vKrA l r e ro c ex fT aT pT fa ra ea roa ca exa = ((∃ (x : Nat), x ≤ List.length l ∧ ((2 = 2 ∧ cellsP gqRKey1 fT fT) ∧ (3 = 3 ∧ cellsP gqRKey1 aT aT) ∧ (1 = 1 ∧ cellsP gqRKey1 pT pT) ∧ (bif e.beq e && sameB ro ro then cellsP gqRKey1 (ts (l ++ r)) (ts (l ++ r)) ∧ True else False) ∧ (bif ea.beq ea && sameB roa roa then cellsP gqRKey1 (fieldC (fa ++ ra)) (fieldC (fa ++ ra)) ∧ True else False) ∧ True) ∧ (0 : Int) = ic x ∧ ([] : List UInt8) = keyT (List.take x l) fa ∧ True) ∧ ∀ (x : Nat), x ≤ List.length l → bif ltI (ic x) (ic (List.length l)) then bif ltI (ic x) (ic (List.length l)) then (ts (l ++ r))[0 + x * 1]? = some (AV.str (List.getD l x [])) ∧ (utf8T fT aT ∧ fldOk (fieldC (fa ++ ra)) (List.length fa) ∧ le40 (List.getD l x []) = true) ∧ bif ltI (ic x) (ic (List.length l)) then (ts (l ++ r))[0 + x * 1]? = some (AV.str (List.getD l x [])) ∧ bif le40 (List.getD l x []) then bif decide ((keyT (List.take x l) fa).length + (lower (List.getD l x [])).length ≤ 9223372036854775807) then bif decide ((keyT (List.take x l) fa ++ lower (List.getD l x [])).length + 1 ≤ 9223372036854775807) then bif leI (ic (valT (fldT (fieldC (fa ++ ra)) (List.length fa)) (List.getD l x [])).length) (9007199254740991 : Int) then bif decide ((keyT (List.take x l) fa ++ lower (List.getD l x []) ++ [(58 : UInt8)]).length + (Lib.itoa (ic (valT (fldT (fieldC (fa ++ ra)) (List.length fa)) (List.getD l x [])).length)).length ≤ 9223372036854775807) then bif decide ((keyT (List.take x l) fa ++ lower (List.getD l x []) ++ [(58 : UInt8)] ++ Lib.itoa (ic (valT (fldT (fieldC (fa ++ ra)) (List.length fa)) (List.getD l x [])).length)).length + 1 ≤ 9223372036854775807) then bif decide ((keyT (List.take x l) fa ++ lower (List.getD l x []) ++ [(58 : UInt8)] ++ Lib.itoa (ic (valT (fldT (fieldC (fa ++ ra)) (List.length fa)) (List.getD l x [])).length) ++ [(58 : UInt8)]).length + (valT (fldT (fieldC (fa ++ ra)) (List.length fa)) (List.getD l x [])).length ≤ 9223372036854775807) then bif decide ((keyT (List.take x l) fa ++ lower (List.getD l x []) ++ [(58 : UInt8)] ++ Lib.itoa (ic (valT (fldT (fieldC (fa ++ ra)) (List.length fa)) (List.getD l x [])).length) ++ [(58 : UInt8)] ++ valT (fldT (fieldC (fa ++ ra)) (List.length fa)) (List.getD l x [])).length + 1 ≤ 9223372036854775807) then bif leI (ic x + (1 : Int)) (9223372036854775807 : Int) then ∃ (y : Nat), y ≤ List.length l ∧ List.length l - y < List.length l - x ∧ ((2 = 2 ∧ cellsP gqRKey1 fT fT) ∧ (3 = 3 ∧ cellsP gqRKey1 aT aT) ∧ (1 = 1 ∧ cellsP gqRKey1 pT pT) ∧ (bif e.beq e && sameB ro ro then cellsP gqRKey1 (ts (l ++ r)) (ts (l ++ r)) ∧ True else False) ∧ (bif ea.beq ea && sameB roa roa then cellsP gqRKey1 (fieldC (fa ++ ra)) (fieldC (fa ++ ra)) ∧ True else False) ∧ True) ∧ ic x + (1 : Int) = ic y ∧ keyT (List.take x l) fa ++ lower (List.getD l x []) ++ [(58 : UInt8)] ++ Lib.itoa (ic (valT (fldT (fieldC (fa ++ ra)) (List.length fa)) (List.getD l x [])).length) ++ [(58 : UInt8)] ++ valT (fldT (fieldC (fa ++ ra)) (List.length fa)) (List.getD l x []) ++ [(10 : UInt8)] = keyT (List.take y l) fa ∧ True else False else False else False else False else False else False else False else False else False else False else False else ∃ (_x : Unit), True ∧ ((2 = 2 ∧ cellsP gqRKey1 fT fT) ∧ (3 = 3 ∧ cellsP gqRKey1 aT aT) ∧ (1 = 1 ∧ cellsP gqRKey1 pT pT) ∧ (bif e.beq e && sameB ro ro then cellsP gqRKey1 (ts (l ++ r)) (ts (l ++ r)) ∧ True else False) ∧ (bif ea.beq ea && sameB roa roa then cellsP gqRKey1 (fieldC (fa ++ ra)) (fieldC (fa ++ ra)) ∧ True else False) ∧ True) ∧ keyT (List.take x l) fa = keyT l fa ∧ True) := by kernel_rfl
theorem dg_vc (k n : Nat) (h : n ≤ k) (hn : n ≤ 9007199254740991) : vDg k n := by
  rw [vDg_eq]
  simp only [ic, cond_F]
  simp only [cond_P, leI_t, leI_f, ltI_t, ltI_f, eqI_t, eqI_f, and_t, not_t, not_f, dec_t, dec_f, Nat.zero_add, Nat.mul_one, List.drop_zero]
  simp only [cells_tsr, cells_fld, take_ts, ts_length, and_true, true_and, and_false, false_and, or_false, false_or, exists_false, Nat.le_refl, exists_const, false_implies, not_false_eq_true, true_implies, fldT_at, fldOk_at, getS_ts]
  have d1 : (n : Int) / 10 = ((n / 10 : Nat) : Int) := by omega
  have d2 : (n : Int) % 10 = ((n % 10 : Nat) : Int) := by omega
  refine ⟨fun hl => ⟨by omega, by omega, by omega, ?_⟩, fun hg => ⟨by omega, ⟨by omega, by omega⟩, ⟨by omega, by omega⟩, ?_, ?_⟩⟩
  · have hc : n = 0 ∨ n = 1 ∨ n = 2 ∨ n = 3 ∨ n = 4 ∨ n = 5 ∨ n = 6 ∨ n = 7 ∨ n = 8 ∨ n = 9 := by omega
    rcases hc with rfl | rfl | rfl | rfl | rfl | rfl | rfl | rfl | rfl | rfl <;> (rw [Lib.itoa_nonneg, Lib.decDigits_one (by omega)]; rfl)
  · have h1 := Lib.itoa_length_le ((n : Int) / 10) (by omega) (by omega)
    have h2 := Lib.itoa_length_le ((n : Int) % 10) (by omega) (by omega)
    omega
  · rw [d1, d2, Lib.itoa_nonneg, Lib.itoa_nonneg, Lib.itoa_nonneg, Lib.decDigits_one (i := n % 10) (by omega)]
    conv => rhs; rw [Lib.decDigits, dif_neg (show ¬ n < 10 by omega)]
theorem dg_sc (k : Nat) : ∀ n : Nat, n < k → n ≤ 9007199254740991 → SC Tryz.prog 37 [.int .i64 n] [] (fun v H => v = .str (Lib.itoa (n : Int)) ∧ H = []) := by
  induction k with
  | zero => intro n h; omega
  | succ k ih =>
    intro n h hn
    have hT : SpecOk Tryz.prog (tabS (TDg k) noS) := by
      refine tabS_ok (fun p hp => ?_) noS_ok
      simp only [TDg, List.mem_cons, List.mem_nil_iff, or_false] at hp
      subst hp
      refine flatE_ok fun args b v hg hb => ?_
      unfold gDgK at hg
      split at hg
      · rename_i m
        cases hg
        rw [and_t, and_t, leI_t, ltI_t, leI_t] at hb
        refine ⟨rfl, rfl, ?_⟩
        have h3 := ih m.toNat (by omega) (by omega)
        rw [show ((m.toNat : Nat) : Int) = m by omega] at h3
        exact h3
      · cases hg
    exact SC.one (V := VDg k) names0 mixed0 hT noO_ok (dg_vc k n (by omega) hn)
theorem gDg_ok : EntryOk Tryz.prog 37 (flatE gDg) := by
  refine flatE_ok fun args b v hg hb => ?_
  unfold gDg at hg
  split at hg
  · rename_i m
    cases hg
    rw [and_t, leI_t, leI_t] at hb
    refine ⟨rfl, rfl, ?_⟩
    have h3 := dg_sc (m.toNat + 1) m.toNat (by omega) (by omega)
    rw [show ((m.toNat : Nat) : Int) = m by omega] at h3
    exact h3
  · cases hg
theorem pr_vc (h p : List UInt8) (hh : le40 h = true) (hp : le40 p = true) : vPr h p := by
  rw [vPr_eq]
  have h1 := of_decide_eq_true hh
  have h2 := of_decide_eq_true hp
  simp only [cond_F, hh, cond_true]
  simp only [cond_P, leI_t, leI_f, ltI_t, ltI_f, eqI_t, eqI_f, and_t, not_t, not_f, dec_t, dec_f, Nat.zero_add, Nat.mul_one, List.drop_zero]
  simp only [List.length_append, lower_len, List.length_cons, List.length_nil]
  exact ⟨by omega, by omega, (), trivial, trivial, trivial, trivial⟩
theorem prR_vc (h p : List UInt8) (hh : le40 h = true) (hp : le40 p = true) : vPrR h p := by
  rw [vPrR_eq]
  have h1 := of_decide_eq_true hh
  have h2 := of_decide_eq_true hp
  simp only [cond_F, hh, cond_true]
  simp only [cond_P, leI_t, leI_f, ltI_t, ltI_f, eqI_t, eqI_f, and_t, not_t, not_f, dec_t, dec_f, Nat.zero_add, Nat.mul_one, List.drop_zero]
  simp only [List.length_append, lower_len, List.length_cons, List.length_nil]
  exact ⟨by omega, by omega, (), trivial, trivial, trivial, trivial⟩
theorem TPr_ok : SpecOk Tryz.prog (tabS TPr noS) := by
  refine tabS_ok (fun p hp => ?_) noS_ok
  simp only [TPr, List.mem_cons, List.mem_nil_iff, or_false] at hp
  rcases hp with rfl | rfl
  · exact g1_ok (fun _ => rfl) fun s hs => lower_sc s (by have := of_decide_eq_true hs; omega)
  · exact g1_ok (fun _ => rfl) fun s hs => SC.one (V := V0) names0 mixed0 noS_ok noO_ok (lowR_vc s (by have := of_decide_eq_true hs; omega))
theorem gPr_ok : EntryOk Tryz.prog 16 (flatE gPr) := by
  refine flatE_ok fun args b v hg hb => ?_
  unfold gPr at hg
  split at hg
  · cases hg
    rw [and_t] at hb
    exact ⟨rfl, rfl, SC.one (V := VPr) names0 mixed0 TPr_ok noO_ok (pr_vc _ _ hb.1 hb.2)⟩
  · cases hg
theorem gPrR_ok : EntryOk Tryz.prog 17 (flatE gPr) := by
  refine flatE_ok fun args b v hg hb => ?_
  unfold gPr at hg
  split at hg
  · cases hg
    rw [and_t] at hb
    exact ⟨rfl, rfl, SC.one (V := VPr) names0 mixed0 TPr_ok noO_ok (prR_vc _ _ hb.1 hb.2)⟩
  · cases hg
theorem TKr_ok : SpecOk Tryz.prog (tabS TKr noS) := by
  refine tabS_ok (fun p hp => ?_) noS_ok
  simp only [TKr, List.mem_cons, List.mem_nil_iff, or_false] at hp
  rcases hp with rfl | rfl | rfl
  · exact eValR_ok
  · exact g1_ok (fun _ => rfl) fun s hs => SC.one (V := V0) names0 mixed0 noS_ok noO_ok (lowR_vc s (by have := of_decide_eq_true hs; omega))
  · exact gDg_ok
theorem keyE_ap (o n v : List UInt8) : ((((((o ++ lower n) ++ [58]) ++ Lib.itoa (v.length : Int)) ++ [58]) ++ v) ++ [10]) = o ++ keyE n v := by simp [keyE]
theorem keyE_apN (o n : List UInt8) : ((((((o ++ lower n) ++ [58]) ++ Lib.itoa 1) ++ [58]) ++ [45]) ++ [10]) = o ++ keyE n [45] := by
  rw [← keyE_nil]; simp
theorem krN_vc (l r : LL) (e : Nat) (ro : Bool) (c : Nat) (ex : Bool) (fT aT pT : List AV) (hn : l.length ≤ 20) (hl : ∀ s ∈ l, s.length ≤ 300) (hT : utf8T fT aT) (hp : pT = powF) : vKrN l r e ro c ex fT aT pT := by
  subst hp
  have hf : ∀ σ, cellsP σ fT fT = True := fun σ => eq_true (cells_refl (by rw [hT.1]; exact flats_ints _ _))
  have ha : ∀ σ, cellsP σ aT aT = True := fun σ => eq_true (cells_refl (by rw [hT.2]; exact flats_pairs _ _ _))
  have hpp : ∀ σ, cellsP σ powF powF = True := fun σ => eq_true (cells_refl pow_flat)
  rw [vKrN_eq]
  simp only [ic, cond_F, sameB_self, Nat.beq_refl]
  simp only [cond_P, leI_t, leI_f, ltI_t, ltI_f, eqI_t, eqI_f, and_t, not_t, not_f, dec_t, dec_f, Nat.zero_add, Nat.mul_one, List.drop_zero]
  simp only [cells_tsr, cells_fld, take_ts, ts_length, and_true, true_and, and_false, false_and, or_false, false_or, exists_false, Nat.le_refl, exists_const, false_implies, not_false_eq_true, true_implies, fldT_at, fldOk_at, getS_ts]
  simp only [hf, ha, hpp, hT, keyE_apN, and_true, true_and]
  have hbd := fun i (hi : i < l.length) => key_bd (fa := []) (by simp [totL]) hl hi
  simp only [val_nil] at hbd
  have hi1 := Lib.itoa_length_le 1 (by omega) (by omega)
  have hkt : ∀ k, (keyT (l.take k) []).length ≤ 87960930240000 := fun k => by
    have h1 := keyT_len (fa := []) (by simp [totL]) (l := l.take k) (fun s hs => hl s (List.mem_of_mem_take hs))
    have h2 : (l.take k).length ≤ 20 := by rw [List.length_take]; omega
    omega
  refine ⟨⟨0, Nat.zero_le _, rfl, rfl⟩, fun x hx => ⟨fun hlt => ?_, fun hge => ?_⟩⟩
  · have hx' : x < l.length := by omega
    obtain ⟨h1, h2, h3, h4, h5, h6⟩ := hbd x hx'
    have hk := keyT_step (l := []) hx'
    rw [val_nil] at hk
    have hb1 := hkt x
    refine ⟨hlt, getL hx', hlt, getL hx', h1, ?_, ?_, ?_, ?_, ?_, ?_, by omega, x + 1, by omega, by omega, by omega, hk.symm⟩ <;> simp only [List.length_append, List.length_cons, List.length_nil, lower_len] <;> omega
  · have he : l.take x = l := List.take_of_length_le (by omega)
    rw [he]
theorem krA_vc (l r : LL) (e : Nat) (ro : Bool) (c : Nat) (ex : Bool) (fT aT pT : List AV) (fa ra : FL) (ea : Nat) (roa : Bool) (ca : Nat) (exa : Bool) (hn : l.length ≤ 20) (hl : ∀ s ∈ l, s.length ≤ 300) (hT : utf8T fT aT) (hp : pT = powF) (hfa : totL fa ≤ 274877906944) : vKrA l r e ro c ex fT aT pT fa ra ea roa ca exa := by
  subst hp
  have hf : ∀ σ, cellsP σ fT fT = True := fun σ => eq_true (cells_refl (by rw [hT.1]; exact flats_ints _ _))
  have ha : ∀ σ, cellsP σ aT aT = True := fun σ => eq_true (cells_refl (by rw [hT.2]; exact flats_pairs _ _ _))
  have hpp : ∀ σ, cellsP σ powF powF = True := fun σ => eq_true (cells_refl pow_flat)
  rw [vKrA_eq]
  simp only [ic, cond_F, sameB_self, Nat.beq_refl]
  simp only [cond_P, leI_t, leI_f, ltI_t, ltI_f, eqI_t, eqI_f, and_t, not_t, not_f, dec_t, dec_f, Nat.zero_add, Nat.mul_one, List.drop_zero]
  simp only [cells_tsr, cells_fld, take_ts, ts_length, and_true, true_and, and_false, false_and, or_false, false_or, exists_false, Nat.le_refl, exists_const, false_implies, not_false_eq_true, true_implies, fldT_at, fldOk_at, getS_ts]
  simp only [hf, ha, hpp, hT, hfa, keyE_ap, and_true, true_and]
  have hbd := fun i (hi : i < l.length) => key_bd (fa := fa) hfa hl hi
  have hkt : ∀ k, (keyT (l.take k) fa).length ≤ 87960930240000 := fun k => by
    have h1 := keyT_len (fa := fa) hfa (l := l.take k) (fun s hs => hl s (List.mem_of_mem_take hs))
    have h2 : (l.take k).length ≤ 20 := by rw [List.length_take]; omega
    omega
  refine ⟨⟨0, Nat.zero_le _, rfl, rfl⟩, fun x hx => ⟨fun hlt => ?_, fun hge => ?_⟩⟩
  · have hx' : x < l.length := by omega
    obtain ⟨h1, h2, h3, h4, h5, h6⟩ := hbd x hx'
    have hk := keyT_step (l := fa) hx'
    have hb1 := hkt x
    refine ⟨hlt, getL hx', h1, hlt, getL hx', h1, ?_, ?_, by omega, ?_, ?_, ?_, ?_, by omega, x + 1, by omega, by omega, by omega, hk.symm⟩ <;> simp only [List.length_append, List.length_cons, List.length_nil, lower_len] <;> omega
  · have he : l.take x = l := List.take_of_length_le (by omega)
    rw [he]
theorem eKeyR_ok : EntryOk Tryz.prog 15 eKey := by
  intro args H sr hs K hk
  unfold eKey at hs
  split at hs
  · rename_i b n c ex x
    split at hs
    · rename_i f a p vs e ro h0 h1 h2 hb
      have hb0 : b ≠ 0 := fun e => by subst e; rw [h0] at hb; cases hb
      have hb1 : b ≠ 1 := fun e => by subst e; rw [h1] at hb; cases hb
      have hb2 : b ≠ 2 := fun e => by subst e; rw [h2] at hb; cases hb
      have fin : ∀ {v : AV}, SC Tryz.prog 15 [.sl b 0 n c ex, x] H (fun v' H' => v' = v ∧ H' = H) → K v none → SC Tryz.prog 15 [.sl b 0 n c ex, x] H fun v' H' => ∃ ch, K v' ch ∧ H' = chN H ch := fun h hK => h.mono (by rintro v' H' ⟨rfl, rfl⟩; exact ⟨none, hK, rfl⟩)
      split at hs
      · cases hs
        obtain ⟨⟨hT, rfl, hS⟩, h3⟩ := hk
        obtain ⟨l, r, e1, rfl, rfl, hn, hl⟩ := strs20 hS
        clear hS
        rw [e1] at h3
        refine fin (utf_reads3 (σ := [2, b]) (R := [gPow powF, .cells (ts (l ++ r)) e ro]) hT (SC.ofF (V := VKr) names0 mixed0 TKr_ok noO_ok (krN_vc l r e ro c ex f a powF hn hl hT rfl)) rfl (fun k hk => by
          simp only [List.mem_cons, List.mem_nil_iff, or_false] at hk
          rcases hk with rfl | rfl
          · exact pow_ren
          · exact cells_ren2 (ts_flat _) _ _) rfl (by simp; omega) h0 h1 (fun i b' h => by
          match i with
          | 0 => simp at h; subst h; exact h2
          | 1 => simp at h; subst h; exact hb
          | i + 2 => simp at h) rfl) h3
      · rename_i ba na ca exa
        split at hs
        · rename_i va ea roa hba
          cases hs
          obtain ⟨⟨hT, rfl, hS, hF, hne⟩, h3⟩ := hk
          have hc0 : ba ≠ 0 := fun e => by subst e; rw [h0] at hba; cases hba
          have hc1 : ba ≠ 1 := fun e => by subst e; rw [h1] at hba; cases hba
          have hc2 : ba ≠ 2 := fun e => by subst e; rw [h2] at hba; cases hba
          obtain ⟨l, r, e1, rfl, rfl, hn, hl⟩ := strs20 hS
          clear hS
          obtain ⟨ra, e2, e3, hfa⟩ := fldOk_ex hF
          generalize fldT va na = fa at *
          subst e2
          subst e3
          rw [e1] at h3
          refine fin (utf_reads3 (σ := [2, b, ba]) (R := [gPow powF, .cells (ts (l ++ r)) e ro, .cells (fieldC (fa ++ ra)) ea roa]) hT (SC.ofF (V := VKr) names0 mixed0 TKr_ok noO_ok (krA_vc l r e ro c ex f a powF fa ra ea roa ca exa hn hl hT rfl hfa)) rfl (fun k hk => by
            simp only [List.mem_cons, List.mem_nil_iff, or_false] at hk
            rcases hk with rfl | rfl | rfl
            · exact pow_ren
            · exact cells_ren2 (ts_flat _) _ _
            · exact cells_ren2 (fieldC_flat _) _ _) rfl (by simp; omega) h0 h1 (fun i b' h => by
            match i with
            | 0 => simp at h; subst h; exact h2
            | 1 => simp at h; subst h; exact hb
            | 2 => simp at h; subst h; exact hba
            | i + 3 => simp at h) rfl) h3
        · cases hs
      · cases hs
    · cases hs
  · cases hs
end Go.Proofs.YtciciemaldbidaaGreatDoor

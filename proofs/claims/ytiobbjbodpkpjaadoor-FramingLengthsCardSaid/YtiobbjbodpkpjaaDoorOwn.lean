/- Fields in memory of their own; light texts. -/
import Derived.Test.YtiobbjbodpkpjaaDoorRef
set_option linter.unusedSimpArgs false
set_option linter.unusedVariables false
namespace Go.Proofs.YtiobbjbodpkpjaaDoor
open Go Go.Ve
set_option maxRecDepth 20000
noncomputable def eF : Nat := btag Tryd.prog 29 2
def sumT (l : LL) : Nat := (l.map List.length).sum
def litT (l : LL) : Bool := decide (l.length ≤ 20 ∧ sumT l ≤ 300)
noncomputable def aLitT (l r : LL) (e : Nat) (ro : Bool) : Anns := [(5, [.mk Nat (fun i => [(8, .int .i64 i), (7, .int .i64 (sumT (l.take i)))]) (fun _ => some [.cells (ts (l ++ r)) e ro]) (fun i => i ≤ l.length ∧ sumT (l.take i) ≤ 300) (fun i => l.length - i) gcB gcB (fun i => [(23, .str (l.getD i []))]) (fun _ => [])])]

noncomputable def vOwnN  : Prop := vcF VR1 [] 300 [] [] 9 [.nilsl] [] [⟨Unit, fun _ => .sl 0 0 0 0 true, fun _ => [.cells [] 0 false], fun _ => True, gcB⟩]
noncomputable def vOwnZ  : Prop := vcF VR1 [] 300 [] [] 9 [.slz] [] [⟨Unit, fun _ => .sl 0 0 0 0 true, fun _ => [.cells [] 0 false], fun _ => True, gcB⟩]
noncomputable def vOwn  (l r : FL) (e : Nat) (ro : Bool) (c : Nat) (ex : Bool) : Prop := vcF VR1 [] 300 [] [] 9 [.sl 0 0 l.length c ex] [.cells (fieldC (l ++ r)) e ro] [⟨Unit, fun _ => .sl 1 0 0 0 true, fun _ => [.cells (fieldC (l ++ r)) e ro, .cells [] 0 false], fun _ => l = [], gcB⟩, ⟨Unit, fun _ => .sl 1 0 l.length l.length false, fun _ => [.cells (fieldC (l ++ r)) e ro, .cells (fieldC l) eF false], fun _ => l ≠ [], gcB⟩]
noncomputable def vLitTN  : Prop := vcF VR1 [] 300 [] [] 8 [.nilsl, .int .i64 20, .int .i64 300] [] (one (.bool true))
noncomputable def vLitTZ  : Prop := vcF VR1 [] 300 [] [] 8 [.slz, .int .i64 20, .int .i64 300] [] (one (.bool true))
noncomputable def vLitT  (l r : LL) (e : Nat) (ro : Bool) (c : Nat) (ex : Bool) : Prop := vcF VR1 [] 300 (aLitT l r e ro) [] 8 [.sl 0 0 l.length c ex, .int .i64 20, .int .i64 300] [.cells (ts (l ++ r)) e ro] [⟨Unit, fun _ => .bool (litT l), fun _ => [.cells (ts (l ++ r)) e ro], fun _ => True, gcB⟩]
theorem vOwnN_eq  : vOwnN  = (∃ (_x : Unit), True ∧ ((True ∧ True) ∧ True) ∧ ((0 : Nat) = (0 : Nat) ∧ (0 : Nat) = (0 : Nat) ∧ (0 : Nat) = (0 : Nat) ∧ true = true) ∧ True) := by kernel_rfl
theorem vOwnZ_eq  : vOwnZ  = (∃ (_x : Unit), True ∧ ((True ∧ True) ∧ True) ∧ ((0 : Nat) = (0 : Nat) ∧ (0 : Nat) = (0 : Nat) ∧ (0 : Nat) = (0 : Nat) ∧ true = true) ∧ True) := by kernel_rfl
theorem vOwn_eq  (l r : FL) (e : Nat) (ro : Bool) (c : Nat) (ex : Bool) : vOwn l r e ro c ex = (bif decide ((0 : Nat) + List.length l * (2 : Nat) ≤ (fieldC (l ++ r)).length) then bif decide (List.length l = (0 : Nat)) then (∃ (_x : Unit), l = [] ∧ ((bif e.beq e && sameB ro ro then cellsP (fun (b : Nat) => [(0 : Nat), (1 : Nat)].getD b (2 : Nat)) (fieldC (l ++ r)) (fieldC (l ++ r)) ∧ True else False) ∧ (True ∧ True) ∧ True) ∧ ((0 : Nat) = (0 : Nat) ∧ (0 : Nat) = (0 : Nat) ∧ (0 : Nat) = (0 : Nat) ∧ true = true) ∧ True) ∨ ∃ (_x : Unit), l ≠ [] ∧ ((bif e.beq e && sameB ro ro then cellsP (fun (b : Nat) => [(0 : Nat), (1 : Nat)].getD b (2 : Nat)) (fieldC (l ++ r)) (fieldC (l ++ r)) ∧ True else False) ∧ False ∧ True) ∧ ((0 : Nat) = (0 : Nat) ∧ (0 : Nat) = List.length l ∧ (0 : Nat) = List.length l ∧ true = false) ∧ True else bif decide ((0 : Nat) + List.length l ≤ (0 : Nat)) then bif decide ((0 : Nat) + ((0 : Nat) + List.length l) * (2 : Nat) ≤ (0 : Nat)) && AV.allOne (List.take (List.length l * (2 : Nat)) (List.drop (0 : Nat) (fieldC (l ++ r)))) then (∃ (_x : Unit), l = [] ∧ ((bif e.beq e && sameB ro ro then cellsP (fun (b : Nat) => [(0 : Nat), (1 : Nat)].getD b (2 : Nat)) (fieldC (l ++ r)) (fieldC (l ++ r)) ∧ True else False) ∧ (cellsP (fun (b : Nat) => [(0 : Nat), (1 : Nat)].getD b (2 : Nat)) [] (setManyF [] (0 : Nat) (List.take (List.length l * (2 : Nat)) (List.drop (0 : Nat) (fieldC (l ++ r))))) ∧ True) ∧ True) ∧ ((0 : Nat) = (0 : Nat) ∧ (0 : Nat) + List.length l = (0 : Nat) ∧ (0 : Nat) = (0 : Nat) ∧ true = true) ∧ True) ∨ ∃ (_x : Unit), l ≠ [] ∧ ((bif e.beq e && sameB ro ro then cellsP (fun (b : Nat) => [(0 : Nat), (1 : Nat)].getD b (2 : Nat)) (fieldC (l ++ r)) (fieldC (l ++ r)) ∧ True else False) ∧ False ∧ True) ∧ ((0 : Nat) = (0 : Nat) ∧ (0 : Nat) + List.length l = List.length l ∧ (0 : Nat) = List.length l ∧ true = false) ∧ True else False else bif decide ((0 : Nat) + List.length l ≤ (9223372036854775807 : Nat)) && decide (((0 : Nat) + List.length l) * (32 : Nat) ≤ (140737488355328 : Nat)) then (∃ (_x : Unit), l = [] ∧ ((bif e.beq e && sameB ro ro then cellsP (fun (b : Nat) => [(0 : Nat), (2 : Nat)].getD b (3 : Nat)) (fieldC (l ++ r)) (fieldC (l ++ r)) ∧ True else False) ∧ False ∧ True) ∧ ((0 : Nat) = (0 : Nat) ∧ (0 : Nat) + List.length l = (0 : Nat) ∧ (0 : Nat) + List.length l = (0 : Nat) ∧ false = true) ∧ True) ∨ ∃ (_x : Unit), l ≠ [] ∧ ((bif e.beq e && sameB ro ro then cellsP (fun (b : Nat) => [(0 : Nat), (2 : Nat)].getD b (3 : Nat)) (fieldC (l ++ r)) (fieldC (l ++ r)) ∧ True else False) ∧ (cellsP (fun (b : Nat) => [(0 : Nat), (2 : Nat)].getD b (3 : Nat)) (fieldC l) ([] ++ List.take (List.length l * (2 : Nat)) (List.drop (0 : Nat) (fieldC (l ++ r)))) ∧ True) ∧ True) ∧ ((0 : Nat) = (0 : Nat) ∧ (0 : Nat) + List.length l = List.length l ∧ (0 : Nat) + List.length l = List.length l ∧ false = false) ∧ True else False else False) := by kernel_rfl
theorem vLitTN_eq  : vLitTN  = (∃ (_x : Unit), True ∧ True ∧ true = true ∧ True) := by kernel_rfl
theorem vLitTZ_eq  : vLitTZ  = (∃ (_x : Unit), True ∧ True ∧ true = true ∧ True) := by kernel_rfl
theorem vLitT_eq  (l r : LL) (e : Nat) (ro : Bool) (c : Nat) (ex : Bool) : vLitT l r e ro c ex = (bif ltI (20 : Int) (ic (List.length l)) then ∃ (_x : Unit), True ∧ ((bif e.beq e && sameB ro ro then cellsP (fun (b : Nat) => [(0 : Nat)].getD b (1 : Nat)) (ts (l ++ r)) (ts (l ++ r)) ∧ True else False) ∧ True) ∧ false = litT l ∧ True else (∃ (x : Nat), (x ≤ List.length l ∧ sumT (List.take x l) ≤ (300 : Nat)) ∧ ((bif e.beq e && sameB ro ro then cellsP (fun (b : Nat) => [(0 : Nat)].getD b (1 : Nat)) (ts (l ++ r)) (ts (l ++ r)) ∧ True else False) ∧ True) ∧ (0 : Int) = ic x ∧ (0 : Int) = ic (sumT (List.take x l)) ∧ True) ∧ ∀ (x : Nat), x ≤ List.length l ∧ sumT (List.take x l) ≤ (300 : Nat) → bif ltI (ic x) (ic (List.length l)) then bif ltI (ic x) (ic (List.length l)) then (ts (l ++ r))[(0 : Nat) + x * (1 : Nat)]? = some (AV.str (List.getD l x [])) ∧ bif leI (ic (sumT (List.take x l)) + ic (List.getD l x []).length) (9223372036854775807 : Int) then bif ltI (300 : Int) (ic (sumT (List.take x l)) + ic (List.getD l x []).length) then ∃ (_x : Unit), True ∧ ((bif e.beq e && sameB ro ro then cellsP (fun (b : Nat) => [(0 : Nat)].getD b (1 : Nat)) (ts (l ++ r)) (ts (l ++ r)) ∧ True else False) ∧ True) ∧ false = litT l ∧ True else bif leI (ic x + (1 : Int)) (9223372036854775807 : Int) then ∃ (y : Nat), (y ≤ List.length l ∧ sumT (List.take y l) ≤ (300 : Nat)) ∧ List.length l - y < List.length l - x ∧ ((bif e.beq e && sameB ro ro then cellsP (fun (b : Nat) => [(0 : Nat)].getD b (1 : Nat)) (ts (l ++ r)) (ts (l ++ r)) ∧ True else False) ∧ True) ∧ ic x + (1 : Int) = ic y ∧ ic (sumT (List.take x l)) + ic (List.getD l x []).length = ic (sumT (List.take y l)) ∧ True else False else False else False else ∃ (_x : Unit), True ∧ ((bif e.beq e && sameB ro ro then cellsP (fun (b : Nat) => [(0 : Nat)].getD b (1 : Nat)) (ts (l ++ r)) (ts (l ++ r)) ∧ True else False) ∧ True) ∧ true = litT l ∧ True) := by kernel_rfl
theorem fieldC_take (l r : FL) : (fieldC (l ++ r)).take (l.length * 2) = fieldC l := by
  have : fieldC (l ++ r) = fieldC l ++ fieldC r := by simp [fieldC]
  rw [this, Nat.mul_comm, ← fieldC_length, List.take_left]
theorem own_vc (l r : FL) (e : Nat) (ro : Bool) (c : Nat) (ex : Bool) (hl : totL l ≤ 274877906944) : vOwn l r e ro c ex := by
  rw [vOwn_eq]
  simp only [ic, cond_F, sameB_self, Nat.beq_refl]
  simp only [cond_P, leI_t, leI_f, ltI_t, ltI_f, eqI_t, eqI_f, and_t, not_t, not_f, dec_t, dec_f, Nat.zero_add, Nat.mul_one, List.drop_zero]
  simp only [cells_tsr, cells_fld, take_ts, ts_length, and_true, true_and, and_false, false_and, or_false, false_or, exists_false, Nat.le_refl, exists_const, Nat.succ_ne_self, Nat.not_succ_le_self, false_implies, not_false_eq_true, true_implies, fldT_at, fldOk_at, getS_ts]
  have h := tot_flen l
  refine ⟨by rw [fieldC_length, List.length_append]; omega, fun h0 => ?_, fun h0 => ⟨fun h1 => absurd h1 (by omega), fun _ => ⟨⟨by omega, by omega⟩, ?_⟩⟩⟩
  · exact List.length_eq_zero_iff.1 h0
  · refine ⟨by rintro rfl; simp at h0, ?_⟩
    rw [List.nil_append, fieldC_take, cells_fld]; trivial
theorem ownN_vc : vOwnN := by
  rw [vOwnN_eq]; simp [eqVs, cellsP]
theorem ownZ_vc : vOwnZ := by
  rw [vOwnZ_eq]; simp [eqVs, cellsP]
theorem sumT_app (a b : LL) : sumT (a ++ b) = sumT a + sumT b := by simp [sumT]
theorem sumT_step {l : LL} {x : Nat} (hx : x < l.length) : sumT (l.take (x + 1)) = sumT (l.take x) + (l.getD x []).length := by
  rw [List.take_succ_eq_append_getElem hx, sumT_app]
  simp [sumT, List.getD_eq_getElem?_getD, List.getElem?_eq_getElem hx]
theorem sumT_take (l : LL) (x : Nat) : sumT (l.take x) ≤ sumT l := by
  have := sumT_app (l.take x) (l.drop x)
  rw [List.take_append_drop] at this
  omega
theorem ts_get2 {l r : LL} {x : Nat} (hx : x < l.length) : (ts (l ++ r))[x]? = some (AV.str (List.getD l x [])) := by
  rw [ts_get (by rw [List.length_append]; omega), List.getD_eq_getElem?_getD, List.getD_eq_getElem?_getD, List.getElem?_append_left hx]
theorem litT_vc (l r : LL) (e : Nat) (ro : Bool) (c : Nat) (ex : Bool) (hl : ∀ s ∈ l, s.length ≤ 281474976710656) : vLitT l r e ro c ex := by
  rw [vLitT_eq]
  simp only [ic, cond_F, sameB_self, Nat.beq_refl]
  simp only [cond_P, leI_t, leI_f, ltI_t, ltI_f, eqI_t, eqI_f, and_t, not_t, not_f, dec_t, dec_f, Nat.zero_add, Nat.mul_one, List.drop_zero]
  simp only [cells_tsr, cells_fld, take_ts, ts_length, and_true, true_and, and_false, false_and, or_false, false_or, exists_false, Nat.le_refl, exists_const, Nat.succ_ne_self, Nat.not_succ_le_self, false_implies, not_false_eq_true, true_implies, fldT_at, fldOk_at, getS_ts]
  refine ⟨fun h => (decide_eq_false (by omega)).symm, fun h => ⟨⟨0, ⟨Nat.zero_le _, Nat.zero_le _⟩, rfl, rfl⟩, fun x hx => ⟨fun hlt => ?_, fun hge => ?_⟩⟩⟩
  · have hx' : x < l.length := by omega
    have h2 := hl _ (getD_mem hx')
    have h3 := sumT_step hx'
    have h4 := sumT_take l (x + 1)
    refine ⟨hlt, ts_get2 hx', by omega, fun hb => (decide_eq_false (by omega)).symm, fun hb => ⟨by omega, x + 1, ⟨by omega, by omega⟩, by omega, by omega, by omega⟩⟩
  · have e : l.take x = l := List.take_of_length_le (by omega)
    rw [e] at hx
    exact (decide_eq_true (by omega)).symm
theorem litTN_vc : vLitTN := by
  rw [vLitTN_eq]; simp
theorem litTZ_vc : vLitTZ := by
  rw [vLitTZ_eq]; simp
noncomputable def eLitT : SpecE := fun args H =>
  match args with
  | [.nilsl, .int .i64 20, .int .i64 300] => some (.ok (.bool true) none)
  | [.slz, .int .i64 20, .int .i64 300] => some (.ok (.bool true) none)
  | [.sl b 0 n _ _, .int .i64 20, .int .i64 300] => match H[b]? with
    | some (.cells vs _ _) => some (.needP (vs = ts (getS vs) ∧ n ≤ (getS vs).length ∧ ∀ s ∈ (getS vs).take n, s.length ≤ 281474976710656) (.ok (.bool (litT ((getS vs).take n))) none))
    | _ => none
  | _ => none
theorem eLitT_ok : EntryOk Tryd.prog 8 eLitT := by
  intro args H sr hs K hk
  unfold eLitT at hs
  split at hs
  · cases hs
    refine (SC.flat (K := fun v' H' => v' = .bool true ∧ H' = H) (SC.one (V := VR1) names0 mixed0 TR1_ok noO_ok litTN_vc) rfl ?_).mono ?_
    · rintro v0 T ⟨rfl, rfl⟩; exact ⟨(fun k hk => by cases hk), rfl, by simp⟩
    · rintro v H' ⟨rfl, rfl⟩; exact ⟨none, hk, rfl⟩
  · cases hs
    refine (SC.flat (K := fun v' H' => v' = .bool true ∧ H' = H) (SC.one (V := VR1) names0 mixed0 TR1_ok noO_ok litTZ_vc) rfl ?_).mono ?_
    · rintro v0 T ⟨rfl, rfl⟩; exact ⟨(fun k hk => by cases hk), rfl, by simp⟩
    · rintro v H' ⟨rfl, rfl⟩; exact ⟨none, hk, rfl⟩
  · rename_i b n c ex
    split at hs
    · rename_i vs e ro hb
      cases hs
      obtain ⟨⟨g1, g2, g3⟩, h2⟩ := hk
      have hl : n = ((getS vs).take n).length := by rw [List.length_take]; omega
      have h1 : vs = ts ((getS vs).take n ++ (getS vs).drop n) := by rw [List.take_append_drop]; exact g1
      generalize (getS vs).drop n = r at *
      generalize (getS vs).take n = l at *
      subst h1
      subst hl
      have hsc := out1 (SC.ofF (V := VR1) names0 mixed0 TR1_ok noO_ok (litT_vc l r e ro c ex g3))
      refine SC.reads1 (b := b) (H := H) hsc (cells_ren (ts_flat _) e ro) (by simp) hb ?_
      rintro v0 H0' ⟨rfl, rfl⟩
      exact ⟨[], rfl, (fun t ht => by cases ht), none, h2, by simp [chN]⟩
    · cases hs
  · cases hs
noncomputable def eOwn : SpecE := fun args H =>
  match args with
  | [.nilsl] => some (.ok (.sl H.length 0 0 0 true) (some (H ++ [.cells [] 0 false])))
  | [.slz] => some (.ok (.sl H.length 0 0 0 true) (some (H ++ [.cells [] 0 false])))
  | [.sl b 0 n _ _] => match H[b]? with
    | some (.cells vs _ _) => some (.needP (fldOk vs n) (.br (decide (fldT vs n = [])) (.ok (.sl H.length 0 0 0 true) (some (H ++ [.cells [] 0 false]))) (.ok (.sl H.length 0 (fldT vs n).length (fldT vs n).length false) (some (H ++ [.cells (fieldC (fldT vs n)) eF false])))))
    | _ => none
  | _ => none
theorem eOwn_ok : EntryOk Tryd.prog 9 eOwn := by
  intro args H sr hs K hk
  unfold eOwn at hs
  split at hs
  · cases hs
    refine SC.flat (SC.ofF (V := VR1) names0 mixed0 TR1_ok noO_ok ownN_vc) rfl ?_
    rintro v0 T ⟨o, ho, x, hx, rfl, rfl⟩
    simp only [List.mem_cons, List.mem_nil_iff, or_false] at ho
    subst ho
    exact ⟨(fun k hk => by simp at hk; subst hk; exact .inl rfl), _, hk, rfl⟩
  · cases hs
    refine SC.flat (SC.ofF (V := VR1) names0 mixed0 TR1_ok noO_ok ownZ_vc) rfl ?_
    rintro v0 T ⟨o, ho, x, hx, rfl, rfl⟩
    simp only [List.mem_cons, List.mem_nil_iff, or_false] at ho
    subst ho
    exact ⟨(fun k hk => by simp at hk; subst hk; exact .inl rfl), _, hk, rfl⟩
  · rename_i b n c ex
    split at hs
    · rename_i vs e ro hb
      cases hs
      obtain ⟨g1, h2⟩ := hk
      obtain ⟨q1, q2⟩ := cond_dec h2
      obtain ⟨r, h1, hl, h3⟩ := fldOk_ex g1
      generalize fldT vs n = l at *
      subst h1
      subst hl
      refine SC.reads1 (b := b) (H := H) (SC.ofF (V := VR1) names0 mixed0 TR1_ok noO_ok (own_vc l r e ro c ex h3)) (cells_ren (fieldC_flat _) e ro) (by simp) hb ?_
      rintro v0 H0' ⟨o, ho, x, hx, rfl, rfl⟩
      simp only [List.mem_cons, List.mem_nil_iff, or_false] at ho
      rcases ho with rfl | rfl
      · exact ⟨[.cells [] 0 false], rfl, (fun t ht => by simp at ht; subst ht; exact .inl rfl), _, q1 hx, rfl⟩
      · refine ⟨[.cells (fieldC l) eF false], rfl, (fun t ht => by simp at ht; subst ht; exact .inl rfl), _, q2 hx, ?_⟩
        show H ++ [(ABlk.cells (fieldC l) eF false).ren _] = _
        rw [cells_ren (fieldC_flat _)]
        rfl
    · cases hs
  · cases hs
end Go.Proofs.YtiobbjbodpkpjaaDoor

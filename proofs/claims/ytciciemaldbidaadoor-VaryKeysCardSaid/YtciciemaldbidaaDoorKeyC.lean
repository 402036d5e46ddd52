/- Texts in memory of their own, light texts, one of so many: as the law VaryKeys asks them. -/
import Derived.Test.YtciciemaldbidaaDoorWhC
set_option linter.unusedSimpArgs false
set_option linter.unusedVariables false
namespace Go.Proofs.YtciciemaldbidaaDoor
open Go Go.Ve
set_option maxRecDepth 20000
def litT (l : LL) : Bool := decide (l.length ≤ 20 ∧ sumT l ≤ 300)
noncomputable def aLitT (l r : LL) (e : Nat) (ro : Bool) : Anns := [(5, [.mk Nat (fun i => [(8, .int .i64 i), (7, .int .i64 (sumT (l.take i)))]) (fun _ => some [.cells (ts (l ++ r)) e ro]) (fun i => i ≤ l.length ∧ sumT (l.take i) ≤ 300) (fun i => l.length - i) gcB gcB (fun i => [(23, .str (l.getD i []))]) (fun _ => [])])]
def pickN (n m : Int) : Int := if m < 1 then 0 else if Int.tmod n m < 0 then Int.tmod n m + m else Int.tmod n m
def light20 (l : FL) : Bool := decide (l.length ≤ 20 ∧ sumL l ≤ 600)
noncomputable def eLit20 : SpecE := fun args H =>
  match args with
  | [.nilsl] => some (.ok (.bool true) none)
  | [.slz] => some (.ok (.bool true) none)
  | [.sl b 0 n _ _] => match H[b]? with
    | some (.cells vs _ _) => some (.needP (vs = fieldC (getF vs) ∧ n ≤ (getF vs).length ∧ ∀ f ∈ fldT vs n, f.1.length ≤ 281474976710656 ∧ f.2.length ≤ 281474976710656) (.ok (.bool (light20 (fldT vs n))) none))
    | _ => none
  | _ => none
noncomputable def eLitK : SpecE := fun args H =>
  match args with
  | [.nilsl, .int .i64 20, .int .i64 600] => some (.ok (.bool true) none)
  | [.slz, .int .i64 20, .int .i64 600] => some (.ok (.bool true) none)
  | [.sl b 0 n _ _, .int .i64 20, .int .i64 600] => match H[b]? with
    | some (.cells vs _ _) => some (.needP (vs = fieldC (getF vs) ∧ n ≤ (getF vs).length ∧ ∀ f ∈ fldT vs n, f.1.length ≤ 281474976710656 ∧ f.2.length ≤ 281474976710656) (.ok (.bool (light20 (fldT vs n))) none))
    | _ => none
  | _ => none
noncomputable def VLt : VE := ⟨Tryd.prog, tabS [(35, eLitK)] noS, noO, fun _ => none⟩

noncomputable def vLk  (l r : FL) (e : Nat) (ro : Bool) (c : Nat) (ex : Bool) : Prop := vcF VR1 [(7, .quiet)] 300 (aLit l r e ro) [] 35 [.sl 0 0 l.length c ex, .int .i64 20, .int .i64 600] [.cells (fieldC (l ++ r)) e ro] (outF l r e ro (.bool (light20 l)))
noncomputable def vLkN  : Prop := vcF VR1 [(7, .quiet)] 300 [] [] 35 [.nilsl, .int .i64 20, .int .i64 600] [] (Go.Ve.one (.bool true))
noncomputable def vLkZ  : Prop := vcF VR1 [(7, .quiet)] 300 [] [] 35 [.slz, .int .i64 20, .int .i64 600] [] (Go.Ve.one (.bool true))
noncomputable def vLt  (l r : FL) (e : Nat) (ro : Bool) (c : Nat) (ex : Bool) : Prop := vcF VLt [] 300 [] [] 20 [.sl 0 0 l.length c ex] [.cells (fieldC (l ++ r)) e ro] (outF l r e ro (.bool (light20 l)))
noncomputable def vLtN  : Prop := vcF VLt [] 300 [] [] 20 [.nilsl] [] (Go.Ve.one (.bool true))
noncomputable def vLtZ  : Prop := vcF VLt [] 300 [] [] 20 [.slz] [] (Go.Ve.one (.bool true))
noncomputable def vOsN  : Prop := vcF VR1 [] 300 [] [] 33 [.nilsl] [] [⟨Unit, fun _ => .sl 0 0 0 0 true, fun _ => [.cells [] 0 false], fun _ => True, gcB⟩]
noncomputable def vOsZ  : Prop := vcF VR1 [] 300 [] [] 33 [.slz] [] [⟨Unit, fun _ => .sl 0 0 0 0 true, fun _ => [.cells [] 0 false], fun _ => True, gcB⟩]
noncomputable def vOs  (l r : LL) (e : Nat) (ro : Bool) (c : Nat) (ex : Bool) : Prop := vcF VR1 [] 300 [] [] 33 [.sl 0 0 l.length c ex] [.cells (ts (l ++ r)) e ro] [⟨Unit, fun _ => .sl 1 0 0 0 true, fun _ => [.cells (ts (l ++ r)) e ro, .cells [] 0 false], fun _ => l = [], gcB⟩, ⟨Unit, fun _ => .sl 1 0 l.length l.length false, fun _ => [.cells (ts (l ++ r)) e ro, .cells (ts l) eT false], fun _ => l ≠ [], gcB⟩]
noncomputable def vLtTN  : Prop := vcF VR1 [] 300 [] [] 26 [.nilsl, .int .i64 20, .int .i64 300] [] (Go.Ve.one (.bool true))
noncomputable def vLtTZ  : Prop := vcF VR1 [] 300 [] [] 26 [.slz, .int .i64 20, .int .i64 300] [] (Go.Ve.one (.bool true))
noncomputable def vLtT  (l r : LL) (e : Nat) (ro : Bool) (c : Nat) (ex : Bool) : Prop := vcF VR1 [] 300 (aLitT l r e ro) [] 26 [.sl 0 0 l.length c ex, .int .i64 20, .int .i64 300] [.cells (ts (l ++ r)) e ro] [⟨Unit, fun _ => .bool (litT l), fun _ => [.cells (ts (l ++ r)) e ro], fun _ => True, gcB⟩]
noncomputable def vPick  (n m : Int) : Prop := vcF VTc [] 300 [] [(10, .int .i64 0)] 32 [.int .i64 n, .int .i64 m] [] (Go.Ve.one (.int .i64 (pickN n m)))
def gqKeyC0 : Nat → Nat := (fun (b : Nat) => [(0 : Nat)].getD b (1 : Nat))
def gqKeyC1 : Nat → Nat := (fun (b : Nat) => [(0 : Nat), (1 : Nat)].getD b (2 : Nat))
theorem vLk_eq  (l r : FL) (e : Nat) (ro : Bool) (c : Nat) (ex : Bool) : vLk l r e ro c ex = (bif ltI (20 : Int) (ic (List.length l)) then ∃ (_x : Unit), True ∧ ((bif e.beq e && sameB ro ro then cellsP gqKeyC0 (fieldC (l ++ r)) (fieldC (l ++ r)) ∧ True else False) ∧ True) ∧ false = light20 l ∧ True else (∃ (x : Nat), (x ≤ List.length l ∧ sumL (List.take x l) ≤ (600 : Nat)) ∧ ((bif e.beq e && sameB ro ro then cellsP gqKeyC0 (fieldC (l ++ r)) (fieldC (l ++ r)) ∧ True else False) ∧ True) ∧ (0 : Int) = ic x ∧ (0 : Int) = ic (sumL (List.take x l)) ∧ True) ∧ ∀ (x : Nat), x ≤ List.length l ∧ sumL (List.take x l) ≤ (600 : Nat) → bif ltI (ic x) (ic (List.length l)) then bif ltI (ic x) (ic (List.length l)) then (fieldC (l ++ r))[(0 : Nat) + x * (2 : Nat) + (0 : Nat)]? = some (AV.str (fld l x).fst) ∧ bif leI (ic (sumL (List.take x l)) + ic (fld l x).fst.length) (9223372036854775807 : Int) then bif ltI (ic x) (ic (List.length l)) then (fieldC (l ++ r))[(0 : Nat) + x * (2 : Nat) + (1 : Nat)]? = some (AV.str (fld l x).snd) ∧ bif leI (ic (sumL (List.take x l)) + ic (fld l x).fst.length + ic (fld l x).snd.length) (9223372036854775807 : Int) then bif ltI (600 : Int) (ic (sumL (List.take x l)) + ic (fld l x).fst.length + ic (fld l x).snd.length) then ∃ (_x : Unit), True ∧ ((bif e.beq e && sameB ro ro then cellsP gqKeyC0 (fieldC (l ++ r)) (fieldC (l ++ r)) ∧ True else False) ∧ True) ∧ false = light20 l ∧ True else bif leI (ic x + (1 : Int)) (9223372036854775807 : Int) then ∃ (y : Nat), (y ≤ List.length l ∧ sumL (List.take y l) ≤ (600 : Nat)) ∧ List.length l - y < List.length l - x ∧ ((bif e.beq e && sameB ro ro then cellsP gqKeyC0 (fieldC (l ++ r)) (fieldC (l ++ r)) ∧ True else False) ∧ True) ∧ ic x + (1 : Int) = ic y ∧ ic (sumL (List.take x l)) + ic (fld l x).fst.length + ic (fld l x).snd.length = ic (sumL (List.take y l)) ∧ True else False else False else False else False else False else ∃ (_x : Unit), True ∧ ((bif e.beq e && sameB ro ro then cellsP gqKeyC0 (fieldC (l ++ r)) (fieldC (l ++ r)) ∧ True else False) ∧ True) ∧ true = light20 l ∧ True) := by kernel_rfl
theorem vLkN_eq  : vLkN  = (∃ (_x : Unit), True ∧ True ∧ true = true ∧ True) := by kernel_rfl
theorem vLkZ_eq  : vLkZ  = (∃ (_x : Unit), True ∧ True ∧ true = true ∧ True) := by kernel_rfl
theorem vLt_eq  (l r : FL) (e : Nat) (ro : Bool) (c : Nat) (ex : Bool) : vLt l r e ro c ex = ((fieldC (l ++ r) = fieldC (getF (fieldC (l ++ r))) ∧ List.length l ≤ List.length (getF (fieldC (l ++ r))) ∧ ∀ (f : List UInt8 × List UInt8), List.Mem f (fldT (fieldC (l ++ r)) (List.length l)) → f.fst.length ≤ (281474976710656 : Nat) ∧ f.snd.length ≤ (281474976710656 : Nat)) ∧ ∃ (_x : Unit), True ∧ ((bif e.beq e && sameB ro ro then cellsP gqKeyC0 (fieldC (l ++ r)) (fieldC (l ++ r)) ∧ True else False) ∧ True) ∧ light20 (fldT (fieldC (l ++ r)) (List.length l)) = light20 l ∧ True) := by kernel_rfl
theorem vLtN_eq  : vLtN  = (∃ (_x : Unit), True ∧ True ∧ true = true ∧ True) := by kernel_rfl
theorem vLtZ_eq  : vLtZ  = (∃ (_x : Unit), True ∧ True ∧ true = true ∧ True) := by kernel_rfl
theorem vOsN_eq  : vOsN  = (∃ (_x : Unit), True ∧ ((True ∧ True) ∧ True) ∧ ((0 : Nat) = (0 : Nat) ∧ (0 : Nat) = (0 : Nat) ∧ (0 : Nat) = (0 : Nat) ∧ true = true) ∧ True) := by kernel_rfl
theorem vOsZ_eq  : vOsZ  = (∃ (_x : Unit), True ∧ ((True ∧ True) ∧ True) ∧ ((0 : Nat) = (0 : Nat) ∧ (0 : Nat) = (0 : Nat) ∧ (0 : Nat) = (0 : Nat) ∧ true = true) ∧ True) := by kernel_rfl
theorem vOs_eq  (l r : LL) (e : Nat) (ro : Bool) (c : Nat) (ex : Bool) : vOs l r e ro c ex = (bif decide ((0 : Nat) + List.length l * (1 : Nat) ≤ (ts (l ++ r)).length) then bif decide (List.length l = (0 : Nat)) then (∃ (_x : Unit), l = [] ∧ ((bif e.beq e && sameB ro ro then cellsP gqKeyC1 (ts (l ++ r)) (ts (l ++ r)) ∧ True else False) ∧ (True ∧ True) ∧ True) ∧ ((0 : Nat) = (0 : Nat) ∧ (0 : Nat) = (0 : Nat) ∧ (0 : Nat) = (0 : Nat) ∧ true = true) ∧ True) ∨ ∃ (_x : Unit), l ≠ [] ∧ ((bif e.beq e && sameB ro ro then cellsP gqKeyC1 (ts (l ++ r)) (ts (l ++ r)) ∧ True else False) ∧ False ∧ True) ∧ ((0 : Nat) = (0 : Nat) ∧ (0 : Nat) = List.length l ∧ (0 : Nat) = List.length l ∧ true = false) ∧ True else bif decide ((0 : Nat) + List.length l ≤ (0 : Nat)) then bif decide ((0 : Nat) + ((0 : Nat) + List.length l) * (1 : Nat) ≤ (0 : Nat)) && AV.allOne (List.take (List.length l * (1 : Nat)) (List.drop (0 : Nat) (ts (l ++ r)))) then (∃ (_x : Unit), l = [] ∧ ((bif e.beq e && sameB ro ro then cellsP gqKeyC1 (ts (l ++ r)) (ts (l ++ r)) ∧ True else False) ∧ (cellsP gqKeyC1 [] (setManyF [] (0 : Nat) (List.take (List.length l * (1 : Nat)) (List.drop (0 : Nat) (ts (l ++ r))))) ∧ True) ∧ True) ∧ ((0 : Nat) = (0 : Nat) ∧ (0 : Nat) + List.length l = (0 : Nat) ∧ (0 : Nat) = (0 : Nat) ∧ true = true) ∧ True) ∨ ∃ (_x : Unit), l ≠ [] ∧ ((bif e.beq e && sameB ro ro then cellsP gqKeyC1 (ts (l ++ r)) (ts (l ++ r)) ∧ True else False) ∧ False ∧ True) ∧ ((0 : Nat) = (0 : Nat) ∧ (0 : Nat) + List.length l = List.length l ∧ (0 : Nat) = List.length l ∧ true = false) ∧ True else False else bif decide ((0 : Nat) + List.length l ≤ (9223372036854775807 : Nat)) && decide (((0 : Nat) + List.length l) * (16 : Nat) ≤ (140737488355328 : Nat)) then (∃ (_x : Unit), l = [] ∧ ((bif e.beq e && sameB ro ro then cellsP (fun (b : Nat) => [(0 : Nat), (2 : Nat)].getD b (3 : Nat)) (ts (l ++ r)) (ts (l ++ r)) ∧ True else False) ∧ False ∧ True) ∧ ((0 : Nat) = (0 : Nat) ∧ (0 : Nat) + List.length l = (0 : Nat) ∧ (0 : Nat) + List.length l = (0 : Nat) ∧ false = true) ∧ True) ∨ ∃ (_x : Unit), l ≠ [] ∧ ((bif e.beq e && sameB ro ro then cellsP (fun (b : Nat) => [(0 : Nat), (2 : Nat)].getD b (3 : Nat)) (ts (l ++ r)) (ts (l ++ r)) ∧ True else False) ∧ (cellsP (fun (b : Nat) => [(0 : Nat), (2 : Nat)].getD b (3 : Nat)) (ts l) (([] : List AV) ++ List.take (List.length l * (1 : Nat)) (List.drop (0 : Nat) (ts (l ++ r)))) ∧ True) ∧ True) ∧ ((0 : Nat) = (0 : Nat) ∧ (0 : Nat) + List.length l = List.length l ∧ (0 : Nat) + List.length l = List.length l ∧ false = false) ∧ True else False else False) := by kernel_rfl
theorem vLtTN_eq  : vLtTN  = (∃ (_x : Unit), True ∧ True ∧ true = true ∧ True) := by kernel_rfl
theorem vLtTZ_eq  : vLtTZ  = (∃ (_x : Unit), True ∧ True ∧ true = true ∧ True) := by kernel_rfl
theorem vLtT_eq  (l r : LL) (e : Nat) (ro : Bool) (c : Nat) (ex : Bool) : vLtT l r e ro c ex = (bif ltI (20 : Int) (ic (List.length l)) then ∃ (_x : Unit), True ∧ ((bif e.beq e && sameB ro ro then cellsP gqKeyC0 (ts (l ++ r)) (ts (l ++ r)) ∧ True else False) ∧ True) ∧ false = litT l ∧ True else (∃ (x : Nat), (x ≤ List.length l ∧ sumT (List.take x l) ≤ (300 : Nat)) ∧ ((bif e.beq e && sameB ro ro then cellsP gqKeyC0 (ts (l ++ r)) (ts (l ++ r)) ∧ True else False) ∧ True) ∧ (0 : Int) = ic x ∧ (0 : Int) = ic (sumT (List.take x l)) ∧ True) ∧ ∀ (x : Nat), x ≤ List.length l ∧ sumT (List.take x l) ≤ (300 : Nat) → bif ltI (ic x) (ic (List.length l)) then bif ltI (ic x) (ic (List.length l)) then (ts (l ++ r))[(0 : Nat) + x * (1 : Nat)]? = some (AV.str (List.getD l x [])) ∧ bif leI (ic (sumT (List.take x l)) + ic (List.getD l x []).length) (9223372036854775807 : Int) then bif ltI (300 : Int) (ic (sumT (List.take x l)) + ic (List.getD l x []).length) then ∃ (_x : Unit), True ∧ ((bif e.beq e && sameB ro ro then cellsP gqKeyC0 (ts (l ++ r)) (ts (l ++ r)) ∧ True else False) ∧ True) ∧ false = litT l ∧ True else bif leI (ic x + (1 : Int)) (9223372036854775807 : Int) then ∃ (y : Nat), (y ≤ List.length l ∧ sumT (List.take y l) ≤ (300 : Nat)) ∧ List.length l - y < List.length l - x ∧ ((bif e.beq e && sameB ro ro then cellsP gqKeyC0 (ts (l ++ r)) (ts (l ++ r)) ∧ True else False) ∧ True) ∧ ic x + (1 : Int) = ic y ∧ ic (sumT (List.take x l)) + ic (List.getD l x []).length = ic (sumT (List.take y l)) ∧ True else False else False else False else ∃ (_x : Unit), True ∧ ((bif e.beq e && sameB ro ro then cellsP gqKeyC0 (ts (l ++ r)) (ts (l ++ r)) ∧ True else False) ∧ True) ∧ true = litT l ∧ True) := by kernel_rfl
theorem vPick_eq  (n m : Int) : vPick n m = (bif ltI m (1 : Int) then ∃ (_x : Unit), True ∧ True ∧ (0 : Int) = pickN n m ∧ True else bif !eqI m (0 : Int) then bif ltI (n.tmod m) (0 : Int) then bif leI (-9223372036854775808 : Int) (n.tmod m + m) && leI (n.tmod m + m) (9223372036854775807 : Int) then ∃ (_x : Unit), True ∧ True ∧ n.tmod m + m = pickN n m ∧ True else False else ∃ (_x : Unit), True ∧ True ∧ n.tmod m = pickN n m ∧ True else False) := by kernel_rfl
theorem os_vc (l r : LL) (e : Nat) (ro : Bool) (c : Nat) (ex : Bool) (hl : l.length ≤ 1099511627776) : vOs l r e ro c ex := by
  rw [vOs_eq]
  simp only [ic, cond_F, sameB_self, Nat.beq_refl]
  simp only [cond_P, leI_t, leI_f, ltI_t, ltI_f, eqI_t, eqI_f, and_t, not_t, not_f, dec_t, dec_f, Nat.zero_add, Nat.mul_one, List.drop_zero]
  simp only [cells_tsr, cells_fld, take_ts, ts_length, and_true, true_and, and_false, false_and, or_false, false_or, exists_false, Nat.le_refl, exists_const, Nat.succ_ne_self, Nat.not_succ_le_self, false_implies, not_false_eq_true, true_implies, fldT_at, fldOk_at, getS_ts]
  have ht : (ts (l ++ r)).take l.length = ts l := by unfold ts; rw [List.map_append]; exact List.take_left' (by simp)
  refine ⟨by rw [List.length_append]; omega, fun h0 => ?_, fun h0 => ⟨fun h1 => absurd h1 (by omega), fun _ => ⟨⟨by omega, by omega⟩, ?_⟩⟩⟩
  · exact List.length_eq_zero_iff.1 (by omega)
  · refine ⟨by rintro rfl; simp at h0, ?_⟩
    rw [List.nil_append, ht, cells_tsr]; trivial
theorem osN_vc : Holds2 vOsN := ⟨by rw [vOsN_eq]; simp [eqVs, cellsP]⟩
theorem osZ_vc : Holds2 vOsZ := ⟨by rw [vOsZ_eq]; simp [eqVs, cellsP]⟩
theorem ltTN_vc : Holds2 vLtTN := ⟨by rw [vLtTN_eq]; simp⟩
theorem ltTZ_vc : Holds2 vLtTZ := ⟨by rw [vLtTZ_eq]; simp⟩
theorem ltT_vc (l r : LL) (e : Nat) (ro : Bool) (c : Nat) (ex : Bool) (hl : ∀ s ∈ l, s.length ≤ 281474976710656) : vLtT l r e ro c ex := by
  rw [vLtT_eq]
  simp only [ic, cond_F, sameB_self, Nat.beq_refl]
  simp only [cond_P, leI_t, leI_f, ltI_t, ltI_f, eqI_t, eqI_f, and_t, not_t, not_f, dec_t, dec_f, Nat.zero_add, Nat.mul_one, List.drop_zero]
  simp only [cells_tsr, cells_fld, take_ts, ts_length, and_true, true_and, and_false, false_and, or_false, false_or, exists_false, Nat.le_refl, exists_const, Nat.succ_ne_self, Nat.not_succ_le_self, false_implies, not_false_eq_true, true_implies, fldT_at, fldOk_at, getS_ts]
  refine ⟨fun h => (decide_eq_false (by omega)).symm, fun h => ⟨⟨0, ⟨Nat.zero_le _, Nat.zero_le _⟩, rfl, rfl⟩, fun x hx => ⟨fun hlt => ?_, fun hge => ?_⟩⟩⟩
  · have hx' : x < l.length := by omega
    have h2 := hl _ (getD_mem hx')
    have h3 := sumT_step hx'
    have h4 := sumT_take l (x + 1)
    refine ⟨hlt, ts_get2 hx', by omega, fun hb => (decide_eq_false (by omega)).symm, fun hb => ⟨by omega, x + 1, ⟨by omega, by omega⟩, by omega, by omega, by omega⟩⟩
  · have e : l.take x = l := List.take_of_length_le (by omega)
    rw [e] at hx
    exact (decide_eq_true (by omega)).symm
theorem pick_vc (n m : Int) (hm : inK .i64 m = true) : vPick n m := by
  rw [vPick_eq]
  simp only [ic, cond_F]
  simp only [cond_P, leI_t, leI_f, ltI_t, ltI_f, eqI_t, eqI_f, and_t, not_t, not_f, dec_t, dec_f, Nat.zero_add, Nat.mul_one, List.drop_zero]
  simp only [cells_tsr, cells_fld, take_ts, ts_length, and_true, true_and, and_false, false_and, or_false, false_or, exists_false, Nat.le_refl, exists_const, Nat.succ_ne_self, Nat.not_succ_le_self, false_implies, not_false_eq_true, true_implies, fldT_at, fldOk_at, getS_ts]
  simp only [inK, leI_eq, Bool.and_eq_true, decide_eq_true_eq] at hm
  refine ⟨fun h => by simp [pickN, h], fun h => ⟨by omega, fun h1 => ?_, fun h1 => ?_⟩⟩
  · have h2 : -m < n.tmod m := by
      have := Int.lt_tmod_of_pos n (show 0 < m by omega)
      omega
    refine ⟨⟨by omega, by omega⟩, ?_⟩
    unfold pickN
    rw [if_neg (by omega), if_pos h1]
  · unfold pickN
    rw [if_neg (by omega), if_neg (by omega)]
theorem pick_in (n : Int) {m : Int} (h : 1 ≤ m) : 0 ≤ pickN n m ∧ pickN n m < m := by
  have h1 := Int.lt_tmod_of_pos n (show 0 < m by omega)
  have h2 := Int.tmod_lt_of_pos n (show 0 < m by omega)
  unfold pickN
  rw [if_neg (by omega)]
  split <;> omega
noncomputable def eLtT : SpecE := fun args H =>
  match args with
  | [.nilsl, .int .i64 20, .int .i64 300] => some (.ok (.bool true) none)
  | [.slz, .int .i64 20, .int .i64 300] => some (.ok (.bool true) none)
  | [.sl b 0 n _ _, .int .i64 20, .int .i64 300] => match H[b]? with
    | some (.cells vs _ _) => some (.needP (vs = ts (getS vs) ∧ n ≤ (getS vs).length ∧ ∀ s ∈ (getS vs).take n, s.length ≤ 281474976710656) (.ok (.bool (litT ((getS vs).take n))) none))
    | _ => none
  | _ => none
theorem eLtT_ok : EntryOk Tryd.prog 26 eLtT := by
  intro args H sr hs K hk
  unfold eLtT at hs
  split at hs
  · cases hs
    refine (SC.flat (K := fun v' H' => v' = .bool true ∧ H' = H) (oneH (SC.ofH2 (V := VR1) names0 mixed0 TR1_ok noO_ok ltTN_vc)) rfl ?_).mono ?_
    · rintro v0 T ⟨rfl, rfl⟩; exact ⟨(fun k hk => by cases hk), rfl, by simp⟩
    · rintro v H' ⟨rfl, rfl⟩; exact ⟨none, hk, rfl⟩
  · cases hs
    refine (SC.flat (K := fun v' H' => v' = .bool true ∧ H' = H) (oneH (SC.ofH2 (V := VR1) names0 mixed0 TR1_ok noO_ok ltTZ_vc)) rfl ?_).mono ?_
    · rintro v0 T ⟨rfl, rfl⟩; exact ⟨(fun k hk => by cases hk), rfl, by simp⟩
    · rintro v H' ⟨rfl, rfl⟩; exact ⟨none, hk, rfl⟩
  · rename_i b n c ex
    split at hs
    · rename_i vs e ro hb
      cases hs
      obtain ⟨⟨g1, g2, g3⟩, h2⟩ := hk
      have hl : n = ((getS vs).take n).length := by rw [List.length_take]; omega
      have h1 : vs = ts ((getS vs).take n ++ (getS vs).drop n) := by rw [List.take_append_drop]; exact g1
      generalize (getS vs).drop n = r at *
      generalize (getS vs).take n = l at *
      subst h1
      subst hl
      have hsc := out1 (SC.ofF (V := VR1) names0 mixed0 TR1_ok noO_ok (ltT_vc l r e ro c ex g3))
      refine SC.reads1 (b := b) (H := H) hsc (cells_ren (ts_flat _) e ro) (by simp) hb ?_
      rintro v0 H0' ⟨rfl, rfl⟩
      exact ⟨[], rfl, (fun t ht => by cases ht), none, h2, by simp [chN]⟩
    · cases hs
  · cases hs
noncomputable def eOs : SpecE := fun args H =>
  match args with
  | [.nilsl] => some (.ok (.sl H.length 0 0 0 true) (some (H ++ [.cells [] 0 false])))
  | [.slz] => some (.ok (.sl H.length 0 0 0 true) (some (H ++ [.cells [] 0 false])))
  | [.sl b 0 n _ _] => match H[b]? with
    | some (.cells vs _ _) => some (.needP (vs = ts (getS vs) ∧ n ≤ (getS vs).length ∧ n ≤ 1099511627776) (.br (decide (n = 0)) (.ok (.sl H.length 0 0 0 true) (some (H ++ [.cells [] 0 false]))) (.ok (.sl H.length 0 n n false) (some (H ++ [.cells (ts ((getS vs).take n)) eT false])))))
    | _ => none
  | _ => none
theorem eOs_ok : EntryOk Tryd.prog 33 eOs := by
  intro args H sr hs K hk
  unfold eOs at hs
  split at hs
  · cases hs
    refine SC.flat (SC.ofH2 (V := VR1) names0 mixed0 TR1_ok noO_ok osN_vc) rfl ?_
    rintro v0 T ⟨o, ho, x, hx, rfl, rfl⟩
    simp only [List.mem_cons, List.mem_nil_iff, or_false] at ho
    subst ho
    exact ⟨(fun k hk => by simp at hk; subst hk; exact .inl rfl), _, hk, rfl⟩
  · cases hs
    refine SC.flat (SC.ofH2 (V := VR1) names0 mixed0 TR1_ok noO_ok osZ_vc) rfl ?_
    rintro v0 T ⟨o, ho, x, hx, rfl, rfl⟩
    simp only [List.mem_cons, List.mem_nil_iff, or_false] at ho
    subst ho
    exact ⟨(fun k hk => by simp at hk; subst hk; exact .inl rfl), _, hk, rfl⟩
  · rename_i b n c ex
    split at hs
    · rename_i vs e ro hb
      cases hs
      obtain ⟨⟨g1, g2, g3⟩, h2⟩ := hk
      obtain ⟨q1, q2⟩ := cond_dec h2
      have hl : n = ((getS vs).take n).length := by rw [List.length_take]; omega
      have h1 : vs = ts ((getS vs).take n ++ (getS vs).drop n) := by rw [List.take_append_drop]; exact g1
      generalize (getS vs).drop n = r at *
      generalize (getS vs).take n = l at *
      subst h1
      subst hl
      refine SC.reads1 (b := b) (H := H) (SC.ofF (V := VR1) names0 mixed0 TR1_ok noO_ok (os_vc l r e ro c ex g3)) (cells_ren (ts_flat _) e ro) (by simp) hb ?_
      rintro v0 H0' ⟨o, ho, x, hx, rfl, rfl⟩
      simp only [List.mem_cons, List.mem_nil_iff, or_false] at ho
      rcases ho with rfl | rfl
      · exact ⟨[.cells [] 0 false], rfl, (fun t ht => by simp at ht; subst ht; exact .inl rfl), _, q1 (by rw [show l = [] from hx]; rfl), rfl⟩
      · refine ⟨[.cells (ts l) eT false], rfl, (fun t ht => by simp at ht; subst ht; exact .inl rfl), _, q2 (fun e => hx (List.length_eq_zero_iff.1 e)), ?_⟩
        show H ++ [(ABlk.cells (ts l) eT false).ren _] = _
        rw [cells_ren (ts_flat _)]
        rfl
    · cases hs
  · cases hs
def gPickN (args : List AV) : Option (Bool × AV) := match args with | [.int .i64 n, .int .i64 m] => some (inK .i64 m, .int .i64 (pickN n m)) | _ => none
theorem gPickN_ok : EntryOk Tryd.prog 32 (flatE gPickN) := by
  refine flatE_ok fun args b v hg hb => ?_
  unfold gPickN at hg
  split at hg
  · cases hg
    exact ⟨rfl, rfl, SC.one (V := VTc) names0 mixed0 noS_ok noO_ok (pick_vc _ _ hb)⟩
  · cases hg
theorem lk_vc (l r : FL) (e : Nat) (ro : Bool) (c : Nat) (ex : Bool) (hl : ∀ f ∈ l, f.1.length ≤ 281474976710656 ∧ f.2.length ≤ 281474976710656) : vLk l r e ro c ex := by
  rw [vLk_eq]
  simp only [ic, cond_F, sameB_self, Nat.beq_refl]
  simp only [cond_P, leI_t, leI_f, ltI_t, ltI_f, eqI_t, eqI_f, and_t, not_t, not_f, dec_t, dec_f, Nat.zero_add, Nat.mul_one, List.drop_zero]
  simp only [cells_tsr, cells_fld, take_ts, ts_length, and_true, true_and, and_false, false_and, or_false, false_or, exists_false, Nat.le_refl, exists_const, Nat.succ_ne_self, Nat.not_succ_le_self, false_implies, not_false_eq_true, true_implies, fldT_at, fldOk_at, getS_ts]
  refine ⟨fun h => (decide_eq_false (by omega)).symm, fun h => ⟨⟨0, ⟨Nat.zero_le _, Nat.zero_le _⟩, rfl, rfl⟩, fun x hx => ⟨fun hlt => ?_, fun hge => ?_⟩⟩⟩
  · have hx' : x < l.length := by omega
    have h1 := fieldC_get l r x hx'
    have h2 := hl _ (fld_mem hx')
    have h3 := sumL_step hx'
    have h4 := sumL_take l (x + 1)
    refine ⟨hlt, h1.1, by omega, hlt, h1.2, by omega, fun hb => (decide_eq_false (by omega)).symm, fun hb => ⟨by omega, x + 1, ⟨by omega, by omega⟩, by omega, by omega, by omega⟩⟩
  · have e : l.take x = l := List.take_of_length_le (by omega)
    rw [e] at hx
    exact (decide_eq_true (by omega)).symm
theorem lkN_vc : Holds2 vLkN := ⟨by rw [vLkN_eq]; simp⟩
theorem lkZ_vc : Holds2 vLkZ := ⟨by rw [vLkZ_eq]; simp⟩
theorem eLitK_ok : EntryOk Tryd.prog 35 eLitK := by
  intro args H sr hs K hk
  unfold eLitK at hs
  split at hs
  · cases hs
    refine (SC.flat (K := fun v' H' => v' = .bool true ∧ H' = H) (oneH (SC.ofH2 (V := VR1) names0 mixed0 TR1_ok noO_ok lkN_vc)) rfl ?_).mono ?_
    · rintro v0 T ⟨rfl, rfl⟩; exact ⟨(fun k hk => by cases hk), rfl, by simp⟩
    · rintro v H' ⟨rfl, rfl⟩; exact ⟨none, hk, rfl⟩
  · cases hs
    refine (SC.flat (K := fun v' H' => v' = .bool true ∧ H' = H) (oneH (SC.ofH2 (V := VR1) names0 mixed0 TR1_ok noO_ok lkZ_vc)) rfl ?_).mono ?_
    · rintro v0 T ⟨rfl, rfl⟩; exact ⟨(fun k hk => by cases hk), rfl, by simp⟩
    · rintro v H' ⟨rfl, rfl⟩; exact ⟨none, hk, rfl⟩
  · rename_i b n c ex
    split at hs
    · rename_i vs e ro hb
      cases hs
      obtain ⟨⟨g1, g2, g3⟩, h2⟩ := hk
      have hl : n = (fldT vs n).length := by unfold fldT; rw [List.length_take]; omega
      have h1 : vs = fieldC (fldT vs n ++ (getF vs).drop n) := by unfold fldT; rw [List.take_append_drop]; exact g1
      generalize (getF vs).drop n = r at *
      generalize fldT vs n = l at *
      subst h1
      subst hl
      have hsc := out1 (SC.ofF (V := VR1) names0 mixed0 TR1_ok noO_ok (lk_vc l r e ro c ex g3))
      refine SC.reads1 (b := b) (H := H) hsc (cells_ren (fieldC_flat _) e ro) (by simp) hb ?_
      rintro v0 H0' ⟨rfl, rfl⟩
      exact ⟨[], rfl, (fun t ht => by cases ht), none, h2, by simp [chN]⟩
    · cases hs
  · cases hs
theorem VLt_ok : SpecOk Tryd.prog (tabS [(35, eLitK)] noS) := by
  refine tabS_ok (fun p hp => ?_) noS_ok
  simp only [List.mem_cons, List.mem_nil_iff, or_false] at hp
  subst hp
  exact eLitK_ok
theorem lt_vc (l r : FL) (e : Nat) (ro : Bool) (c : Nat) (ex : Bool) (hl : ∀ f ∈ l, f.1.length ≤ 281474976710656 ∧ f.2.length ≤ 281474976710656) : vLt l r e ro c ex := by
  rw [vLt_eq]
  simp only [ic, cond_F, sameB_self, Nat.beq_refl]
  simp only [cond_P, leI_t, leI_f, ltI_t, ltI_f, eqI_t, eqI_f, and_t, not_t, not_f, dec_t, dec_f, Nat.zero_add, Nat.mul_one, List.drop_zero]
  simp only [cells_tsr, cells_fld, take_ts, ts_length, and_true, true_and, and_false, false_and, or_false, false_or, exists_false, Nat.le_refl, exists_const, Nat.succ_ne_self, Nat.not_succ_le_self, false_implies, not_false_eq_true, true_implies, fldT_at, fldOk_at, getS_ts]
  exact ⟨by rw [getF_fieldC], by rw [getF_fieldC, List.length_append]; omega, hl⟩
theorem ltN_vc : Holds2 vLtN := ⟨by rw [vLtN_eq]; simp⟩
theorem ltZ_vc : Holds2 vLtZ := ⟨by rw [vLtZ_eq]; simp⟩
theorem eLit20_ok : EntryOk Tryd.prog 20 eLit20 := by
  intro args H sr hs K hk
  unfold eLit20 at hs
  split at hs
  · cases hs
    refine (SC.flat (K := fun v' H' => v' = .bool true ∧ H' = H) (oneH (SC.ofH2 (V := VLt) names0 mixed0 VLt_ok noO_ok ltN_vc)) rfl ?_).mono ?_
    · rintro v0 T ⟨rfl, rfl⟩; exact ⟨(fun k hk => by cases hk), rfl, by simp⟩
    · rintro v H' ⟨rfl, rfl⟩; exact ⟨none, hk, rfl⟩
  · cases hs
    refine (SC.flat (K := fun v' H' => v' = .bool true ∧ H' = H) (oneH (SC.ofH2 (V := VLt) names0 mixed0 VLt_ok noO_ok ltZ_vc)) rfl ?_).mono ?_
    · rintro v0 T ⟨rfl, rfl⟩; exact ⟨(fun k hk => by cases hk), rfl, by simp⟩
    · rintro v H' ⟨rfl, rfl⟩; exact ⟨none, hk, rfl⟩
  · rename_i b n c ex
    split at hs
    · rename_i vs e ro hb
      cases hs
      obtain ⟨⟨g1, g2, g3⟩, h2⟩ := hk
      have hl : n = (fldT vs n).length := by unfold fldT; rw [List.length_take]; omega
      have h1 : vs = fieldC (fldT vs n ++ (getF vs).drop n) := by unfold fldT; rw [List.take_append_drop]; exact g1
      generalize (getF vs).drop n = r at *
      generalize fldT vs n = l at *
      subst h1
      subst hl
      have hsc := out1 (SC.ofF (V := VLt) names0 mixed0 VLt_ok noO_ok (lt_vc l r e ro c ex g3))
      refine SC.reads1 (b := b) (H := H) hsc (cells_ren (fieldC_flat _) e ro) (by simp) hb ?_
      rintro v0 H0' ⟨rfl, rfl⟩
      exact ⟨[], rfl, (fun t ht => by cases ht), none, h2, by simp [chN]⟩
    · cases hs
  · cases hs
end Go.Proofs.YtciciemaldbidaaDoor

/- The law VaryKeys, walked: no names. -/
import Derived.Test.YtciciemaldbidaaDoorKeyK
import Derived.Test.YtciciemaldbidaaDoorKeyC
import Derived.Test.YtciciemaldbidaaDoorVrL
set_option linter.unusedSimpArgs false
set_option linter.unusedVariables false
namespace Go.Proofs.YtciciemaldbidaaDoor
open Go Go.Ve
set_option maxRecDepth 20000
noncomputable def TKe : List (Nat × SpecE) := [(19, flatE gLiv12), (20, eLit20), (26, eLtT), (29, eMat), (31, eKey), (32, flatE gPickN), (33, eOs)]
noncomputable def faKe (f : FuncId) : Option FA :=
  match Nat.beq f 57 with
  | true => some ⟨[(1, .tail 10)], [], [(13, .str [])]⟩
  | false => some ⟨[], [], []⟩
noncomputable def VKeN : VE := ⟨Tryd.prog, tabS TKe noS, noO, faKe⟩
noncomputable def VKeA : VE := ⟨Tryd.prog, tabS TKe noS, noO, fun _ => none⟩
def hKe : List (Nat × AV) := []
def kP (out : Int) (l : LL) : Int := pickN out (ic (List.length l))

noncomputable def vKeNNN  (fT aT pT : List AV) (out : Int) : Prop := vcF VKeN [] 300 [] hKe 6 [.nilsl, .nilsl, .nilsl, .int .i64 out] [gFst fT, gAcc aT, gPow pT, .cells [] 0 true, .cells [] 0 true, .cells [] 0 true] [⟨Unit, fun _ => .bool true, fun _ => [gFst fT, gAcc aT, gPow pT, .cells [] 0 true, .cells [] 0 true, .cells [] 0 true], fun _ => True, gcB⟩]
noncomputable def vKeNAN  (fT aT pT : List AV) (out : Int) (fb rb : FL) : Prop := vcF VKeN [] 300 [] hKe 6 [.nilsl, .sl 4 0 fb.length (fb.length + rb.length) true, .nilsl, .int .i64 out] [gFst fT, gAcc aT, gPow pT, .cells [] 0 true, .cells (fieldC (fb ++ rb)) 0 true, .cells [] 0 true] [⟨Unit, fun _ => .bool true, fun _ => [gFst fT, gAcc aT, gPow pT, .cells [] 0 true, .cells (fieldC (fb ++ rb)) 0 true, .cells [] 0 true], fun _ => True, gcB⟩]
noncomputable def vKeANN  (fT aT pT : List AV) (out : Int) (fa ra : FL) : Prop := vcF VKeN [] 300 [] hKe 6 [.sl 3 0 fa.length (fa.length + ra.length) true, .nilsl, .nilsl, .int .i64 out] [gFst fT, gAcc aT, gPow pT, .cells (fieldC (fa ++ ra)) 0 true, .cells [] 0 true, .cells [] 0 true] [⟨Unit, fun _ => .bool true, fun _ => [gFst fT, gAcc aT, gPow pT, .cells (fieldC (fa ++ ra)) 0 true, .cells [] 0 true, .cells [] 0 true], fun _ => True, gcB⟩]
noncomputable def vKeAAN  (fT aT pT : List AV) (out : Int) (fa ra : FL) (fb rb : FL) : Prop := vcF VKeN [] 300 [] hKe 6 [.sl 3 0 fa.length (fa.length + ra.length) true, .sl 4 0 fb.length (fb.length + rb.length) true, .nilsl, .int .i64 out] [gFst fT, gAcc aT, gPow pT, .cells (fieldC (fa ++ ra)) 0 true, .cells (fieldC (fb ++ rb)) 0 true, .cells [] 0 true] [⟨Unit, fun _ => .bool true, fun _ => [gFst fT, gAcc aT, gPow pT, .cells (fieldC (fa ++ ra)) 0 true, .cells (fieldC (fb ++ rb)) 0 true, .cells [] 0 true], fun _ => True, gcB⟩]
def gqKeyN0 : Nat → Nat := (fun (b : Nat) => [(0 : Nat), (1 : Nat), (2 : Nat), (3 : Nat), (4 : Nat), (5 : Nat)].getD b (6 : Nat))
def gqKeyN1 : Nat → Nat := (fun (b : Nat) => [(0 : Nat), (1 : Nat), (2 : Nat), (3 : Nat), (4 : Nat), (5 : Nat)].getD b (14 : Nat))
theorem vKeNNN_eq  (fT aT pT : List AV) (out : Int) : vKeNNN fT aT pT out = (some (AO.val (AV.str []) none) = some (AO.val (AV.str []) none) ∧ some (AO.val (AV.str []) none) = some (AO.val (AV.str []) none) ∧ ∃ (_x : Unit), True ∧ (((4 : Nat) = (4 : Nat) ∧ cellsP (fun (b : Nat) => [(0 : Nat), (1 : Nat), (2 : Nat), (3 : Nat), (4 : Nat), (5 : Nat)].getD b (14 : Nat)) fT fT) ∧ ((5 : Nat) = (5 : Nat) ∧ cellsP (fun (b : Nat) => [(0 : Nat), (1 : Nat), (2 : Nat), (3 : Nat), (4 : Nat), (5 : Nat)].getD b (14 : Nat)) aT aT) ∧ ((3 : Nat) = (3 : Nat) ∧ cellsP (fun (b : Nat) => [(0 : Nat), (1 : Nat), (2 : Nat), (3 : Nat), (4 : Nat), (5 : Nat)].getD b (14 : Nat)) pT pT) ∧ (True ∧ True) ∧ (True ∧ True) ∧ (True ∧ True) ∧ True) ∧ true = true ∧ True) := by kernel_rfl
theorem vKeNAN_eq  (fT aT pT : List AV) (out : Int) (fb rb : FL) : vKeNAN fT aT pT out fb rb = ((fieldC (fb ++ rb) = fieldC (getF (fieldC (fb ++ rb))) ∧ List.length fb ≤ List.length (getF (fieldC (fb ++ rb))) ∧ ∀ (f : List UInt8 × List UInt8), List.Mem f (fldT (fieldC (fb ++ rb)) (List.length fb)) → f.fst.length ≤ (281474976710656 : Nat) ∧ f.snd.length ≤ (281474976710656 : Nat)) ∧ bif !light20 (fldT (fieldC (fb ++ rb)) (List.length fb)) then ∃ (_x : Unit), True ∧ (((4 : Nat) = (4 : Nat) ∧ cellsP gqKeyN0 fT fT) ∧ ((5 : Nat) = (5 : Nat) ∧ cellsP gqKeyN0 aT aT) ∧ ((3 : Nat) = (3 : Nat) ∧ cellsP gqKeyN0 pT pT) ∧ (True ∧ True) ∧ (cellsP gqKeyN0 (fieldC (fb ++ rb)) (fieldC (fb ++ rb)) ∧ True) ∧ (True ∧ True) ∧ True) ∧ true = true ∧ True else some (AO.val (AV.str []) none) = some (AO.val (AV.str []) none) ∧ some (AO.val (AV.str []) none) = some (AO.val (AV.str []) none) ∧ ∃ (_x : Unit), True ∧ (((4 : Nat) = (4 : Nat) ∧ cellsP gqKeyN1 fT fT) ∧ ((5 : Nat) = (5 : Nat) ∧ cellsP gqKeyN1 aT aT) ∧ ((3 : Nat) = (3 : Nat) ∧ cellsP gqKeyN1 pT pT) ∧ (True ∧ True) ∧ (cellsP gqKeyN1 (fieldC (fb ++ rb)) (fieldC (fb ++ rb)) ∧ True) ∧ (True ∧ True) ∧ True) ∧ true = true ∧ True) := by kernel_rfl
theorem vKeANN_eq  (fT aT pT : List AV) (out : Int) (fa ra : FL) : vKeANN fT aT pT out fa ra = ((fieldC (fa ++ ra) = fieldC (getF (fieldC (fa ++ ra))) ∧ List.length fa ≤ List.length (getF (fieldC (fa ++ ra))) ∧ ∀ (f : List UInt8 × List UInt8), List.Mem f (fldT (fieldC (fa ++ ra)) (List.length fa)) → f.fst.length ≤ (281474976710656 : Nat) ∧ f.snd.length ≤ (281474976710656 : Nat)) ∧ bif !light20 (fldT (fieldC (fa ++ ra)) (List.length fa)) then ∃ (_x : Unit), True ∧ (((4 : Nat) = (4 : Nat) ∧ cellsP gqKeyN0 fT fT) ∧ ((5 : Nat) = (5 : Nat) ∧ cellsP gqKeyN0 aT aT) ∧ ((3 : Nat) = (3 : Nat) ∧ cellsP gqKeyN0 pT pT) ∧ (cellsP gqKeyN0 (fieldC (fa ++ ra)) (fieldC (fa ++ ra)) ∧ True) ∧ (True ∧ True) ∧ (True ∧ True) ∧ True) ∧ true = true ∧ True else some (AO.val (AV.str []) none) = some (AO.val (AV.str []) none) ∧ some (AO.val (AV.str []) none) = some (AO.val (AV.str []) none) ∧ ∃ (_x : Unit), True ∧ (((4 : Nat) = (4 : Nat) ∧ cellsP gqKeyN1 fT fT) ∧ ((5 : Nat) = (5 : Nat) ∧ cellsP gqKeyN1 aT aT) ∧ ((3 : Nat) = (3 : Nat) ∧ cellsP gqKeyN1 pT pT) ∧ (cellsP gqKeyN1 (fieldC (fa ++ ra)) (fieldC (fa ++ ra)) ∧ True) ∧ (True ∧ True) ∧ (True ∧ True) ∧ True) ∧ true = true ∧ True) := by kernel_rfl
theorem vKeAAN_eq  (fT aT pT : List AV) (out : Int) (fa ra : FL) (fb rb : FL) : vKeAAN fT aT pT out fa ra fb rb = ((fieldC (fa ++ ra) = fieldC (getF (fieldC (fa ++ ra))) ∧ List.length fa ≤ List.length (getF (fieldC (fa ++ ra))) ∧ ∀ (f : List UInt8 × List UInt8), List.Mem f (fldT (fieldC (fa ++ ra)) (List.length fa)) → f.fst.length ≤ (281474976710656 : Nat) ∧ f.snd.length ≤ (281474976710656 : Nat)) ∧ bif !light20 (fldT (fieldC (fa ++ ra)) (List.length fa)) then ∃ (_x : Unit), True ∧ (((4 : Nat) = (4 : Nat) ∧ cellsP gqKeyN0 fT fT) ∧ ((5 : Nat) = (5 : Nat) ∧ cellsP gqKeyN0 aT aT) ∧ ((3 : Nat) = (3 : Nat) ∧ cellsP gqKeyN0 pT pT) ∧ (cellsP gqKeyN0 (fieldC (fa ++ ra)) (fieldC (fa ++ ra)) ∧ True) ∧ (cellsP gqKeyN0 (fieldC (fb ++ rb)) (fieldC (fb ++ rb)) ∧ True) ∧ (True ∧ True) ∧ True) ∧ true = true ∧ True else (fieldC (fb ++ rb) = fieldC (getF (fieldC (fb ++ rb))) ∧ List.length fb ≤ List.length (getF (fieldC (fb ++ rb))) ∧ ∀ (f : List UInt8 × List UInt8), List.Mem f (fldT (fieldC (fb ++ rb)) (List.length fb)) → f.fst.length ≤ (281474976710656 : Nat) ∧ f.snd.length ≤ (281474976710656 : Nat)) ∧ bif !light20 (fldT (fieldC (fb ++ rb)) (List.length fb)) then ∃ (_x : Unit), True ∧ (((4 : Nat) = (4 : Nat) ∧ cellsP gqKeyN0 fT fT) ∧ ((5 : Nat) = (5 : Nat) ∧ cellsP gqKeyN0 aT aT) ∧ ((3 : Nat) = (3 : Nat) ∧ cellsP gqKeyN0 pT pT) ∧ (cellsP gqKeyN0 (fieldC (fa ++ ra)) (fieldC (fa ++ ra)) ∧ True) ∧ (cellsP gqKeyN0 (fieldC (fb ++ rb)) (fieldC (fb ++ rb)) ∧ True) ∧ (True ∧ True) ∧ True) ∧ true = true ∧ True else some (AO.val (AV.str []) none) = some (AO.val (AV.str []) none) ∧ some (AO.val (AV.str []) none) = some (AO.val (AV.str []) none) ∧ ∃ (_x : Unit), True ∧ (((4 : Nat) = (4 : Nat) ∧ cellsP gqKeyN1 fT fT) ∧ ((5 : Nat) = (5 : Nat) ∧ cellsP gqKeyN1 aT aT) ∧ ((3 : Nat) = (3 : Nat) ∧ cellsP gqKeyN1 pT pT) ∧ (cellsP gqKeyN1 (fieldC (fa ++ ra)) (fieldC (fa ++ ra)) ∧ True) ∧ (cellsP gqKeyN1 (fieldC (fb ++ rb)) (fieldC (fb ++ rb)) ∧ True) ∧ (True ∧ True) ∧ True) ∧ true = true ∧ True) := by kernel_rfl
theorem keNNN_vc (fT aT : List AV) (out : Int) (hT : utf8T fT aT) : Holds2 (vKeNNN fT aT powF out) := by
  refine ⟨?_⟩
  have hf : ∀ σ, cellsP σ fT fT = True := fun σ => eq_true (cells_refl (by rw [hT.1]; exact flats_ints _ _))
  have ha : ∀ σ, cellsP σ aT aT = True := fun σ => eq_true (cells_refl (by rw [hT.2]; exact flats_pairs _ _ _))
  have hpp : ∀ σ, cellsP σ powF powF = True := fun σ => eq_true (cells_refl pow_flat)
  rw [vKeNNN_eq]
  try (simp only [ic, cond_F, sameB_self, Nat.beq_refl])
  try (simp only [cond_P, leI_t, leI_f, ltI_t, ltI_f, eqI_t, eqI_f, and_t, not_t, not_f, dec_t, dec_f, Nat.zero_add, Nat.mul_one, List.drop_zero])
  try (simp only [cells_tsr, cells_fld, take_ts, ts_length, and_true, true_and, and_false, false_and, or_false, false_or, exists_false, Nat.le_refl, exists_const, false_implies, not_false_eq_true, true_implies, fldT_at, fldOk_at, getS_ts])
  try (simp only [hf, ha, hpp, getF_fieldC, List.length_append, Nat.le_add_right, and_true, true_and, implies_true])
theorem keNAN_vc (fT aT : List AV) (out : Int) (fb rb : FL) (hT : utf8T fT aT) (hB : ∀ f ∈ fb, f.1.length ≤ 281474976710656 ∧ f.2.length ≤ 281474976710656) : Holds2 (vKeNAN fT aT powF out fb rb) := by
  refine ⟨?_⟩
  have hf : ∀ σ, cellsP σ fT fT = True := fun σ => eq_true (cells_refl (by rw [hT.1]; exact flats_ints _ _))
  have ha : ∀ σ, cellsP σ aT aT = True := fun σ => eq_true (cells_refl (by rw [hT.2]; exact flats_pairs _ _ _))
  have hpp : ∀ σ, cellsP σ powF powF = True := fun σ => eq_true (cells_refl pow_flat)
  have mb : (∀ f : List UInt8 × List UInt8, List.Mem f fb → f.fst.length ≤ 281474976710656 ∧ f.snd.length ≤ 281474976710656) = True := eq_true hB
  rw [vKeNAN_eq]
  try (simp only [ic, cond_F, sameB_self, Nat.beq_refl])
  try (simp only [cond_P, leI_t, leI_f, ltI_t, ltI_f, eqI_t, eqI_f, and_t, not_t, not_f, dec_t, dec_f, Nat.zero_add, Nat.mul_one, List.drop_zero])
  try (simp only [cells_tsr, cells_fld, take_ts, ts_length, and_true, true_and, and_false, false_and, or_false, false_or, exists_false, Nat.le_refl, exists_const, false_implies, not_false_eq_true, true_implies, fldT_at, fldOk_at, getS_ts])
  try (simp only [hf, ha, hpp, getF_fieldC, List.length_append, Nat.le_add_right, mb, and_true, true_and, implies_true])
theorem keANN_vc (fT aT : List AV) (out : Int) (fa ra : FL) (hT : utf8T fT aT) (hA : ∀ f ∈ fa, f.1.length ≤ 281474976710656 ∧ f.2.length ≤ 281474976710656) : Holds2 (vKeANN fT aT powF out fa ra) := by
  refine ⟨?_⟩
  have hf : ∀ σ, cellsP σ fT fT = True := fun σ => eq_true (cells_refl (by rw [hT.1]; exact flats_ints _ _))
  have ha : ∀ σ, cellsP σ aT aT = True := fun σ => eq_true (cells_refl (by rw [hT.2]; exact flats_pairs _ _ _))
  have hpp : ∀ σ, cellsP σ powF powF = True := fun σ => eq_true (cells_refl pow_flat)
  have ma : (∀ f : List UInt8 × List UInt8, List.Mem f fa → f.fst.length ≤ 281474976710656 ∧ f.snd.length ≤ 281474976710656) = True := eq_true hA
  rw [vKeANN_eq]
  try (simp only [ic, cond_F, sameB_self, Nat.beq_refl])
  try (simp only [cond_P, leI_t, leI_f, ltI_t, ltI_f, eqI_t, eqI_f, and_t, not_t, not_f, dec_t, dec_f, Nat.zero_add, Nat.mul_one, List.drop_zero])
  try (simp only [cells_tsr, cells_fld, take_ts, ts_length, and_true, true_and, and_false, false_and, or_false, false_or, exists_false, Nat.le_refl, exists_const, false_implies, not_false_eq_true, true_implies, fldT_at, fldOk_at, getS_ts])
  try (simp only [hf, ha, hpp, getF_fieldC, List.length_append, Nat.le_add_right, ma, and_true, true_and, implies_true])
theorem keAAN_vc (fT aT : List AV) (out : Int) (fa ra : FL) (fb rb : FL) (hT : utf8T fT aT) (hA : ∀ f ∈ fa, f.1.length ≤ 281474976710656 ∧ f.2.length ≤ 281474976710656) (hB : ∀ f ∈ fb, f.1.length ≤ 281474976710656 ∧ f.2.length ≤ 281474976710656) : Holds2 (vKeAAN fT aT powF out fa ra fb rb) := by
  refine ⟨?_⟩
  have hf : ∀ σ, cellsP σ fT fT = True := fun σ => eq_true (cells_refl (by rw [hT.1]; exact flats_ints _ _))
  have ha : ∀ σ, cellsP σ aT aT = True := fun σ => eq_true (cells_refl (by rw [hT.2]; exact flats_pairs _ _ _))
  have hpp : ∀ σ, cellsP σ powF powF = True := fun σ => eq_true (cells_refl pow_flat)
  have ma : (∀ f : List UInt8 × List UInt8, List.Mem f fa → f.fst.length ≤ 281474976710656 ∧ f.snd.length ≤ 281474976710656) = True := eq_true hA
  have mb : (∀ f : List UInt8 × List UInt8, List.Mem f fb → f.fst.length ≤ 281474976710656 ∧ f.snd.length ≤ 281474976710656) = True := eq_true hB
  rw [vKeAAN_eq]
  try (simp only [ic, cond_F, sameB_self, Nat.beq_refl])
  try (simp only [cond_P, leI_t, leI_f, ltI_t, ltI_f, eqI_t, eqI_f, and_t, not_t, not_f, dec_t, dec_f, Nat.zero_add, Nat.mul_one, List.drop_zero])
  try (simp only [cells_tsr, cells_fld, take_ts, ts_length, and_true, true_and, and_false, false_and, or_false, false_or, exists_false, Nat.le_refl, exists_const, false_implies, not_false_eq_true, true_implies, fldT_at, fldOk_at, getS_ts])
  try (simp only [hf, ha, hpp, getF_fieldC, List.length_append, Nat.le_add_right, ma, mb, and_true, true_and, implies_true])

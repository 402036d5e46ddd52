/- What the document's Match answers. -/
import Derived.Test.YtciciemaldbidaaGreatDoorRVal
set_option linter.unusedSimpArgs false
set_option linter.unusedVariables false
namespace Go.Proofs.YtciciemaldbidaaGreatDoor
open Go Go.Ve
set_option maxRecDepth 20000
noncomputable def TMr : List (Nat × SpecE) := [(10, eVal)]
noncomputable def aMr (l : LL) (fa fb : FL) : Anns := [(2, [.mk Nat (fun i => [(7, .int .i64 i)]) (fun _ => none) (fun i => i ≤ l.length ∧ mtT (l.take i) fa fb = true) (fun i => l.length - i) gcB gcB (fun i => [(18, .str (l.getD i [])), (24, .str (l.getD i []))]) (fun _ => [])])]
noncomputable def VMr (l : LL) (fa fb : FL) : VE := ⟨Tryz.prog, tabS TMr noS, noO, fun _ => none⟩

noncomputable def vMrN  (l r : LL) (e : Nat) (ro : Bool) (c : Nat) (ex : Bool) (fT aT : List AV) : Prop := vcF (VMr l [] []) [(4, .quiet)] 300 (aMr l [] []) [] 13 [.sl 2 0 l.length c ex, .nilsl, .nilsl] [gFst fT, gAcc aT, .cells (ts (l ++ r)) e ro] [⟨Unit, fun _ => .bool (mtT l [] []), fun _ => [gFst fT, gAcc aT, .cells (ts (l ++ r)) e ro], fun _ => True, gcB⟩]
noncomputable def vMrB  (l r : LL) (e : Nat) (ro : Bool) (c : Nat) (ex : Bool) (fT aT : List AV) (fb rb : FL) (eb : Nat) (rob : Bool) (cb : Nat) (exb : Bool) : Prop := vcF (VMr l [] fb) [(4, .quiet)] 300 (aMr l [] fb) [] 13 [.sl 2 0 l.length c ex, .nilsl, .sl 3 0 fb.length cb exb] [gFst fT, gAcc aT, .cells (ts (l ++ r)) e ro, .cells (fieldC (fb ++ rb)) eb rob] [⟨Unit, fun _ => .bool (mtT l [] fb), fun _ => [gFst fT, gAcc aT, .cells (ts (l ++ r)) e ro, .cells (fieldC (fb ++ rb)) eb rob], fun _ => True, gcB⟩]
noncomputable def vMrA  (l r : LL) (e : Nat) (ro : Bool) (c : Nat) (ex : Bool) (fT aT : List AV) (fa ra : FL) (ea : Nat) (roa : Bool) (ca : Nat) (exa : Bool) : Prop := vcF (VMr l fa []) [(4, .quiet)] 300 (aMr l fa []) [] 13 [.sl 2 0 l.length c ex, .sl 3 0 fa.length ca exa, .nilsl] [gFst fT, gAcc aT, .cells (ts (l ++ r)) e ro, .cells (fieldC (fa ++ ra)) ea roa] [⟨Unit, fun _ => .bool (mtT l fa []), fun _ => [gFst fT, gAcc aT, .cells (ts (l ++ r)) e ro, .cells (fieldC (fa ++ ra)) ea roa], fun _ => True, gcB⟩]
noncomputable def vMr1  (l r : LL) (e : Nat) (ro : Bool) (c : Nat) (ex : Bool) (fT aT : List AV) (fa ra : FL) (ea : Nat) (roa : Bool) (ca : Nat) (exa : Bool) (cb : Nat) (exb : Bool) : Prop := vcF (VMr l fa fa) [(4, .quiet)] 300 (aMr l fa fa) [] 13 [.sl 2 0 l.length c ex, .sl 3 0 fa.length ca exa, .sl 3 0 fa.length cb exb] [gFst fT, gAcc aT, .cells (ts (l ++ r)) e ro, .cells (fieldC (fa ++ ra)) ea roa] [⟨Unit, fun _ => .bool (mtT l fa fa), fun _ => [gFst fT, gAcc aT, .cells (ts (l ++ r)) e ro, .cells (fieldC (fa ++ ra)) ea roa], fun _ => True, gcB⟩]
noncomputable def vMr2  (l r : LL) (e : Nat) (ro : Bool) (c : Nat) (ex : Bool) (fT aT : List AV) (fa ra fb rb : FL) (ea : Nat) (roa : Bool) (ca : Nat) (exa : Bool) (eb : Nat) (rob : Bool) (cb : Nat) (exb : Bool) : Prop := vcF (VMr l fa fb) [(4, .quiet)] 300 (aMr l fa fb) [] 13 [.sl 2 0 l.length c ex, .sl 3 0 fa.length ca exa, .sl 4 0 fb.length cb exb] [gFst fT, gAcc aT, .cells (ts (l ++ r)) e ro, .cells (fieldC (fa ++ ra)) ea roa, .cells (fieldC (fb ++ rb)) eb rob] [⟨Unit, fun _ => .bool (mtT l fa fb), fun _ => [gFst fT, gAcc aT, .cells (ts (l ++ r)) e ro, .cells (fieldC (fa ++ ra)) ea roa, .cells (fieldC (fb ++ rb)) eb rob], fun _ => True, gcB⟩]
def gqRMat0 : Nat → Nat := (fun (b : Nat) => [0, 1, 2].getD b 3)
def gqRMat1 : Nat → Nat := (fun (b : Nat) => [0, 1, 2, 3].getD b 4)
def gqRMat2 : Nat → Nat := (fun (b : Nat) => [0, 1, 2, 3, 4].getD b 5)
theorem vMrN_eq  (l r : LL) (e : Nat) (ro : Bool) (c : Nat) (ex : Bool) (fT aT : List AV) : vMrN l r e ro c ex fT aT = ((∃ (x : Nat), (x ≤ List.length l ∧ mtT (List.take x l) [] [] = true) ∧ ((2 = 2 ∧ cellsP gqRMat0 fT fT) ∧ (3 = 3 ∧ cellsP gqRMat0 aT aT) ∧ (bif e.beq e && sameB ro ro then cellsP gqRMat0 (ts (l ++ r)) (ts (l ++ r)) ∧ True else False) ∧ True) ∧ (0 : Int) = ic x ∧ True) ∧ ∀ (x : Nat), x ≤ List.length l ∧ mtT (List.take x l) [] [] = true → bif ltI (ic x) (ic (List.length l)) then bif ltI (ic x) (ic (List.length l)) then (ts (l ++ r))[0 + x * 1]? = some (AV.str (List.getD l x [])) ∧ bif ltI (ic x) (ic (List.length l)) then (ts (l ++ r))[0 + x * 1]? = some (AV.str (List.getD l x [])) ∧ bif leI (ic x + (1 : Int)) (9223372036854775807 : Int) then ∃ (y : Nat), (y ≤ List.length l ∧ mtT (List.take y l) [] [] = true) ∧ List.length l - y < List.length l - x ∧ ((2 = 2 ∧ cellsP gqRMat0 fT fT) ∧ (3 = 3 ∧ cellsP gqRMat0 aT aT) ∧ (bif e.beq e && sameB ro ro then cellsP gqRMat0 (ts (l ++ r)) (ts (l ++ r)) ∧ True else False) ∧ True) ∧ ic x + (1 : Int) = ic y ∧ True else False else False else False else ∃ (_x : Unit), True ∧ ((2 = 2 ∧ cellsP gqRMat0 fT fT) ∧ (3 = 3 ∧ cellsP gqRMat0 aT aT) ∧ (bif e.beq e && sameB ro ro then cellsP gqRMat0 (ts (l ++ r)) (ts (l ++ r)) ∧ True else False) ∧ True) ∧ true = mtT l [] [] ∧ True) := by kernel_rfl
theorem vMrB_eq  (l r : LL) (e : Nat) (ro : Bool) (c : Nat) (ex : Bool) (fT aT : List AV) (fb rb : FL) (eb : Nat) (rob : Bool) (cb : Nat) (exb : Bool) : vMrB l r e ro c ex fT aT fb rb eb rob cb exb = ((∃ (x : Nat), (x ≤ List.length l ∧ mtT (List.take x l) [] fb = true) ∧ ((2 = 2 ∧ cellsP gqRMat1 fT fT) ∧ (3 = 3 ∧ cellsP gqRMat1 aT aT) ∧ (bif e.beq e && sameB ro ro then cellsP gqRMat1 (ts (l ++ r)) (ts (l ++ r)) ∧ True else False) ∧ (bif eb.beq eb && sameB rob rob then cellsP gqRMat1 (fieldC (fb ++ rb)) (fieldC (fb ++ rb)) ∧ True else False) ∧ True) ∧ (0 : Int) = ic x ∧ True) ∧ ∀ (x : Nat), x ≤ List.length l ∧ mtT (List.take x l) [] fb = true → bif ltI (ic x) (ic (List.length l)) then bif ltI (ic x) (ic (List.length l)) then (ts (l ++ r))[0 + x * 1]? = some (AV.str (List.getD l x [])) ∧ bif ltI (ic x) (ic (List.length l)) then (ts (l ++ r))[0 + x * 1]? = some (AV.str (List.getD l x [])) ∧ (utf8T fT aT ∧ fldOk (fieldC (fb ++ rb)) (List.length fb) ∧ le40 (List.getD l x []) = true) ∧ bif !decide ([(45 : UInt8)] = valT (fldT (fieldC (fb ++ rb)) (List.length fb)) (List.getD l x [])) then ∃ (_x : Unit), True ∧ ((2 = 2 ∧ cellsP gqRMat1 fT fT) ∧ (3 = 3 ∧ cellsP gqRMat1 aT aT) ∧ (bif e.beq e && sameB ro ro then cellsP gqRMat1 (ts (l ++ r)) (ts (l ++ r)) ∧ True else False) ∧ (bif eb.beq eb && sameB rob rob then cellsP gqRMat1 (fieldC (fb ++ rb)) (fieldC (fb ++ rb)) ∧ True else False) ∧ True) ∧ false = mtT l [] fb ∧ True else bif leI (ic x + (1 : Int)) (9223372036854775807 : Int) then ∃ (y : Nat), (y ≤ List.length l ∧ mtT (List.take y l) [] fb = true) ∧ List.length l - y < List.length l - x ∧ ((2 = 2 ∧ cellsP gqRMat1 fT fT) ∧ (3 = 3 ∧ cellsP gqRMat1 aT aT) ∧ (bif e.beq e && sameB ro ro then cellsP gqRMat1 (ts (l ++ r)) (ts (l ++ r)) ∧ True else False) ∧ (bif eb.beq eb && sameB rob rob then cellsP gqRMat1 (fieldC (fb ++ rb)) (fieldC (fb ++ rb)) ∧ True else False) ∧ True) ∧ ic x + (1 : Int) = ic y ∧ True else False else False else False else ∃ (_x : Unit), True ∧ ((2 = 2 ∧ cellsP gqRMat1 fT fT) ∧ (3 = 3 ∧ cellsP gqRMat1 aT aT) ∧ (bif e.beq e && sameB ro ro then cellsP gqRMat1 (ts (l ++ r)) (ts (l ++ r)) ∧ True else False) ∧ (bif eb.beq eb && sameB rob rob then cellsP gqRMat1 (fieldC (fb ++ rb)) (fieldC (fb ++ rb)) ∧ True else False) ∧ True) ∧ true = mtT l [] fb ∧ True) := by kernel_rfl
theorem vMrA_eq  (l r : LL) (e : Nat) (ro : Bool) (c : Nat) (ex : Bool) (fT aT : List AV) (fa ra : FL) (ea : Nat) (roa : Bool) (ca : Nat) (exa : Bool) : vMrA l r e ro c ex fT aT fa ra ea roa ca exa = ((∃ (x : Nat), (x ≤ List.length l ∧ mtT (List.take x l) fa [] = true) ∧ ((2 = 2 ∧ cellsP gqRMat1 fT fT) ∧ (3 = 3 ∧ cellsP gqRMat1 aT aT) ∧ (bif e.beq e && sameB ro ro then cellsP gqRMat1 (ts (l ++ r)) (ts (l ++ r)) ∧ True else False) ∧ (bif ea.beq ea && sameB roa roa then cellsP gqRMat1 (fieldC (fa ++ ra)) (fieldC (fa ++ ra)) ∧ True else False) ∧ True) ∧ (0 : Int) = ic x ∧ True) ∧ ∀ (x : Nat), x ≤ List.length l ∧ mtT (List.take x l) fa [] = true → bif ltI (ic x) (ic (List.length l)) then bif ltI (ic x) (ic (List.length l)) then (ts (l ++ r))[0 + x * 1]? = some (AV.str (List.getD l x [])) ∧ (utf8T fT aT ∧ fldOk (fieldC (fa ++ ra)) (List.length fa) ∧ le40 (List.getD l x []) = true) ∧ bif ltI (ic x) (ic (List.length l)) then (ts (l ++ r))[0 + x * 1]? = some (AV.str (List.getD l x [])) ∧ bif !decide (valT (fldT (fieldC (fa ++ ra)) (List.length fa)) (List.getD l x []) = [(45 : UInt8)]) then ∃ (_x : Unit), True ∧ ((2 = 2 ∧ cellsP gqRMat1 fT fT) ∧ (3 = 3 ∧ cellsP gqRMat1 aT aT) ∧ (bif e.beq e && sameB ro ro then cellsP gqRMat1 (ts (l ++ r)) (ts (l ++ r)) ∧ True else False) ∧ (bif ea.beq ea && sameB roa roa then cellsP gqRMat1 (fieldC (fa ++ ra)) (fieldC (fa ++ ra)) ∧ True else False) ∧ True) ∧ false = mtT l fa [] ∧ True else bif leI (ic x + (1 : Int)) (9223372036854775807 : Int) then ∃ (y : Nat), (y ≤ List.length l ∧ mtT (List.take y l) fa [] = true) ∧ List.length l - y < List.length l - x ∧ ((2 = 2 ∧ cellsP gqRMat1 fT fT) ∧ (3 = 3 ∧ cellsP gqRMat1 aT aT) ∧ (bif e.beq e && sameB ro ro then cellsP gqRMat1 (ts (l ++ r)) (ts (l ++ r)) ∧ True else False) ∧ (bif ea.beq ea && sameB roa roa then cellsP gqRMat1 (fieldC (fa ++ ra)) (fieldC (fa ++ ra)) ∧ True else False) ∧ True) ∧ ic x + (1 : Int) = ic y ∧ True else False else False else False else ∃ (_x : Unit), True ∧ ((2 = 2 ∧ cellsP gqRMat1 fT fT) ∧ (3 = 3 ∧ cellsP gqRMat1 aT aT) ∧ (bif e.beq e && sameB ro ro then cellsP gqRMat1 (ts (l ++ r)) (ts (l ++ r)) ∧ True else False) ∧ (bif ea.beq ea && sameB roa roa then cellsP gqRMat1 (fieldC (fa ++ ra)) (fieldC (fa ++ ra)) ∧ True else False) ∧ True) ∧ true = mtT l fa [] ∧ True) := by kernel_rfl
theorem vMr1_eq  (l r : LL) (e : Nat) (ro : Bool) (c : Nat) (ex : Bool) (fT aT : List AV) (fa ra : FL) (ea : Nat) (roa : Bool) (ca : Nat) (exa : Bool) (cb : Nat) (exb : Bool) : vMr1 l r e ro c ex fT aT fa ra ea roa ca exa cb exb = ((∃ (x : Nat), (x ≤ List.length l ∧ mtT (List.take x l) fa fa = true) ∧ ((2 = 2 ∧ cellsP gqRMat1 fT fT) ∧ (3 = 3 ∧ cellsP gqRMat1 aT aT) ∧ (bif e.beq e && sameB ro ro then cellsP gqRMat1 (ts (l ++ r)) (ts (l ++ r)) ∧ True else False) ∧ (bif ea.beq ea && sameB roa roa then cellsP gqRMat1 (fieldC (fa ++ ra)) (fieldC (fa ++ ra)) ∧ True else False) ∧ True) ∧ (0 : Int) = ic x ∧ True) ∧ ∀ (x : Nat), x ≤ List.length l ∧ mtT (List.take x l) fa fa = true → bif ltI (ic x) (ic (List.length l)) then bif ltI (ic x) (ic (List.length l)) then (ts (l ++ r))[0 + x * 1]? = some (AV.str (List.getD l x [])) ∧ (utf8T fT aT ∧ fldOk (fieldC (fa ++ ra)) (List.length fa) ∧ le40 (List.getD l x []) = true) ∧ bif ltI (ic x) (ic (List.length l)) then (ts (l ++ r))[0 + x * 1]? = some (AV.str (List.getD l x [])) ∧ (utf8T fT aT ∧ fldOk (fieldC (fa ++ ra)) (List.length fa) ∧ le40 (List.getD l x []) = true) ∧ bif !decide (valT (fldT (fieldC (fa ++ ra)) (List.length fa)) (List.getD l x []) = valT (fldT (fieldC (fa ++ ra)) (List.length fa)) (List.getD l x [])) then ∃ (_x : Unit), True ∧ ((2 = 2 ∧ cellsP gqRMat1 fT fT) ∧ (3 = 3 ∧ cellsP gqRMat1 aT aT) ∧ (bif e.beq e && sameB ro ro then cellsP gqRMat1 (ts (l ++ r)) (ts (l ++ r)) ∧ True else False) ∧ (bif ea.beq ea && sameB roa roa then cellsP gqRMat1 (fieldC (fa ++ ra)) (fieldC (fa ++ ra)) ∧ True else False) ∧ True) ∧ false = mtT l fa fa ∧ True else bif leI (ic x + (1 : Int)) (9223372036854775807 : Int) then ∃ (y : Nat), (y ≤ List.length l ∧ mtT (List.take y l) fa fa = true) ∧ List.length l - y < List.length l - x ∧ ((2 = 2 ∧ cellsP gqRMat1 fT fT) ∧ (3 = 3 ∧ cellsP gqRMat1 aT aT) ∧ (bif e.beq e && sameB ro ro then cellsP gqRMat1 (ts (l ++ r)) (ts (l ++ r)) ∧ True else False) ∧ (bif ea.beq ea && sameB roa roa then cellsP gqRMat1 (fieldC (fa ++ ra)) (fieldC (fa ++ ra)) ∧ True else False) ∧ True) ∧ ic x + (1 : Int) = ic y ∧ True else False else False else False else ∃ (_x : Unit), True ∧ ((2 = 2 ∧ cellsP gqRMat1 fT fT) ∧ (3 = 3 ∧ cellsP gqRMat1 aT aT) ∧ (bif e.beq e && sameB ro ro then cellsP gqRMat1 (ts (l ++ r)) (ts (l ++ r)) ∧ True else False) ∧ (bif ea.beq ea && sameB roa roa then cellsP gqRMat1 (fieldC (fa ++ ra)) (fieldC (fa ++ ra)) ∧ True else False) ∧ True) ∧ true = mtT l fa fa ∧ True) := by kernel_rfl
theorem vMr2_eq  (l r : LL) (e : Nat) (ro : Bool) (c : Nat) (ex : Bool) (fT aT : List AV) (fa ra fb rb : FL) (ea : Nat) (roa : Bool) (ca : Nat) (exa : Bool) (eb : Nat) (rob : Bool) (cb : Nat) (exb : Bool) : vMr2 l r e ro c ex fT aT fa ra fb rb ea roa ca exa eb rob cb exb = ((∃ (x : Nat), (x ≤ List.length l ∧ mtT (List.take x l) fa fb = true) ∧ ((2 = 2 ∧ cellsP gqRMat2 fT fT) ∧ (3 = 3 ∧ cellsP gqRMat2 aT aT) ∧ (bif e.beq e && sameB ro ro then cellsP gqRMat2 (ts (l ++ r)) (ts (l ++ r)) ∧ True else False) ∧ (bif ea.beq ea && sameB roa roa then cellsP gqRMat2 (fieldC (fa ++ ra)) (fieldC (fa ++ ra)) ∧ True else False) ∧ (bif eb.beq eb && sameB rob rob then cellsP gqRMat2 (fieldC (fb ++ rb)) (fieldC (fb ++ rb)) ∧ True else False) ∧ True) ∧ (0 : Int) = ic x ∧ True) ∧ ∀ (x : Nat), x ≤ List.length l ∧ mtT (List.take x l) fa fb = true → bif ltI (ic x) (ic (List.length l)) then bif ltI (ic x) (ic (List.length l)) then (ts (l ++ r))[0 + x * 1]? = some (AV.str (List.getD l x [])) ∧ (utf8T fT aT ∧ fldOk (fieldC (fa ++ ra)) (List.length fa) ∧ le40 (List.getD l x []) = true) ∧ bif ltI (ic x) (ic (List.length l)) then (ts (l ++ r))[0 + x * 1]? = some (AV.str (List.getD l x [])) ∧ (utf8T fT aT ∧ fldOk (fieldC (fb ++ rb)) (List.length fb) ∧ le40 (List.getD l x []) = true) ∧ bif !decide (valT (fldT (fieldC (fa ++ ra)) (List.length fa)) (List.getD l x []) = valT (fldT (fieldC (fb ++ rb)) (List.length fb)) (List.getD l x [])) then ∃ (_x : Unit), True ∧ ((2 = 2 ∧ cellsP gqRMat2 fT fT) ∧ (3 = 3 ∧ cellsP gqRMat2 aT aT) ∧ (bif e.beq e && sameB ro ro then cellsP gqRMat2 (ts (l ++ r)) (ts (l ++ r)) ∧ True else False) ∧ (bif ea.beq ea && sameB roa roa then cellsP gqRMat2 (fieldC (fa ++ ra)) (fieldC (fa ++ ra)) ∧ True else False) ∧ (bif eb.beq eb && sameB rob rob then cellsP gqRMat2 (fieldC (fb ++ rb)) (fieldC (fb ++ rb)) ∧ True else False) ∧ True) ∧ false = mtT l fa fb ∧ True else bif leI (ic x + (1 : Int)) (9223372036854775807 : Int) then ∃ (y : Nat), (y ≤ List.length l ∧ mtT (List.take y l) fa fb = true) ∧ List.length l - y < List.length l - x ∧ ((2 = 2 ∧ cellsP gqRMat2 fT fT) ∧ (3 = 3 ∧ cellsP gqRMat2 aT aT) ∧ (bif e.beq e && sameB ro ro then cellsP gqRMat2 (ts (l ++ r)) (ts (l ++ r)) ∧ True else False) ∧ (bif ea.beq ea && sameB roa roa then cellsP gqRMat2 (fieldC (fa ++ ra)) (fieldC (fa ++ ra)) ∧ True else False) ∧ (bif eb.beq eb && sameB rob rob then cellsP gqRMat2 (fieldC (fb ++ rb)) (fieldC (fb ++ rb)) ∧ True else False) ∧ True) ∧ ic x + (1 : Int) = ic y ∧ True else False else False else False else ∃ (_x : Unit), True ∧ ((2 = 2 ∧ cellsP gqRMat2 fT fT) ∧ (3 = 3 ∧ cellsP gqRMat2 aT aT) ∧ (bif e.beq e && sameB ro ro then cellsP gqRMat2 (ts (l ++ r)) (ts (l ++ r)) ∧ True else False) ∧ (bif ea.beq ea && sameB roa roa then cellsP gqRMat2 (fieldC (fa ++ ra)) (fieldC (fa ++ ra)) ∧ True else False) ∧ (bif eb.beq eb && sameB rob rob then cellsP gqRMat2 (fieldC (fb ++ rb)) (fieldC (fb ++ rb)) ∧ True else False) ∧ True) ∧ true = mtT l fa fb ∧ True) := by kernel_rfl
theorem mrN_vc (l r : LL) (e : Nat) (ro : Bool) (c : Nat) (ex : Bool) (fT aT : List AV) (hn : l.length ≤ 1099511627776) (hl : ∀ x, x < l.length → le40 (l.getD x []) = true) (hT : utf8T fT aT) : vMrN l r e ro c ex fT aT := by
  have hf : ∀ σ, cellsP σ fT fT = True := fun σ => eq_true (cells_refl (by rw [hT.1]; exact flats_ints _ _))
  have ha : ∀ σ, cellsP σ aT aT = True := fun σ => eq_true (cells_refl (by rw [hT.2]; exact flats_pairs _ _ _))
  rw [vMrN_eq]
  simp only [ic, cond_F, sameB_self, Nat.beq_refl]
  simp only [cond_P, leI_t, leI_f, ltI_t, ltI_f, eqI_t, eqI_f, and_t, not_t, not_f, dec_t, dec_f, Nat.zero_add, Nat.mul_one, List.drop_zero]
  simp only [cells_tsr, cells_fld, take_ts, ts_length, and_true, true_and, and_false, false_and, or_false, false_or, exists_false, Nat.le_refl, exists_const, false_implies, not_false_eq_true, true_implies, fldT_at, fldOk_at, getS_ts]
  simp only [hf, ha, hT, and_true, true_and]
  refine ⟨⟨0, ⟨Nat.zero_le _, rfl⟩, rfl⟩, fun x hx => ⟨fun hlt => ?_, fun hge => ?_⟩⟩
  · have hx' : x < l.length := by omega
    exact ⟨hlt, getL hx', hlt, getL hx', ⟨by omega, x + 1, ⟨by omega, mt_step2 hx' hx.2 rfl⟩, by omega, by omega⟩⟩
  · have e : l.take x = l := List.take_of_length_le (by omega)
    rw [e] at hx
    exact hx.2.symm
theorem mrB_vc (l r : LL) (e : Nat) (ro : Bool) (c : Nat) (ex : Bool) (fT aT : List AV) (fb rb : FL) (eb : Nat) (rob : Bool) (cb : Nat) (exb : Bool) (hn : l.length ≤ 1099511627776) (hl : ∀ x, x < l.length → le40 (l.getD x []) = true) (hT : utf8T fT aT) (hb : totL fb ≤ 274877906944) : vMrB l r e ro c ex fT aT fb rb eb rob cb exb := by
  have hf : ∀ σ, cellsP σ fT fT = True := fun σ => eq_true (cells_refl (by rw [hT.1]; exact flats_ints _ _))
  have ha : ∀ σ, cellsP σ aT aT = True := fun σ => eq_true (cells_refl (by rw [hT.2]; exact flats_pairs _ _ _))
  rw [vMrB_eq]
  simp only [ic, cond_F, sameB_self, Nat.beq_refl]
  simp only [cond_P, leI_t, leI_f, ltI_t, ltI_f, eqI_t, eqI_f, and_t, not_t, not_f, dec_t, dec_f, Nat.zero_add, Nat.mul_one, List.drop_zero]
  simp only [cells_tsr, cells_fld, take_ts, ts_length, and_true, true_and, and_false, false_and, or_false, false_or, exists_false, Nat.le_refl, exists_const, false_implies, not_false_eq_true, true_implies, fldT_at, fldOk_at, getS_ts]
  simp only [hf, ha, hT, hb, and_true, true_and]
  refine ⟨⟨0, ⟨Nat.zero_le _, rfl⟩, rfl⟩, fun x hx => ⟨fun hlt => ?_, fun hge => ?_⟩⟩
  · have hx' : x < l.length := by omega
    exact ⟨hlt, getL hx', hlt, getL hx', hl x hx', fun he => (mt_false hx' (by first | exact he | (rw [val_nil]; exact he) | (intro h; exact he (h.trans (val_nil _))))).symm, fun he => ⟨by omega, x + 1, ⟨by omega, mt_step2 hx' hx.2 (by first | exact he | (rw [val_nil]; exact he) | exact he.trans (val_nil _).symm)⟩, by omega, by omega⟩⟩
  · have e : l.take x = l := List.take_of_length_le (by omega)
    rw [e] at hx
    exact hx.2.symm
theorem mrA_vc (l r : LL) (e : Nat) (ro : Bool) (c : Nat) (ex : Bool) (fT aT : List AV) (fa ra : FL) (ea : Nat) (roa : Bool) (ca : Nat) (exa : Bool) (hn : l.length ≤ 1099511627776) (hl : ∀ x, x < l.length → le40 (l.getD x []) = true) (hT : utf8T fT aT) (ha' : totL fa ≤ 274877906944) : vMrA l r e ro c ex fT aT fa ra ea roa ca exa := by
  have hf : ∀ σ, cellsP σ fT fT = True := fun σ => eq_true (cells_refl (by rw [hT.1]; exact flats_ints _ _))
  have ha : ∀ σ, cellsP σ aT aT = True := fun σ => eq_true (cells_refl (by rw [hT.2]; exact flats_pairs _ _ _))
  rw [vMrA_eq]
  simp only [ic, cond_F, sameB_self, Nat.beq_refl]
  simp only [cond_P, leI_t, leI_f, ltI_t, ltI_f, eqI_t, eqI_f, and_t, not_t, not_f, dec_t, dec_f, Nat.zero_add, Nat.mul_one, List.drop_zero]
  simp only [cells_tsr, cells_fld, take_ts, ts_length, and_true, true_and, and_false, false_and, or_false, false_or, exists_false, Nat.le_refl, exists_const, false_implies, not_false_eq_true, true_implies, fldT_at, fldOk_at, getS_ts]
  simp only [hf, ha, hT, ha', and_true, true_and]
  refine ⟨⟨0, ⟨Nat.zero_le _, rfl⟩, rfl⟩, fun x hx => ⟨fun hlt => ?_, fun hge => ?_⟩⟩
  · have hx' : x < l.length := by omega
    exact ⟨hlt, getL hx', hl x hx', hlt, getL hx', fun he => (mt_false hx' (by first | exact he | (rw [val_nil]; exact he) | (intro h; exact he (h.trans (val_nil _))))).symm, fun he => ⟨by omega, x + 1, ⟨by omega, mt_step2 hx' hx.2 (by first | exact he | (rw [val_nil]; exact he) | exact he.trans (val_nil _).symm)⟩, by omega, by omega⟩⟩
  · have e : l.take x = l := List.take_of_length_le (by omega)
    rw [e] at hx
    exact hx.2.symm
theorem mr1_vc (l r : LL) (e : Nat) (ro : Bool) (c : Nat) (ex : Bool) (fT aT : List AV) (fa ra : FL) (ea : Nat) (roa : Bool) (ca : Nat) (exa : Bool) (cb : Nat) (exb : Bool) (hn : l.length ≤ 1099511627776) (hl : ∀ x, x < l.length → le40 (l.getD x []) = true) (hT : utf8T fT aT) (ha' : totL fa ≤ 274877906944) : vMr1 l r e ro c ex fT aT fa ra ea roa ca exa cb exb := by
  have hf : ∀ σ, cellsP σ fT fT = True := fun σ => eq_true (cells_refl (by rw [hT.1]; exact flats_ints _ _))
  have ha : ∀ σ, cellsP σ aT aT = True := fun σ => eq_true (cells_refl (by rw [hT.2]; exact flats_pairs _ _ _))
  rw [vMr1_eq]
  simp only [ic, cond_F, sameB_self, Nat.beq_refl]
  simp only [cond_P, leI_t, leI_f, ltI_t, ltI_f, eqI_t, eqI_f, and_t, not_t, not_f, dec_t, dec_f, Nat.zero_add, Nat.mul_one, List.drop_zero]
  simp only [cells_tsr, cells_fld, take_ts, ts_length, and_true, true_and, and_false, false_and, or_false, false_or, exists_false, Nat.le_refl, exists_const, false_implies, not_false_eq_true, true_implies, fldT_at, fldOk_at, getS_ts]
  simp only [hf, ha, hT, ha', and_true, true_and]
  refine ⟨⟨0, ⟨Nat.zero_le _, rfl⟩, rfl⟩, fun x hx => ⟨fun hlt => ?_, fun hge => ?_⟩⟩
  · have hx' : x < l.length := by omega
    exact ⟨hlt, getL hx', hl x hx', hlt, getL hx', hl x hx', (fun h => absurd trivial h), by omega, x + 1, ⟨by omega, mt_self _ _⟩, by omega, by omega⟩
  · have e : l.take x = l := List.take_of_length_le (by omega)
    rw [e] at hx
    exact hx.2.symm
theorem mr2_vc (l r : LL) (e : Nat) (ro : Bool) (c : Nat) (ex : Bool) (fT aT : List AV) (fa ra fb rb : FL) (ea : Nat) (roa : Bool) (ca : Nat) (exa : Bool) (eb : Nat) (rob : Bool) (cb : Nat) (exb : Bool) (hn : l.length ≤ 1099511627776) (hl : ∀ x, x < l.length → le40 (l.getD x []) = true) (hT : utf8T fT aT) (ha' : totL fa ≤ 274877906944) (hb : totL fb ≤ 274877906944) : vMr2 l r e ro c ex fT aT fa ra fb rb ea roa ca exa eb rob cb exb := by
  have hf : ∀ σ, cellsP σ fT fT = True := fun σ => eq_true (cells_refl (by rw [hT.1]; exact flats_ints _ _))
  have ha : ∀ σ, cellsP σ aT aT = True := fun σ => eq_true (cells_refl (by rw [hT.2]; exact flats_pairs _ _ _))
  rw [vMr2_eq]
  simp only [ic, cond_F, sameB_self, Nat.beq_refl]
  simp only [cond_P, leI_t, leI_f, ltI_t, ltI_f, eqI_t, eqI_f, and_t, not_t, not_f, dec_t, dec_f, Nat.zero_add, Nat.mul_one, List.drop_zero]
  simp only [cells_tsr, cells_fld, take_ts, ts_length, and_true, true_and, and_false, false_and, or_false, false_or, exists_false, Nat.le_refl, exists_const, false_implies, not_false_eq_true, true_implies, fldT_at, fldOk_at, getS_ts]
  simp only [hf, ha, hT, ha', hb, and_true, true_and]
  refine ⟨⟨0, ⟨Nat.zero_le _, rfl⟩, rfl⟩, fun x hx => ⟨fun hlt => ?_, fun hge => ?_⟩⟩
  · have hx' : x < l.length := by omega
    exact ⟨hlt, getL hx', hl x hx', hlt, getL hx', hl x hx', fun he => (mt_false hx' (by first | exact he | (rw [val_nil]; exact he) | (intro h; exact he (h.trans (val_nil _))))).symm, fun he => ⟨by omega, x + 1, ⟨by omega, mt_step2 hx' hx.2 (by first | exact he | (rw [val_nil]; exact he) | exact he.trans (val_nil _).symm)⟩, by omega, by omega⟩⟩
  · have e : l.take x = l := List.take_of_length_le (by omega)
    rw [e] at hx
    exact hx.2.symm
theorem TMr_ok : SpecOk Tryz.prog (tabS TMr noS) := by
  refine tabS_ok (fun p hp => ?_) noS_ok
  simp only [TMr, List.mem_cons, List.mem_nil_iff, or_false] at hp
  subst hp
  exact eValR_ok
theorem eMatR_ok : EntryOk Tryz.prog 13 eMat := by
  intro args H sr hs K hk
  unfold eMat at hs
  split at hs
  · rename_i b n c ex x y
    split at hs
    · rename_i f a vs e ro h0 h1 hb
      have hb0 : b ≠ 0 := fun e => by subst e; rw [h0] at hb; cases hb
      have hb1 : b ≠ 1 := fun e => by subst e; rw [h1] at hb; cases hb
      have fin : ∀ {v : AV}, SC Tryz.prog 13 [.sl b 0 n c ex, x, y] H (fun v' H' => v' = v ∧ H' = H) → K v none → SC Tryz.prog 13 [.sl b 0 n c ex, x, y] H fun v' H' => ∃ ch, K v' ch ∧ H' = chN H ch := fun h hK => h.mono (by rintro v' H' ⟨rfl, rfl⟩; exact ⟨none, hK, rfl⟩)
      have one : ∀ {vs : List AV} {n : Nat}, fldOk vs n → ∃ l r : FL, fldT vs n = l ∧ vs = fieldC (l ++ r) ∧ n = l.length ∧ totL l ≤ 274877906944 := fun h => by
        obtain ⟨r, e1, hl, h3⟩ := fldOk_ex h
        exact ⟨_, r, rfl, e1, hl, h3⟩
      have ne0 : ∀ {bb : Nat} {vb : List AV} {eb : Nat} {rob : Bool}, H[bb]? = some (.cells vb eb rob) → bb ≠ 0 ∧ bb ≠ 1 := fun hbb => ⟨(fun e => by subst e; rw [h0] at hbb; cases hbb), (fun e => by subst e; rw [h1] at hbb; cases hbb)⟩
      split at hs
      · split at hs
        · cases hs
          obtain ⟨⟨hT, hS⟩, h2⟩ := hk
          obtain ⟨l, r, e1, rfl, rfl, hn, hl⟩ := strs_ex hS
          rw [e1] at h2
          refine fin (utf_reads2 (σ := [b]) (R := [.cells (ts (l ++ r)) e ro]) hT (SC.ofF (V := VMr l [] []) names0 mixed0 TMr_ok noO_ok (mrN_vc l r e ro c ex f a hn hl hT)) rfl (fun k hk => by simp at hk; subst hk; exact ⟨_, _, _, rfl, ts_flat _⟩) rfl (by simp; omega) h0 h1 (fun i b' h => by
            match i with
            | 0 => simp at h; subst h; exact hb
            | i + 1 => simp at h) rfl) h2
        · rename_i bb nb cb exb
          split at hs
          · rename_i vb eb rob hbb
            cases hs
            obtain ⟨⟨hT, hS, hF, hne⟩, h2⟩ := hk
            obtain ⟨l, r, e1, rfl, rfl, hn, hl⟩ := strs_ex hS
            obtain ⟨fb, rb, e2, rfl, rfl, hfb⟩ := one hF
            rw [e1, e2] at h2
            obtain ⟨hc0, hc1⟩ := ne0 hbb
            refine fin (utf_reads2 (σ := [b, bb]) (R := [.cells (ts (l ++ r)) e ro, .cells (fieldC (fb ++ rb)) eb rob]) hT (SC.ofF (V := VMr l [] fb) names0 mixed0 TMr_ok noO_ok (mrB_vc l r e ro c ex f a fb rb eb rob cb exb hn hl hT hfb)) rfl (fun k hk => by
              simp at hk
              rcases hk with rfl | rfl
              · exact ⟨_, _, _, rfl, ts_flat _⟩
              · exact ⟨_, _, _, rfl, fieldC_flat _⟩) rfl (by simp; omega) h0 h1 (fun i b' h => by
              match i with
              | 0 => simp at h; subst h; exact hb
              | 1 => simp at h; subst h; exact hbb
              | i + 2 => simp at h) rfl) h2
          · cases hs
        · cases hs
      · rename_i ba na ca exa
        split at hs
        · rename_i va ea roa hba
          obtain ⟨hc0, hc1⟩ := ne0 hba
          split at hs
          · cases hs
            obtain ⟨⟨hT, hS, hF, hne⟩, h2⟩ := hk
            obtain ⟨l, r, e1, rfl, rfl, hn, hl⟩ := strs_ex hS
            obtain ⟨fa, ra, e2, rfl, rfl, hfa⟩ := one hF
            rw [e1, e2] at h2
            refine fin (utf_reads2 (σ := [b, ba]) (R := [.cells (ts (l ++ r)) e ro, .cells (fieldC (fa ++ ra)) ea roa]) hT (SC.ofF (V := VMr l fa []) names0 mixed0 TMr_ok noO_ok (mrA_vc l r e ro c ex f a fa ra ea roa ca exa hn hl hT hfa)) rfl (fun k hk => by
              simp at hk
              rcases hk with rfl | rfl
              · exact ⟨_, _, _, rfl, ts_flat _⟩
              · exact ⟨_, _, _, rfl, fieldC_flat _⟩) rfl (by simp; omega) h0 h1 (fun i b' h => by
              match i with
              | 0 => simp at h; subst h; exact hb
              | 1 => simp at h; subst h; exact hba
              | i + 2 => simp at h) rfl) h2
          · rename_i bb nb cb exb
            split at hs
            · rename_i hbeq
              obtain rfl := Nat.eq_of_beq_eq_true hbeq
              cases hs
              obtain ⟨⟨hT, hS, hF, hne, hnn⟩, h2⟩ := hk
              obtain ⟨l, r, e1, rfl, rfl, hn, hl⟩ := strs_ex hS
              obtain ⟨fa, ra, e2, rfl, e3, hfa⟩ := one hF
              subst hnn
              rw [e1, e2] at h2
              subst e3
              refine fin (utf_reads2 (σ := [b, ba]) (R := [.cells (ts (l ++ r)) e ro, .cells (fieldC (fa ++ ra)) ea roa]) hT (SC.ofF (V := VMr l fa fa) names0 mixed0 TMr_ok noO_ok (mr1_vc l r e ro c ex f a fa ra ea roa ca exa cb exb hn hl hT hfa)) rfl (fun k hk => by
                simp at hk
                rcases hk with rfl | rfl
                · exact ⟨_, _, _, rfl, ts_flat _⟩
                · exact ⟨_, _, _, rfl, fieldC_flat _⟩) rfl (by simp; omega) h0 h1 (fun i b' h => by
                match i with
                | 0 => simp at h; subst h; exact hb
                | 1 => simp at h; subst h; exact hba
                | i + 2 => simp at h) rfl) h2
            · rename_i hbeq
              have hab : ba ≠ bb := fun e => by subst e; rw [Nat.beq_refl] at hbeq; cases hbeq
              split at hs
              · rename_i vb eb rob hbb
                obtain ⟨hd0, hd1⟩ := ne0 hbb
                cases hs
                obtain ⟨⟨hT, hS, hF, hG, hne, hne2⟩, h2⟩ := hk
                obtain ⟨l, r, e1, rfl, rfl, hn, hl⟩ := strs_ex hS
                obtain ⟨fa, ra, e2, rfl, rfl, hfa⟩ := one hF
                obtain ⟨fb, rb, e3, rfl, rfl, hfb⟩ := one hG
                rw [e1, e2, e3] at h2
                refine fin (utf_reads2 (σ := [b, ba, bb]) (R := [.cells (ts (l ++ r)) e ro, .cells (fieldC (fa ++ ra)) ea roa, .cells (fieldC (fb ++ rb)) eb rob]) hT (SC.ofF (V := VMr l fa fb) names0 mixed0 TMr_ok noO_ok (mr2_vc l r e ro c ex f a fa ra fb rb ea roa ca exa eb rob cb exb hn hl hT hfa hfb)) rfl (fun k hk => by
                  simp at hk
                  rcases hk with rfl | rfl | rfl
                  · exact ⟨_, _, _, rfl, ts_flat _⟩
                  · exact ⟨_, _, _, rfl, fieldC_flat _⟩
                  · exact ⟨_, _, _, rfl, fieldC_flat _⟩) rfl (by simp; omega) h0 h1 (fun i b' h => by
                  match i with
                  | 0 => simp at h; subst h; exact hb
                  | 1 => simp at h; subst h; exact hba
                  | 2 => simp at h; subst h; exact hbb
                  | i + 3 => simp at h) rfl) h2
              · cases hs
          · cases hs
        · cases hs
      · cases hs
    · cases hs
  · cases hs
end Go.Proofs.YtciciemaldbidaaGreatDoor

/- What vary.Match answers: whether all the names have the same values. -/
import Derived.Test.YtciciemaldbidaaGreatDoorKeyP
set_option linter.unusedSimpArgs false
set_option linter.unusedVariables false
namespace Go.Proofs.YtciciemaldbidaaGreatDoor
open Go Go.Ve
set_option maxRecDepth 20000
noncomputable def TMt : List (Nat × SpecE) := [(9, eVal)]
noncomputable def aMt (l : LL) (fa fb : FL) : Anns := [(2, [.mk Nat (fun i => [(8, .int .i64 i)]) (fun _ => none) (fun i => i ≤ l.length ∧ mtT (l.take i) fa fb = true) (fun i => l.length - i) gcB gcB (fun i => [(15, .str (l.getD i []))]) (fun _ => [])])]
noncomputable def faMt (l : LL) (fa fb : FL) (f : FuncId) : Option FA := match Nat.beq f 33 with
  | true => some ⟨[(1, .quiet)], [], []⟩
  | false => match Nat.beq f 48 with
    | true => some ⟨[], aMt l fa fb, []⟩
    | false => some ⟨[], [], []⟩
noncomputable def VMt (l : LL) (fa fb : FL) : VE := ⟨Tryz.prog, tabS TMt noS, noO, faMt l fa fb⟩

noncomputable def vMtN  (l r : LL) (e : Nat) (ro : Bool) (c : Nat) (ex : Bool) (fT aT : List AV) : Prop := vcF (VMt l [] []) [] 300 [] [] 12 [.sl 2 0 l.length c ex, .nilsl, .nilsl] [gFst fT, gAcc aT, .cells (ts (l ++ r)) e ro] [⟨Unit, fun _ => .bool (mtT l [] []), fun _ => [gFst fT, gAcc aT, .cells (ts (l ++ r)) e ro], fun _ => True, gcB⟩]
noncomputable def vMtB  (l r : LL) (e : Nat) (ro : Bool) (c : Nat) (ex : Bool) (fT aT : List AV) (fb rb : FL) (eb : Nat) (rob : Bool) (cb : Nat) (exb : Bool) : Prop := vcF (VMt l [] fb) [] 300 [] [] 12 [.sl 2 0 l.length c ex, .nilsl, .sl 3 0 fb.length cb exb] [gFst fT, gAcc aT, .cells (ts (l ++ r)) e ro, .cells (fieldC (fb ++ rb)) eb rob] [⟨Unit, fun _ => .bool (mtT l [] fb), fun _ => [gFst fT, gAcc aT, .cells (ts (l ++ r)) e ro, .cells (fieldC (fb ++ rb)) eb rob], fun _ => True, gcB⟩]
noncomputable def vMtA  (l r : LL) (e : Nat) (ro : Bool) (c : Nat) (ex : Bool) (fT aT : List AV) (fa ra : FL) (ea : Nat) (roa : Bool) (ca : Nat) (exa : Bool) : Prop := vcF (VMt l fa []) [] 300 [] [] 12 [.sl 2 0 l.length c ex, .sl 3 0 fa.length ca exa, .nilsl] [gFst fT, gAcc aT, .cells (ts (l ++ r)) e ro, .cells (fieldC (fa ++ ra)) ea roa] [⟨Unit, fun _ => .bool (mtT l fa []), fun _ => [gFst fT, gAcc aT, .cells (ts (l ++ r)) e ro, .cells (fieldC (fa ++ ra)) ea roa], fun _ => True, gcB⟩]
noncomputable def vMt1  (l r : LL) (e : Nat) (ro : Bool) (c : Nat) (ex : Bool) (fT aT : List AV) (fa ra : FL) (ea : Nat) (roa : Bool) (ca : Nat) (exa : Bool) (cb : Nat) (exb : Bool) : Prop := vcF (VMt l fa fa) [] 300 [] [] 12 [.sl 2 0 l.length c ex, .sl 3 0 fa.length ca exa, .sl 3 0 fa.length cb exb] [gFst fT, gAcc aT, .cells (ts (l ++ r)) e ro, .cells (fieldC (fa ++ ra)) ea roa] [⟨Unit, fun _ => .bool (mtT l fa fa), fun _ => [gFst fT, gAcc aT, .cells (ts (l ++ r)) e ro, .cells (fieldC (fa ++ ra)) ea roa], fun _ => True, gcB⟩]
noncomputable def vMt2  (l r : LL) (e : Nat) (ro : Bool) (c : Nat) (ex : Bool) (fT aT : List AV) (fa ra fb rb : FL) (ea : Nat) (roa : Bool) (ca : Nat) (exa : Bool) (eb : Nat) (rob : Bool) (cb : Nat) (exb : Bool) : Prop := vcF (VMt l fa fb) [] 300 [] [] 12 [.sl 2 0 l.length c ex, .sl 3 0 fa.length ca exa, .sl 4 0 fb.length cb exb] [gFst fT, gAcc aT, .cells (ts (l ++ r)) e ro, .cells (fieldC (fa ++ ra)) ea roa, .cells (fieldC (fb ++ rb)) eb rob] [⟨Unit, fun _ => .bool (mtT l fa fb), fun _ => [gFst fT, gAcc aT, .cells (ts (l ++ r)) e ro, .cells (fieldC (fa ++ ra)) ea roa, .cells (fieldC (fb ++ rb)) eb rob], fun _ => True, gcB⟩]
def gqKeyM0 : Nat → Nat := (fun (b : Nat) => [0, 1, 2, 3, 4].getD b 5)
def gqKeyM1 : Nat → Nat := (fun (b : Nat) => [0, 1, 2, 3, 4, 5].getD b 6)
def gqKeyM2 : Nat → Nat := (fun (b : Nat) => [0, 1, 2, 3].getD b 6)
def gqKeyM3 : Nat → Nat := (fun (b : Nat) => [0, 1, 2, 3, 4, 5, 6].getD b 7)
def gqKeyM4 : Nat → Nat := (fun (b : Nat) => [0, 1, 2, 3, 4].getD b 7)
theorem vMtN_eq  (l r : LL) (e : Nat) (ro : Bool) (c : Nat) (ex : Bool) (fT aT : List AV) : vMtN l r e ro c ex fT aT = ((∃ (x : Nat), (x ≤ List.length l ∧ mtT (List.take x l) [] [] = true) ∧ ((2 = 2 ∧ cellsP gqKeyM0 fT fT) ∧ (3 = 3 ∧ cellsP gqKeyM0 aT aT) ∧ (bif e.beq e && sameB ro ro then cellsP gqKeyM0 (ts (l ++ r)) (ts (l ++ r)) ∧ True else False) ∧ ((True ∧ True) ∧ True) ∧ ((True ∧ True) ∧ True) ∧ True) ∧ (0 : Int) = ic x ∧ True) ∧ ∀ (x : Nat), x ≤ List.length l ∧ mtT (List.take x l) [] [] = true → bif ltI (ic x) (ic (List.length l)) then bif ltI (ic x) (ic (List.length l)) then (ts (l ++ r))[0 + x * 1]? = some (AV.str (List.getD l x [])) ∧ bif leI (ic x + (1 : Int)) (9223372036854775807 : Int) then ∃ (y : Nat), (y ≤ List.length l ∧ mtT (List.take y l) [] [] = true) ∧ List.length l - y < List.length l - x ∧ ((2 = 2 ∧ cellsP gqKeyM0 fT fT) ∧ (3 = 3 ∧ cellsP gqKeyM0 aT aT) ∧ (bif e.beq e && sameB ro ro then cellsP gqKeyM0 (ts (l ++ r)) (ts (l ++ r)) ∧ True else False) ∧ ((True ∧ True) ∧ True) ∧ ((True ∧ True) ∧ True) ∧ True) ∧ ic x + (1 : Int) = ic y ∧ True else False else False else ∃ (_x : Unit), True ∧ ((2 = 2 ∧ cellsP (fun (b : Nat) => [0, 1, 2].getD b 5) fT fT) ∧ (3 = 3 ∧ cellsP (fun (b : Nat) => [0, 1, 2].getD b 5) aT aT) ∧ (bif e.beq e && sameB ro ro then cellsP (fun (b : Nat) => [0, 1, 2].getD b 5) (ts (l ++ r)) (ts (l ++ r)) ∧ True else False) ∧ True) ∧ true = mtT l [] [] ∧ True) := by kernel_rfl
theorem vMtB_eq  (l r : LL) (e : Nat) (ro : Bool) (c : Nat) (ex : Bool) (fT aT : List AV) (fb rb : FL) (eb : Nat) (rob : Bool) (cb : Nat) (exb : Bool) : vMtB l r e ro c ex fT aT fb rb eb rob cb exb = ((∃ (x : Nat), (x ≤ List.length l ∧ mtT (List.take x l) [] fb = true) ∧ ((2 = 2 ∧ cellsP gqKeyM1 fT fT) ∧ (3 = 3 ∧ cellsP gqKeyM1 aT aT) ∧ (bif e.beq e && sameB ro ro then cellsP gqKeyM1 (ts (l ++ r)) (ts (l ++ r)) ∧ True else False) ∧ (bif eb.beq eb && sameB rob rob then cellsP gqKeyM1 (fieldC (fb ++ rb)) (fieldC (fb ++ rb)) ∧ True else False) ∧ ((True ∧ True) ∧ True) ∧ (((0 = 0 ∧ List.length fb = List.length fb ∧ cb = cb ∧ exb = exb) ∧ True) ∧ True) ∧ True) ∧ (0 : Int) = ic x ∧ True) ∧ ∀ (x : Nat), x ≤ List.length l ∧ mtT (List.take x l) [] fb = true → bif ltI (ic x) (ic (List.length l)) then bif ltI (ic x) (ic (List.length l)) then (ts (l ++ r))[0 + x * 1]? = some (AV.str (List.getD l x [])) ∧ (utf8T fT aT ∧ fldOk (fieldC (fb ++ rb)) (List.length fb) ∧ le40 (List.getD l x []) = true) ∧ bif !decide ([(45 : UInt8)] = valT (fldT (fieldC (fb ++ rb)) (List.length fb)) (List.getD l x [])) then ∃ (_x : Unit), True ∧ ((2 = 2 ∧ cellsP gqKeyM2 fT fT) ∧ (3 = 3 ∧ cellsP gqKeyM2 aT aT) ∧ (bif e.beq e && sameB ro ro then cellsP gqKeyM2 (ts (l ++ r)) (ts (l ++ r)) ∧ True else False) ∧ (bif eb.beq eb && sameB rob rob then cellsP gqKeyM2 (fieldC (fb ++ rb)) (fieldC (fb ++ rb)) ∧ True else False) ∧ True) ∧ false = mtT l [] fb ∧ True else bif leI (ic x + (1 : Int)) (9223372036854775807 : Int) then ∃ (y : Nat), (y ≤ List.length l ∧ mtT (List.take y l) [] fb = true) ∧ List.length l - y < List.length l - x ∧ ((2 = 2 ∧ cellsP gqKeyM1 fT fT) ∧ (3 = 3 ∧ cellsP gqKeyM1 aT aT) ∧ (bif e.beq e && sameB ro ro then cellsP gqKeyM1 (ts (l ++ r)) (ts (l ++ r)) ∧ True else False) ∧ (bif eb.beq eb && sameB rob rob then cellsP gqKeyM1 (fieldC (fb ++ rb)) (fieldC (fb ++ rb)) ∧ True else False) ∧ ((True ∧ True) ∧ True) ∧ (((0 = 0 ∧ List.length fb = List.length fb ∧ cb = cb ∧ exb = exb) ∧ True) ∧ True) ∧ True) ∧ ic x + (1 : Int) = ic y ∧ True else False else False else ∃ (_x : Unit), True ∧ ((2 = 2 ∧ cellsP gqKeyM2 fT fT) ∧ (3 = 3 ∧ cellsP gqKeyM2 aT aT) ∧ (bif e.beq e && sameB ro ro then cellsP gqKeyM2 (ts (l ++ r)) (ts (l ++ r)) ∧ True else False) ∧ (bif eb.beq eb && sameB rob rob then cellsP gqKeyM2 (fieldC (fb ++ rb)) (fieldC (fb ++ rb)) ∧ True else False) ∧ True) ∧ true = mtT l [] fb ∧ True) := by kernel_rfl
theorem vMtA_eq  (l r : LL) (e : Nat) (ro : Bool) (c : Nat) (ex : Bool) (fT aT : List AV) (fa ra : FL) (ea : Nat) (roa : Bool) (ca : Nat) (exa : Bool) : vMtA l r e ro c ex fT aT fa ra ea roa ca exa = ((∃ (x : Nat), (x ≤ List.length l ∧ mtT (List.take x l) fa [] = true) ∧ ((2 = 2 ∧ cellsP gqKeyM1 fT fT) ∧ (3 = 3 ∧ cellsP gqKeyM1 aT aT) ∧ (bif e.beq e && sameB ro ro then cellsP gqKeyM1 (ts (l ++ r)) (ts (l ++ r)) ∧ True else False) ∧ (bif ea.beq ea && sameB roa roa then cellsP gqKeyM1 (fieldC (fa ++ ra)) (fieldC (fa ++ ra)) ∧ True else False) ∧ (((0 = 0 ∧ List.length fa = List.length fa ∧ ca = ca ∧ exa = exa) ∧ True) ∧ True) ∧ ((True ∧ True) ∧ True) ∧ True) ∧ (0 : Int) = ic x ∧ True) ∧ ∀ (x : Nat), x ≤ List.length l ∧ mtT (List.take x l) fa [] = true → bif ltI (ic x) (ic (List.length l)) then bif ltI (ic x) (ic (List.length l)) then (ts (l ++ r))[0 + x * 1]? = some (AV.str (List.getD l x [])) ∧ (utf8T fT aT ∧ fldOk (fieldC (fa ++ ra)) (List.length fa) ∧ le40 (List.getD l x []) = true) ∧ bif !decide (valT (fldT (fieldC (fa ++ ra)) (List.length fa)) (List.getD l x []) = [(45 : UInt8)]) then ∃ (_x : Unit), True ∧ ((2 = 2 ∧ cellsP gqKeyM2 fT fT) ∧ (3 = 3 ∧ cellsP gqKeyM2 aT aT) ∧ (bif e.beq e && sameB ro ro then cellsP gqKeyM2 (ts (l ++ r)) (ts (l ++ r)) ∧ True else False) ∧ (bif ea.beq ea && sameB roa roa then cellsP gqKeyM2 (fieldC (fa ++ ra)) (fieldC (fa ++ ra)) ∧ True else False) ∧ True) ∧ false = mtT l fa [] ∧ True else bif leI (ic x + (1 : Int)) (9223372036854775807 : Int) then ∃ (y : Nat), (y ≤ List.length l ∧ mtT (List.take y l) fa [] = true) ∧ List.length l - y < List.length l - x ∧ ((2 = 2 ∧ cellsP gqKeyM1 fT fT) ∧ (3 = 3 ∧ cellsP gqKeyM1 aT aT) ∧ (bif e.beq e && sameB ro ro then cellsP gqKeyM1 (ts (l ++ r)) (ts (l ++ r)) ∧ True else False) ∧ (bif ea.beq ea && sameB roa roa then cellsP gqKeyM1 (fieldC (fa ++ ra)) (fieldC (fa ++ ra)) ∧ True else False) ∧ (((0 = 0 ∧ List.length fa = List.length fa ∧ ca = ca ∧ exa = exa) ∧ True) ∧ True) ∧ ((True ∧ True) ∧ True) ∧ True) ∧ ic x + (1 : Int) = ic y ∧ True else False else False else ∃ (_x : Unit), True ∧ ((2 = 2 ∧ cellsP gqKeyM2 fT fT) ∧ (3 = 3 ∧ cellsP gqKeyM2 aT aT) ∧ (bif e.beq e && sameB ro ro then cellsP gqKeyM2 (ts (l ++ r)) (ts (l ++ r)) ∧ True else False) ∧ (bif ea.beq ea && sameB roa roa then cellsP gqKeyM2 (fieldC (fa ++ ra)) (fieldC (fa ++ ra)) ∧ True else False) ∧ True) ∧ true = mtT l fa [] ∧ True) := by kernel_rfl
theorem vMt1_eq  (l r : LL) (e : Nat) (ro : Bool) (c : Nat) (ex : Bool) (fT aT : List AV) (fa ra : FL) (ea : Nat) (roa : Bool) (ca : Nat) (exa : Bool) (cb : Nat) (exb : Bool) : vMt1 l r e ro c ex fT aT fa ra ea roa ca exa cb exb = ((∃ (x : Nat), (x ≤ List.length l ∧ mtT (List.take x l) fa fa = true) ∧ ((2 = 2 ∧ cellsP gqKeyM1 fT fT) ∧ (3 = 3 ∧ cellsP gqKeyM1 aT aT) ∧ (bif e.beq e && sameB ro ro then cellsP gqKeyM1 (ts (l ++ r)) (ts (l ++ r)) ∧ True else False) ∧ (bif ea.beq ea && sameB roa roa then cellsP gqKeyM1 (fieldC (fa ++ ra)) (fieldC (fa ++ ra)) ∧ True else False) ∧ (((0 = 0 ∧ List.length fa = List.length fa ∧ ca = ca ∧ exa = exa) ∧ True) ∧ True) ∧ (((0 = 0 ∧ List.length fa = List.length fa ∧ cb = cb ∧ exb = exb) ∧ True) ∧ True) ∧ True) ∧ (0 : Int) = ic x ∧ True) ∧ ∀ (x : Nat), x ≤ List.length l ∧ mtT (List.take x l) fa fa = true → bif ltI (ic x) (ic (List.length l)) then bif ltI (ic x) (ic (List.length l)) then (ts (l ++ r))[0 + x * 1]? = some (AV.str (List.getD l x [])) ∧ (utf8T fT aT ∧ fldOk (fieldC (fa ++ ra)) (List.length fa) ∧ le40 (List.getD l x []) = true) ∧ (utf8T fT aT ∧ fldOk (fieldC (fa ++ ra)) (List.length fa) ∧ le40 (List.getD l x []) = true) ∧ bif !decide (valT (fldT (fieldC (fa ++ ra)) (List.length fa)) (List.getD l x []) = valT (fldT (fieldC (fa ++ ra)) (List.length fa)) (List.getD l x [])) then ∃ (_x : Unit), True ∧ ((2 = 2 ∧ cellsP gqKeyM2 fT fT) ∧ (3 = 3 ∧ cellsP gqKeyM2 aT aT) ∧ (bif e.beq e && sameB ro ro then cellsP gqKeyM2 (ts (l ++ r)) (ts (l ++ r)) ∧ True else False) ∧ (bif ea.beq ea && sameB roa roa then cellsP gqKeyM2 (fieldC (fa ++ ra)) (fieldC (fa ++ ra)) ∧ True else False) ∧ True) ∧ false = mtT l fa fa ∧ True else bif leI (ic x + (1 : Int)) (9223372036854775807 : Int) then ∃ (y : Nat), (y ≤ List.length l ∧ mtT (List.take y l) fa fa = true) ∧ List.length l - y < List.length l - x ∧ ((2 = 2 ∧ cellsP gqKeyM1 fT fT) ∧ (3 = 3 ∧ cellsP gqKeyM1 aT aT) ∧ (bif e.beq e && sameB ro ro then cellsP gqKeyM1 (ts (l ++ r)) (ts (l ++ r)) ∧ True else False) ∧ (bif ea.beq ea && sameB roa roa then cellsP gqKeyM1 (fieldC (fa ++ ra)) (fieldC (fa ++ ra)) ∧ True else False) ∧ (((0 = 0 ∧ List.length fa = List.length fa ∧ ca = ca ∧ exa = exa) ∧ True) ∧ True) ∧ (((0 = 0 ∧ List.length fa = List.length fa ∧ cb = cb ∧ exb = exb) ∧ True) ∧ True) ∧ True) ∧ ic x + (1 : Int) = ic y ∧ True else False else False else ∃ (_x : Unit), True ∧ ((2 = 2 ∧ cellsP gqKeyM2 fT fT) ∧ (3 = 3 ∧ cellsP gqKeyM2 aT aT) ∧ (bif e.beq e && sameB ro ro then cellsP gqKeyM2 (ts (l ++ r)) (ts (l ++ r)) ∧ True else False) ∧ (bif ea.beq ea && sameB roa roa then cellsP gqKeyM2 (fieldC (fa ++ ra)) (fieldC (fa ++ ra)) ∧ True else False) ∧ True) ∧ true = mtT l fa fa ∧ True) := by kernel_rfl
theorem vMt2_eq  (l r : LL) (e : Nat) (ro : Bool) (c : Nat) (ex : Bool) (fT aT : List AV) (fa ra fb rb : FL) (ea : Nat) (roa : Bool) (ca : Nat) (exa : Bool) (eb : Nat) (rob : Bool) (cb : Nat) (exb : Bool) : vMt2 l r e ro c ex fT aT fa ra fb rb ea roa ca exa eb rob cb exb = ((∃ (x : Nat), (x ≤ List.length l ∧ mtT (List.take x l) fa fb = true) ∧ ((2 = 2 ∧ cellsP gqKeyM3 fT fT) ∧ (3 = 3 ∧ cellsP gqKeyM3 aT aT) ∧ (bif e.beq e && sameB ro ro then cellsP gqKeyM3 (ts (l ++ r)) (ts (l ++ r)) ∧ True else False) ∧ (bif ea.beq ea && sameB roa roa then cellsP gqKeyM3 (fieldC (fa ++ ra)) (fieldC (fa ++ ra)) ∧ True else False) ∧ (bif eb.beq eb && sameB rob rob then cellsP gqKeyM3 (fieldC (fb ++ rb)) (fieldC (fb ++ rb)) ∧ True else False) ∧ (((0 = 0 ∧ List.length fa = List.length fa ∧ ca = ca ∧ exa = exa) ∧ True) ∧ True) ∧ (((0 = 0 ∧ List.length fb = List.length fb ∧ cb = cb ∧ exb = exb) ∧ True) ∧ True) ∧ True) ∧ (0 : Int) = ic x ∧ True) ∧ ∀ (x : Nat), x ≤ List.length l ∧ mtT (List.take x l) fa fb = true → bif ltI (ic x) (ic (List.length l)) then bif ltI (ic x) (ic (List.length l)) then (ts (l ++ r))[0 + x * 1]? = some (AV.str (List.getD l x [])) ∧ (utf8T fT aT ∧ fldOk (fieldC (fa ++ ra)) (List.length fa) ∧ le40 (List.getD l x []) = true) ∧ (utf8T fT aT ∧ fldOk (fieldC (fb ++ rb)) (List.length fb) ∧ le40 (List.getD l x []) = true) ∧ bif !decide (valT (fldT (fieldC (fa ++ ra)) (List.length fa)) (List.getD l x []) = valT (fldT (fieldC (fb ++ rb)) (List.length fb)) (List.getD l x [])) then ∃ (_x : Unit), True ∧ ((2 = 2 ∧ cellsP gqKeyM4 fT fT) ∧ (3 = 3 ∧ cellsP gqKeyM4 aT aT) ∧ (bif e.beq e && sameB ro ro then cellsP gqKeyM4 (ts (l ++ r)) (ts (l ++ r)) ∧ True else False) ∧ (bif ea.beq ea && sameB roa roa then cellsP gqKeyM4 (fieldC (fa ++ ra)) (fieldC (fa ++ ra)) ∧ True else False) ∧ (bif eb.beq eb && sameB rob rob then cellsP gqKeyM4 (fieldC (fb ++ rb)) (fieldC (fb ++ rb)) ∧ True else False) ∧ True) ∧ false = mtT l fa fb ∧ True else bif leI (ic x + (1 : Int)) (9223372036854775807 : Int) then ∃ (y : Nat), (y ≤ List.length l ∧ mtT (List.take y l) fa fb = true) ∧ List.length l - y < List.length l - x ∧ ((2 = 2 ∧ cellsP gqKeyM3 fT fT) ∧ (3 = 3 ∧ cellsP gqKeyM3 aT aT) ∧ (bif e.beq e && sameB ro ro then cellsP gqKeyM3 (ts (l ++ r)) (ts (l ++ r)) ∧ True else False) ∧ (bif ea.beq ea && sameB roa roa then cellsP gqKeyM3 (fieldC (fa ++ ra)) (fieldC (fa ++ ra)) ∧ True else False) ∧ (bif eb.beq eb && sameB rob rob then cellsP gqKeyM3 (fieldC (fb ++ rb)) (fieldC (fb ++ rb)) ∧ True else False) ∧ (((0 = 0 ∧ List.length fa = List.length fa ∧ ca = ca ∧ exa = exa) ∧ True) ∧ True) ∧ (((0 = 0 ∧ List.length fb = List.length fb ∧ cb = cb ∧ exb = exb) ∧ True) ∧ True) ∧ True) ∧ ic x + (1 : Int) = ic y ∧ True else False else False else ∃ (_x : Unit), True ∧ ((2 = 2 ∧ cellsP gqKeyM4 fT fT) ∧ (3 = 3 ∧ cellsP gqKeyM4 aT aT) ∧ (bif e.beq e && sameB ro ro then cellsP gqKeyM4 (ts (l ++ r)) (ts (l ++ r)) ∧ True else False) ∧ (bif ea.beq ea && sameB roa roa then cellsP gqKeyM4 (fieldC (fa ++ ra)) (fieldC (fa ++ ra)) ∧ True else False) ∧ (bif eb.beq eb && sameB rob rob then cellsP gqKeyM4 (fieldC (fb ++ rb)) (fieldC (fb ++ rb)) ∧ True else False) ∧ True) ∧ true = mtT l fa fb ∧ True) := by kernel_rfl
theorem val_nil (nm : List UInt8) : valT [] nm = [45] := if_pos rfl
theorem getL {l r : LL} {x : Nat} (hx : x < l.length) : (ts (l ++ r))[x]? = some (AV.str (List.getD l x [])) := by
  rw [ts_get (by rw [List.length_append]; omega), List.getD_eq_getElem?_getD, List.getD_eq_getElem?_getD, List.getElem?_append_left hx]
theorem mt_step2 {ns : LL} {a b : FL} {x : Nat} (hx : x < ns.length) (h1 : mtT (ns.take x) a b = true) (h2 : valT a (ns.getD x []) = valT b (ns.getD x [])) : mtT (ns.take (x + 1)) a b = true := by
  rw [mt_step hx, h1, decide_eq_true h2]; rfl
theorem mtN_vc (l r : LL) (e : Nat) (ro : Bool) (c : Nat) (ex : Bool) (fT aT : List AV) (hn : l.length ≤ 1099511627776) (hl : ∀ x, x < l.length → le40 (l.getD x []) = true) (hT : utf8T fT aT) : vMtN l r e ro c ex fT aT := by
  have hf : ∀ σ, cellsP σ fT fT = True := fun σ => eq_true (cells_refl (by rw [hT.1]; exact flats_ints _ _))
  have ha : ∀ σ, cellsP σ aT aT = True := fun σ => eq_true (cells_refl (by rw [hT.2]; exact flats_pairs _ _ _))
  rw [vMtN_eq]
  simp only [ic, cond_F, sameB_self, Nat.beq_refl]
  simp only [cond_P, leI_t, leI_f, ltI_t, ltI_f, eqI_t, eqI_f, and_t, not_t, not_f, dec_t, dec_f, Nat.zero_add, Nat.mul_one, List.drop_zero]
  simp only [cells_tsr, cells_fld, take_ts, ts_length, and_true, true_and, and_false, false_and, or_false, false_or, exists_false, Nat.le_refl, exists_const, false_implies, not_false_eq_true, true_implies, fldT_at, fldOk_at, getS_ts]
  simp only [hf, ha, hT, and_true, true_and]
  refine ⟨⟨0, ⟨Nat.zero_le _, rfl⟩, rfl⟩, fun x hx => ⟨fun hlt => ?_, fun hge => ?_⟩⟩
  · have hx' : x < l.length := by omega
    exact ⟨hlt, getL hx', ⟨by omega, x + 1, ⟨by omega, mt_step2 hx' hx.2 rfl⟩, by omega, by omega⟩⟩
  · have e : l.take x = l := List.take_of_length_le (by omega)
    rw [e] at hx
    exact hx.2.symm
theorem mtB_vc (l r : LL) (e : Nat) (ro : Bool) (c : Nat) (ex : Bool) (fT aT : List AV) (fb rb : FL) (eb : Nat) (rob : Bool) (cb : Nat) (exb : Bool) (hn : l.length ≤ 1099511627776) (hl : ∀ x, x < l.length → le40 (l.getD x []) = true) (hT : utf8T fT aT) (hb : totL fb ≤ 274877906944) : vMtB l r e ro c ex fT aT fb rb eb rob cb exb := by
  have hf : ∀ σ, cellsP σ fT fT = True := fun σ => eq_true (cells_refl (by rw [hT.1]; exact flats_ints _ _))
  have ha : ∀ σ, cellsP σ aT aT = True := fun σ => eq_true (cells_refl (by rw [hT.2]; exact flats_pairs _ _ _))
  rw [vMtB_eq]
  simp only [ic, cond_F, sameB_self, Nat.beq_refl]
  simp only [cond_P, leI_t, leI_f, ltI_t, ltI_f, eqI_t, eqI_f, and_t, not_t, not_f, dec_t, dec_f, Nat.zero_add, Nat.mul_one, List.drop_zero]
  simp only [cells_tsr, cells_fld, take_ts, ts_length, and_true, true_and, and_false, false_and, or_false, false_or, exists_false, Nat.le_refl, exists_const, false_implies, not_false_eq_true, true_implies, fldT_at, fldOk_at, getS_ts]
  simp only [hf, ha, hT, hb, and_true, true_and]
  refine ⟨⟨0, ⟨Nat.zero_le _, rfl⟩, rfl⟩, fun x hx => ⟨fun hlt => ?_, fun hge => ?_⟩⟩
  · have hx' : x < l.length := by omega
    exact ⟨hlt, getL hx', (by first | exact hl x hx'), fun he => (mt_false hx' (by first | exact he | (rw [val_nil]; exact he) | (intro h; exact he (h.trans (val_nil _))))).symm, fun he => ⟨by omega, x + 1, ⟨by omega, mt_step2 hx' hx.2 (by first | exact he | (rw [val_nil]; exact he) | exact he.trans (val_nil _).symm)⟩, by omega, by omega⟩⟩
  · have e : l.take x = l := List.take_of_length_le (by omega)
    rw [e] at hx
    exact hx.2.symm
theorem mtA_vc (l r : LL) (e : Nat) (ro : Bool) (c : Nat) (ex : Bool) (fT aT : List AV) (fa ra : FL) (ea : Nat) (roa : Bool) (ca : Nat) (exa : Bool) (hn : l.length ≤ 1099511627776) (hl : ∀ x, x < l.length → le40 (l.getD x []) = true) (hT : utf8T fT aT) (ha' : totL fa ≤ 274877906944) : vMtA l r e ro c ex fT aT fa ra ea roa ca exa := by
  have hf : ∀ σ, cellsP σ fT fT = True := fun σ => eq_true (cells_refl (by rw [hT.1]; exact flats_ints _ _))
  have ha : ∀ σ, cellsP σ aT aT = True := fun σ => eq_true (cells_refl (by rw [hT.2]; exact flats_pairs _ _ _))
  rw [vMtA_eq]
  simp only [ic, cond_F, sameB_self, Nat.beq_refl]
  simp only [cond_P, leI_t, leI_f, ltI_t, ltI_f, eqI_t, eqI_f, and_t, not_t, not_f, dec_t, dec_f, Nat.zero_add, Nat.mul_one, List.drop_zero]
  simp only [cells_tsr, cells_fld, take_ts, ts_length, and_true, true_and, and_false, false_and, or_false, false_or, exists_false, Nat.le_refl, exists_const, false_implies, not_false_eq_true, true_implies, fldT_at, fldOk_at, getS_ts]
  simp only [hf, ha, hT, ha', and_true, true_and]
  refine ⟨⟨0, ⟨Nat.zero_le _, rfl⟩, rfl⟩, fun x hx => ⟨fun hlt => ?_, fun hge => ?_⟩⟩
  · have hx' : x < l.length := by omega
    exact ⟨hlt, getL hx', (by first | exact hl x hx'), fun he => (mt_false hx' (by first | exact he | (rw [val_nil]; exact he) | (intro h; exact he (h.trans (val_nil _))))).symm, fun he => ⟨by omega, x + 1, ⟨by omega, mt_step2 hx' hx.2 (by first | exact he | (rw [val_nil]; exact he) | exact he.trans (val_nil _).symm)⟩, by omega, by omega⟩⟩
  · have e : l.take x = l := List.take_of_length_le (by omega)
    rw [e] at hx
    exact hx.2.symm
theorem mt1_vc (l r : LL) (e : Nat) (ro : Bool) (c : Nat) (ex : Bool) (fT aT : List AV) (fa ra : FL) (ea : Nat) (roa : Bool) (ca : Nat) (exa : Bool) (cb : Nat) (exb : Bool) (hn : l.length ≤ 1099511627776) (hl : ∀ x, x < l.length → le40 (l.getD x []) = true) (hT : utf8T fT aT) (ha' : totL fa ≤ 274877906944) : vMt1 l r e ro c ex fT aT fa ra ea roa ca exa cb exb := by
  have hf : ∀ σ, cellsP σ fT fT = True := fun σ => eq_true (cells_refl (by rw [hT.1]; exact flats_ints _ _))
  have ha : ∀ σ, cellsP σ aT aT = True := fun σ => eq_true (cells_refl (by rw [hT.2]; exact flats_pairs _ _ _))
  rw [vMt1_eq]
  simp only [ic, cond_F, sameB_self, Nat.beq_refl]
  simp only [cond_P, leI_t, leI_f, ltI_t, ltI_f, eqI_t, eqI_f, and_t, not_t, not_f, dec_t, dec_f, Nat.zero_add, Nat.mul_one, List.drop_zero]
  simp only [cells_tsr, cells_fld, take_ts, ts_length, and_true, true_and, and_false, false_and, or_false, false_or, exists_false, Nat.le_refl, exists_const, false_implies, not_false_eq_true, true_implies, fldT_at, fldOk_at, getS_ts]
  simp only [hf, ha, hT, ha', and_true, true_and]
  refine ⟨⟨0, ⟨Nat.zero_le _, rfl⟩, rfl⟩, fun x hx => ⟨fun hlt => ?_, fun hge => ?_⟩⟩
  · have hx' : x < l.length := by omega
    exact ⟨hlt, getL hx', hl x hx', hl x hx', (fun h => absurd trivial h), by omega, x + 1, ⟨by omega, mt_self _ _⟩, by omega, by omega⟩
  · have e : l.take x = l := List.take_of_length_le (by omega)
    rw [e] at hx
    exact hx.2.symm
theorem mt2_vc (l r : LL) (e : Nat) (ro : Bool) (c : Nat) (ex : Bool) (fT aT : List AV) (fa ra fb rb : FL) (ea : Nat) (roa : Bool) (ca : Nat) (exa : Bool) (eb : Nat) (rob : Bool) (cb : Nat) (exb : Bool) (hn : l.length ≤ 1099511627776) (hl : ∀ x, x < l.length → le40 (l.getD x []) = true) (hT : utf8T fT aT) (ha' : totL fa ≤ 274877906944) (hb : totL fb ≤ 274877906944) : vMt2 l r e ro c ex fT aT fa ra fb rb ea roa ca exa eb rob cb exb := by
  have hf : ∀ σ, cellsP σ fT fT = True := fun σ => eq_true (cells_refl (by rw [hT.1]; exact flats_ints _ _))
  have ha : ∀ σ, cellsP σ aT aT = True := fun σ => eq_true (cells_refl (by rw [hT.2]; exact flats_pairs _ _ _))
  rw [vMt2_eq]
  simp only [ic, cond_F, sameB_self, Nat.beq_refl]
  simp only [cond_P, leI_t, leI_f, ltI_t, ltI_f, eqI_t, eqI_f, and_t, not_t, not_f, dec_t, dec_f, Nat.zero_add, Nat.mul_one, List.drop_zero]
  simp only [cells_tsr, cells_fld, take_ts, ts_length, and_true, true_and, and_false, false_and, or_false, false_or, exists_false, Nat.le_refl, exists_const, false_implies, not_false_eq_true, true_implies, fldT_at, fldOk_at, getS_ts]
  simp only [hf, ha, hT, ha', hb, and_true, true_and]
  refine ⟨⟨0, ⟨Nat.zero_le _, rfl⟩, rfl⟩, fun x hx => ⟨fun hlt => ?_, fun hge => ?_⟩⟩
  · have hx' : x < l.length := by omega
    exact ⟨hlt, getL hx', (by first | exact hl x hx'), (by first | exact hl x hx'), fun he => (mt_false hx' (by first | exact he | (rw [val_nil]; exact he) | (intro h; exact he (h.trans (val_nil _))))).symm, fun he => ⟨by omega, x + 1, ⟨by omega, mt_step2 hx' hx.2 (by first | exact he | (rw [val_nil]; exact he) | exact he.trans (val_nil _).symm)⟩, by omega, by omega⟩⟩
  · have e : l.take x = l := List.take_of_length_le (by omega)
    rw [e] at hx
    exact hx.2.symm
theorem TMt_ok : SpecOk Tryz.prog (tabS TMt noS) := by
  refine tabS_ok (fun p hp => ?_) noS_ok
  simp only [TMt, List.mem_cons, List.mem_nil_iff, or_false] at hp
  subst hp
  exact eVal_ok
def strsOk (vs : List AV) (n : Nat) : Prop := vs = ts (getS vs) ∧ n ≤ (getS vs).length ∧ n ≤ 1099511627776 ∧ ∀ s ∈ (getS vs).take n, s.length ≤ 1099511627776
theorem strs_ex {vs : List AV} {n : Nat} (h : strsOk vs n) : ∃ l r : LL, (getS vs).take n = l ∧ vs = ts (l ++ r) ∧ n = l.length ∧ l.length ≤ 1099511627776 ∧ ∀ x, x < l.length → le40 (l.getD x []) = true := by
  obtain ⟨h1, h2, h3, h4⟩ := h
  have hl : ((getS vs).take n).length = n := by rw [List.length_take]; omega
  refine ⟨_, (getS vs).drop n, rfl, by rw [List.take_append_drop]; exact h1, hl.symm, by omega, fun x hx => decide_eq_true (h4 _ (getD_mem hx))⟩
theorem strs_at {l r : LL} (h3 : l.length ≤ 1099511627776) (h4 : ∀ s ∈ l, s.length ≤ 1099511627776) : strsOk (ts (l ++ r)) l.length ∧ (getS (ts (l ++ r))).take l.length = l := by
  refine ⟨⟨by rw [getS_ts], by rw [getS_ts, List.length_append]; omega, h3, ?_⟩, ?_⟩
  · rw [getS_ts, List.take_left]; exact h4
  · rw [getS_ts, List.take_left]
noncomputable def eMat : SpecE := fun args H =>
  match args with
  | [.sl b 0 n _ _, x, y] => match H[0]?, H[1]?, H[b]? with
    | some (ABlk.glob 2 f), some (ABlk.glob 3 a), some (.cells vs _ _) => match x with
      | .nilsl => match y with
        | .nilsl => some (.needP (utf8T f a ∧ strsOk vs n) (.ok (.bool (mtT ((getS vs).take n) [] [])) none))
        | .sl bb 0 nb _ _ => match H[bb]? with
          | some (.cells vb _ _) => some (.needP (utf8T f a ∧ strsOk vs n ∧ fldOk vb nb ∧ b ≠ bb) (.ok (.bool (mtT ((getS vs).take n) [] (fldT vb nb))) none))
          | _ => none
        | _ => none
      | .sl ba 0 na _ _ => match H[ba]? with
        | some (.cells va _ _) => match y with
          | .nilsl => some (.needP (utf8T f a ∧ strsOk vs n ∧ fldOk va na ∧ b ≠ ba) (.ok (.bool (mtT ((getS vs).take n) (fldT va na) [])) none))
          | .sl bb 0 nb _ _ => match Nat.beq ba bb with
            | true => some (.needP (utf8T f a ∧ strsOk vs n ∧ fldOk va na ∧ b ≠ ba ∧ na = nb) (.ok (.bool (mtT ((getS vs).take n) (fldT va na) (fldT va na))) none))
            | false => match H[bb]? with
              | some (.cells vb _ _) => some (.needP (utf8T f a ∧ strsOk vs n ∧ fldOk va na ∧ fldOk vb nb ∧ b ≠ ba ∧ b ≠ bb) (.ok (.bool (mtT ((getS vs).take n) (fldT va na) (fldT vb nb))) none))
              | _ => none
          | _ => none
        | _ => none
      | _ => none
    | _, _, _ => none
  | _ => none
theorem glob_cells_ren {fT aT : List AV} (hT : utf8T fT aT) : (gFst fT ≠ .dead ∧ ∀ ρ, (gFst fT).ren ρ = gFst fT) ∧ (gAcc aT ≠ .dead ∧ ∀ ρ, (gAcc aT).ren ρ = gAcc aT) := by
  refine ⟨⟨by simp [gFst], fun ρ => ?_⟩, ⟨by simp [gAcc], fun ρ => ?_⟩⟩
  · show ABlk.glob _ (AV.rens ρ fT) = _
    rw [AV.rens_flat (by rw [hT.1]; exact flats_ints _ _)]; rfl
  · show ABlk.glob _ (AV.rens ρ aT) = _
    rw [AV.rens_flat (by rw [hT.2]; exact flats_pairs _ _ _)]; rfl
theorem utf_reads2 {f : FuncId} {args0 args : List AV} {fT aT : List AV} {R : AH} {v : AV} {g : Option (List Nat)} {H : AH} {σ : List Nat} (hT : utf8T fT aT) (h : SC Tryz.prog f args0 (gFst fT :: gAcc aT :: R) (outE [⟨Unit, fun _ => v, fun _ => gFst fT :: gAcc aT :: R, fun _ => True, g⟩])) (hv : v.flat = true)
    (hR : ∀ k ∈ R, ∃ vs e ro, k = .cells vs e ro ∧ AV.flats vs = true) (hσ : R.length = σ.length) (hnd : (0 :: 1 :: σ).Nodup) (h0 : H[0]? = some (gFst fT)) (h1 : H[1]? = some (gAcc aT)) (hb : ∀ (i b : Nat), σ[i]? = some b → H[b]? = R[i]?) (ha : AV.rens (rn (0 :: 1 :: σ) H.length) args0 = args) : SC Tryz.prog f args H (fun v' H' => v' = v ∧ H' = H) := by
  have h2 := out1 h
  have := SC.reads (K := fun v' H' => v' = v ∧ H' = H) (σ := 0 :: 1 :: σ) h2 (fun k hk => by
    rcases List.mem_cons.1 hk with rfl | hk
    · exact (glob_cells_ren hT).1
    · rcases List.mem_cons.1 hk with rfl | hk
      · exact (glob_cells_ren hT).2
      · obtain ⟨vs, e, ro, rfl, hf⟩ := hR k hk
        exact ⟨by simp, cells_ren hf e ro⟩) hnd (by simp [hσ]) (fun i b h => by
    match i with
    | 0 => simp at h; subst h; rw [h0]; rfl
    | 1 => simp at h; subst h; rw [h1]; rfl
    | i + 2 => exact hb i b (by simpa using h)) (by
    rintro v0 H0' ⟨rfl, rfl⟩
    exact ⟨[], by simp, (fun t ht => by cases ht), AV.ren_flat hv, by simp⟩)
  rwa [ha] at this
theorem eMat_ok : EntryOk Tryz.prog 12 eMat := by
  intro args H sr hs K hk
  unfold eMat at hs
  split at hs
  · rename_i b n c ex x y
    split at hs
    · rename_i f a vs e ro h0 h1 hb
      have hb0 : b ≠ 0 := fun e => by subst e; rw [h0] at hb; cases hb
      have hb1 : b ≠ 1 := fun e => by subst e; rw [h1] at hb; cases hb
      have fin : ∀ {v : AV}, SC Tryz.prog 12 [.sl b 0 n c ex, x, y] H (fun v' H' => v' = v ∧ H' = H) → K v none → SC Tryz.prog 12 [.sl b 0 n c ex, x, y] H fun v' H' => ∃ ch, K v' ch ∧ H' = chN H ch := fun h hK => h.mono (by rintro v' H' ⟨rfl, rfl⟩; exact ⟨none, hK, rfl⟩)
      have one : ∀ {vs : List AV} {n : Nat}, fldOk vs n → ∃ l r : FL, fldT vs n = l ∧ vs = fieldC (l ++ r) ∧ n = l.length ∧ totL l ≤ 274877906944 := fun h => by
        obtain ⟨r, e1, hl, h3⟩ := fldOk_ex h
        exact ⟨_, r, rfl, e1, hl, h3⟩
      have ne0 : ∀ {bb : Nat} {vb : List AV} {eb : Nat} {rob : Bool}, H[bb]? = some (.cells vb eb rob) → bb ≠ 0 ∧ bb ≠ 1 := fun hbb => ⟨(fun e => by subst e; rw [h0] at hbb; cases hbb), (fun e => by subst e; rw [h1] at hbb; cases hbb)⟩
      split at hs
      · split at hs
        · cases hs
          obtain ⟨⟨hT, hS⟩, h2⟩ := hk
          obtain ⟨l, r, e1, rfl, rfl, hn, hl⟩ := strs_ex hS
          rw [e1] at h2
          refine fin (utf_reads2 (σ := [b]) (R := [.cells (ts (l ++ r)) e ro]) hT (SC.ofF (V := VMt l [] []) names0 mixed0 TMt_ok noO_ok (mtN_vc l r e ro c ex f a hn hl hT)) rfl (fun k hk => by simp at hk; subst hk; exact ⟨_, _, _, rfl, ts_flat _⟩) rfl (by simp; omega) h0 h1 (fun i b' h => by
            match i with
            | 0 => simp at h; subst h; exact hb
            | i + 1 => simp at h) rfl) h2
        · rename_i bb nb cb exb
          split at hs
          · rename_i vb eb rob hbb
            cases hs
            obtain ⟨⟨hT, hS, hF, hne⟩, h2⟩ := hk
            obtain ⟨l, r, e1, rfl, rfl, hn, hl⟩ := strs_ex hS
            obtain ⟨fb, rb, e2, rfl, rfl, hfb⟩ := one hF
            rw [e1, e2] at h2
            obtain ⟨hc0, hc1⟩ := ne0 hbb
            refine fin (utf_reads2 (σ := [b, bb]) (R := [.cells (ts (l ++ r)) e ro, .cells (fieldC (fb ++ rb)) eb rob]) hT (SC.ofF (V := VMt l [] fb) names0 mixed0 TMt_ok noO_ok (mtB_vc l r e ro c ex f a fb rb eb rob cb exb hn hl hT hfb)) rfl (fun k hk => by
              simp at hk
              rcases hk with rfl | rfl
              · exact ⟨_, _, _, rfl, ts_flat _⟩
              · exact ⟨_, _, _, rfl, fieldC_flat _⟩) rfl (by simp; omega) h0 h1 (fun i b' h => by
              match i with
              | 0 => simp at h; subst h; exact hb
              | 1 => simp at h; subst h; exact hbb
              | i + 2 => simp at h) rfl) h2
          · cases hs
        · cases hs
      · rename_i ba na ca exa
        split at hs
        · rename_i va ea roa hba
          obtain ⟨hc0, hc1⟩ := ne0 hba
          split at hs
          · cases hs
            obtain ⟨⟨hT, hS, hF, hne⟩, h2⟩ := hk
            obtain ⟨l, r, e1, rfl, rfl, hn, hl⟩ := strs_ex hS
            obtain ⟨fa, ra, e2, rfl, rfl, hfa⟩ := one hF
            rw [e1, e2] at h2
            refine fin (utf_reads2 (σ := [b, ba]) (R := [.cells (ts (l ++ r)) e ro, .cells (fieldC (fa ++ ra)) ea roa]) hT (SC.ofF (V := VMt l fa []) names0 mixed0 TMt_ok noO_ok (mtA_vc l r e ro c ex f a fa ra ea roa ca exa hn hl hT hfa)) rfl (fun k hk => by
              simp at hk
              rcases hk with rfl | rfl
              · exact ⟨_, _, _, rfl, ts_flat _⟩
              · exact ⟨_, _, _, rfl, fieldC_flat _⟩) rfl (by simp; omega) h0 h1 (fun i b' h => by
              match i with
              | 0 => simp at h; subst h; exact hb
              | 1 => simp at h; subst h; exact hba
              | i + 2 => simp at h) rfl) h2
          · rename_i bb nb cb exb
            split at hs
            · rename_i hbeq
              obtain rfl := Nat.eq_of_beq_eq_true hbeq
              cases hs
              obtain ⟨⟨hT, hS, hF, hne, hnn⟩, h2⟩ := hk
              obtain ⟨l, r, e1, rfl, rfl, hn, hl⟩ := strs_ex hS
              obtain ⟨fa, ra, e2, rfl, e3, hfa⟩ := one hF
              subst hnn
              rw [e1, e2] at h2
              subst e3
              refine fin (utf_reads2 (σ := [b, ba]) (R := [.cells (ts (l ++ r)) e ro, .cells (fieldC (fa ++ ra)) ea roa]) hT (SC.ofF (V := VMt l fa fa) names0 mixed0 TMt_ok noO_ok (mt1_vc l r e ro c ex f a fa ra ea roa ca exa cb exb hn hl hT hfa)) rfl (fun k hk => by
                simp at hk
                rcases hk with rfl | rfl
                · exact ⟨_, _, _, rfl, ts_flat _⟩
                · exact ⟨_, _, _, rfl, fieldC_flat _⟩) rfl (by simp; omega) h0 h1 (fun i b' h => by
                match i with
                | 0 => simp at h; subst h; exact hb
                | 1 => simp at h; subst h; exact hba
                | i + 2 => simp at h) rfl) h2
            · rename_i hbeq
              have hab : ba ≠ bb := fun e => by subst e; rw [Nat.beq_refl] at hbeq; cases hbeq
              split at hs
              · rename_i vb eb rob hbb
                obtain ⟨hd0, hd1⟩ := ne0 hbb
                cases hs
                obtain ⟨⟨hT, hS, hF, hG, hne, hne2⟩, h2⟩ := hk
                obtain ⟨l, r, e1, rfl, rfl, hn, hl⟩ := strs_ex hS
                obtain ⟨fa, ra, e2, rfl, rfl, hfa⟩ := one hF
                obtain ⟨fb, rb, e3, rfl, rfl, hfb⟩ := one hG
                rw [e1, e2, e3] at h2
                refine fin (utf_reads2 (σ := [b, ba, bb]) (R := [.cells (ts (l ++ r)) e ro, .cells (fieldC (fa ++ ra)) ea roa, .cells (fieldC (fb ++ rb)) eb rob]) hT (SC.ofF (V := VMt l fa fb) names0 mixed0 TMt_ok noO_ok (mt2_vc l r e ro c ex f a fa ra fb rb ea roa ca exa eb rob cb exb hn hl hT hfa hfb)) rfl (fun k hk => by
                  simp at hk
                  rcases hk with rfl | rfl | rfl
                  · exact ⟨_, _, _, rfl, ts_flat _⟩
                  · exact ⟨_, _, _, rfl, fieldC_flat _⟩
                  · exact ⟨_, _, _, rfl, fieldC_flat _⟩) rfl (by simp; omega) h0 h1 (fun i b' h => by
                  match i with
                  | 0 => simp at h; subst h; exact hb
                  | 1 => simp at h; subst h; exact hba
                  | 2 => simp at h; subst h; exact hbb
                  | i + 3 => simp at h) rfl) h2
              · cases hs
          · cases hs
        · cases hs
      · cases hs
    · cases hs
  · cases hs
end Go.Proofs.YtciciemaldbidaaGreatDoor

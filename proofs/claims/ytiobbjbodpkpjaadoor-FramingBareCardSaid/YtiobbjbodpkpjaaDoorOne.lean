/- The law FramingOne, walked, case by case. -/
import Derived.Test.YtiobbjbodpkpjaaDoorFr3
import Derived.Test.YtiobbjbodpkpjaaDoorRef
set_option linter.unusedSimpArgs false
set_option linter.unusedVariables false
namespace Go.Proofs.YtiobbjbodpkpjaaDoor
open Go Go.Ve
set_option maxRecDepth 20000
def gLives (args : List AV) : Option (Bool × AV) := match args with | [] => some (true, .bool true) | _ => none
/-- An answer given by another name. -/
def eAs (v' : AV) (e : SpecE) : SpecE := fun args H =>
  match e args H with
  | some (.needP p (.ok v none)) => some (.needP (p ∧ v = v') (.ok v' none))
  | some (.need b (.ok v none)) => some (.need b (.needP (v = v') (.ok v' none)))
  | r => r
theorem eAs_ok {P : Program} {f : FuncId} {e : SpecE} (h : EntryOk P f e) (v' : AV) : EntryOk P f (eAs v' e) := by
  intro args H sr hs K hk
  unfold eAs at hs
  split at hs
  · rename_i p v he
    cases hs
    obtain ⟨⟨h1, rfl⟩, h2⟩ := hk
    exact h args H _ he K ⟨h1, h2⟩
  · rename_i b v he
    cases hs
    refine h args H _ he K ?_
    obtain ⟨h1, rfl, h2⟩ := cond_need hk
    show cond b _ False
    rw [h1]; exact h2
  · exact h args H sr hs K hk
/-- The values of a name, given. -/
noncomputable def eAllAs (A1 A2 : LL) : SpecE := fun args H =>
  match args with
  | [.nilsl, .str _] => some (.ok .nilsl none)
  | [.slz, .str _] => some (.ok .nilsl none)
  | [.sl b 0 n _ _, .str nm] => match H[b]? with
    | some (.cells vs _ _) => match (bif bytesEq nm clN then A1 else A2) with
      | [] => some (.needP (fldOk vs n ∧ le40 nm = true ∧ allF (fldT vs n) nm = []) (.ok .nilsl none))
      | a :: r => some (.needP (fldOk vs n ∧ le40 nm = true ∧ allF (fldT vs n) nm = a :: r) (.ok (.sl H.length 0 (r.length + 1) (r.length + 1) false) (some (H ++ [.cells (ts (a :: r)) eT false]))))
    | _ => none
  | _ => none
noncomputable def TO (A1 A2 : LL) (b : Bool) (q q' : Int × Int × Bool × Int) : List (Nat × SpecE) := [(6, flatE gLives), (19, eLit), (14, eAllAs A1 A2), (12, eAs (rqV q) (eFl gReq)), (13, eAs (rqV q') (eFl gResp)), (15, eAs (.bool b) (flatE gBare))]
noncomputable def faO (f : FuncId) : Option FA := match Nat.beq f 7 with | true => some ⟨[], [], []⟩ | false => none
noncomputable def VO (A1 A2 : LL) (b : Bool) (q q' : Int × Int × Bool × Int) : VE := ⟨Tryd.prog, tabS (TO A1 A2 b q q') noS, noO, faO⟩

noncomputable def vOne00  (te : Nat) (l r : FL) (m : List UInt8) (st minor : Int) (v : List UInt8) (w : LL) (x : List UInt8) (y : LL) (n : Int) : Prop := vcF (VO [] [] false (1, 0, false, 0) (4, 0, true, 0)) [] 300 [] [(138, .bool true)] 4 [.sl 1 0 l.length (l.length + r.length) true, .str m, .int .i64 st, .int .i64 minor] [gErr te, .cells (fieldC (l ++ r)) 0 true] (outG l r 0 true (.bool true) te)
noncomputable def vOne01  (te : Nat) (l r : FL) (m : List UInt8) (st minor : Int) (v : List UInt8) (w : LL) (x : List UInt8) (y : LL) (n : Int) : Prop := vcF (VO [] [] true (1, 0, false, 0) (1, 0, true, 0)) [] 300 [] [(138, .bool true)] 4 [.sl 1 0 l.length (l.length + r.length) true, .str m, .int .i64 st, .int .i64 minor] [gErr te, .cells (fieldC (l ++ r)) 0 true] (outG l r 0 true (.bool true) te)
noncomputable def vOne10  (te : Nat) (l r : FL) (m : List UInt8) (st minor : Int) (v : List UInt8) (w : LL) (x : List UInt8) (y : LL) (n : Int) : Prop := vcF (VO [] (v :: w) false (0, 0, true, 400) (0, 0, true, 400)) [] 300 [] [(138, .bool true)] 4 [.sl 1 0 l.length (l.length + r.length) true, .str m, .int .i64 st, .int .i64 minor] [gErr te, .cells (fieldC (l ++ r)) 0 true] (outG l r 0 true (.bool true) te)
noncomputable def vOne11  (te : Nat) (l r : FL) (m : List UInt8) (st minor : Int) (v : List UInt8) (w : LL) (x : List UInt8) (y : LL) (n : Int) : Prop := vcF (VO [] (v :: w) true (0, 0, true, 400) (1, 0, true, 0)) [] 300 [] [(138, .bool true)] 4 [.sl 1 0 l.length (l.length + r.length) true, .str m, .int .i64 st, .int .i64 minor] [gErr te, .cells (fieldC (l ++ r)) 0 true] (outG l r 0 true (.bool true) te)
noncomputable def vOne20  (te : Nat) (l r : FL) (m : List UInt8) (st minor : Int) (v : List UInt8) (w : LL) (x : List UInt8) (y : LL) (n : Int) : Prop := vcF (VO [] (v :: w) false (0, 0, true, 501) (0, 0, true, 501)) [] 300 [] [(138, .bool true)] 4 [.sl 1 0 l.length (l.length + r.length) true, .str m, .int .i64 st, .int .i64 minor] [gErr te, .cells (fieldC (l ++ r)) 0 true] (outG l r 0 true (.bool true) te)
noncomputable def vOne21  (te : Nat) (l r : FL) (m : List UInt8) (st minor : Int) (v : List UInt8) (w : LL) (x : List UInt8) (y : LL) (n : Int) : Prop := vcF (VO [] (v :: w) true (0, 0, true, 501) (1, 0, true, 0)) [] 300 [] [(138, .bool true)] 4 [.sl 1 0 l.length (l.length + r.length) true, .str m, .int .i64 st, .int .i64 minor] [gErr te, .cells (fieldC (l ++ r)) 0 true] (outG l r 0 true (.bool true) te)
noncomputable def vOne30  (te : Nat) (l r : FL) (m : List UInt8) (st minor : Int) (v : List UInt8) (w : LL) (x : List UInt8) (y : LL) (n : Int) : Prop := vcF (VO [] (v :: w) false (3, 0, true, 0) (3, 0, true, 0)) [] 300 [] [(138, .bool true)] 4 [.sl 1 0 l.length (l.length + r.length) true, .str m, .int .i64 st, .int .i64 minor] [gErr te, .cells (fieldC (l ++ r)) 0 true] (outG l r 0 true (.bool true) te)
noncomputable def vOne31  (te : Nat) (l r : FL) (m : List UInt8) (st minor : Int) (v : List UInt8) (w : LL) (x : List UInt8) (y : LL) (n : Int) : Prop := vcF (VO [] (v :: w) true (3, 0, true, 0) (1, 0, true, 0)) [] 300 [] [(138, .bool true)] 4 [.sl 1 0 l.length (l.length + r.length) true, .str m, .int .i64 st, .int .i64 minor] [gErr te, .cells (fieldC (l ++ r)) 0 true] (outG l r 0 true (.bool true) te)
noncomputable def vOne40  (te : Nat) (l r : FL) (m : List UInt8) (st minor : Int) (v : List UInt8) (w : LL) (x : List UInt8) (y : LL) (n : Int) : Prop := vcF (VO (v :: w) [] false (0, 0, true, 400) (0, 0, true, 400)) [] 300 [] [(138, .bool true)] 4 [.sl 1 0 l.length (l.length + r.length) true, .str m, .int .i64 st, .int .i64 minor] [gErr te, .cells (fieldC (l ++ r)) 0 true] (outG l r 0 true (.bool true) te)
noncomputable def vOne41  (te : Nat) (l r : FL) (m : List UInt8) (st minor : Int) (v : List UInt8) (w : LL) (x : List UInt8) (y : LL) (n : Int) : Prop := vcF (VO (v :: w) [] true (0, 0, true, 400) (1, 0, true, 0)) [] 300 [] [(138, .bool true)] 4 [.sl 1 0 l.length (l.length + r.length) true, .str m, .int .i64 st, .int .i64 minor] [gErr te, .cells (fieldC (l ++ r)) 0 true] (outG l r 0 true (.bool true) te)
noncomputable def vOne50  (te : Nat) (l r : FL) (m : List UInt8) (st minor : Int) (v : List UInt8) (w : LL) (x : List UInt8) (y : LL) (n : Int) : Prop := vcF (VO (v :: w) [] false (2, n, true, 0) (2, n, true, 0)) [] 300 [] [(138, .bool true)] 4 [.sl 1 0 l.length (l.length + r.length) true, .str m, .int .i64 st, .int .i64 minor] [gErr te, .cells (fieldC (l ++ r)) 0 true] (outG l r 0 true (.bool true) te)
noncomputable def vOne51  (te : Nat) (l r : FL) (m : List UInt8) (st minor : Int) (v : List UInt8) (w : LL) (x : List UInt8) (y : LL) (n : Int) : Prop := vcF (VO (v :: w) [] true (2, n, true, 0) (1, 0, true, 0)) [] 300 [] [(138, .bool true)] 4 [.sl 1 0 l.length (l.length + r.length) true, .str m, .int .i64 st, .int .i64 minor] [gErr te, .cells (fieldC (l ++ r)) 0 true] (outG l r 0 true (.bool true) te)
noncomputable def vOne60  (te : Nat) (l r : FL) (m : List UInt8) (st minor : Int) (v : List UInt8) (w : LL) (x : List UInt8) (y : LL) (n : Int) : Prop := vcF (VO (v :: w) [] false (1, 0, true, 0) (1, 0, true, 0)) [] 300 [] [(138, .bool true)] 4 [.sl 1 0 l.length (l.length + r.length) true, .str m, .int .i64 st, .int .i64 minor] [gErr te, .cells (fieldC (l ++ r)) 0 true] (outG l r 0 true (.bool true) te)
noncomputable def vOne61  (te : Nat) (l r : FL) (m : List UInt8) (st minor : Int) (v : List UInt8) (w : LL) (x : List UInt8) (y : LL) (n : Int) : Prop := vcF (VO (v :: w) [] true (1, 0, true, 0) (1, 0, true, 0)) [] 300 [] [(138, .bool true)] 4 [.sl 1 0 l.length (l.length + r.length) true, .str m, .int .i64 st, .int .i64 minor] [gErr te, .cells (fieldC (l ++ r)) 0 true] (outG l r 0 true (.bool true) te)
noncomputable def vOne70  (te : Nat) (l r : FL) (m : List UInt8) (st minor : Int) (v : List UInt8) (w : LL) (x : List UInt8) (y : LL) (n : Int) : Prop := vcF (VO (v :: w) (x :: y) false (0, 0, true, 400) (0, 0, true, 400)) [] 300 [] [(138, .bool true)] 4 [.sl 1 0 l.length (l.length + r.length) true, .str m, .int .i64 st, .int .i64 minor] [gErr te, .cells (fieldC (l ++ r)) 0 true] (outG l r 0 true (.bool true) te)
noncomputable def vOne71  (te : Nat) (l r : FL) (m : List UInt8) (st minor : Int) (v : List UInt8) (w : LL) (x : List UInt8) (y : LL) (n : Int) : Prop := vcF (VO (v :: w) (x :: y) true (0, 0, true, 400) (1, 0, true, 0)) [] 300 [] [(138, .bool true)] 4 [.sl 1 0 l.length (l.length + r.length) true, .str m, .int .i64 st, .int .i64 minor] [gErr te, .cells (fieldC (l ++ r)) 0 true] (outG l r 0 true (.bool true) te)
noncomputable def vOneN0  (te : Nat) (m : List UInt8) (st minor : Int) : Prop := vcF (VO [] [] false (1, 0, false, 0) (4, 0, true, 0)) [] 300 [] [] 4 [.nilsl, .str m, .int .i64 st, .int .i64 minor] [gErr te] (outGn (.bool true) te)
noncomputable def vOneZ0  (te : Nat) (m : List UInt8) (st minor : Int) : Prop := vcF (VO [] [] false (1, 0, false, 0) (4, 0, true, 0)) [] 300 [] [] 4 [.slz, .str m, .int .i64 st, .int .i64 minor] [gErr te] (outGn (.bool true) te)
noncomputable def vOneN1  (te : Nat) (m : List UInt8) (st minor : Int) : Prop := vcF (VO [] [] true (1, 0, false, 0) (1, 0, true, 0)) [] 300 [] [] 4 [.nilsl, .str m, .int .i64 st, .int .i64 minor] [gErr te] (outGn (.bool true) te)
noncomputable def vOneZ1  (te : Nat) (m : List UInt8) (st minor : Int) : Prop := vcF (VO [] [] true (1, 0, false, 0) (1, 0, true, 0)) [] 300 [] [] 4 [.slz, .str m, .int .i64 st, .int .i64 minor] [gErr te] (outGn (.bool true) te)
theorem vOne00_eq  (te : Nat) (l r : FL) (m : List UInt8) (st minor : Int) (v : List UInt8) (w : LL) (x : List UInt8) (y : LL) (n : Int) : vOne00 te l r m st minor v w x y n = ((fieldC (l ++ r) = fieldC (getF (fieldC (l ++ r))) ∧ List.length l ≤ List.length (getF (fieldC (l ++ r))) ∧ ∀ (f : List UInt8 × List UInt8), List.Mem f (fldT (fieldC (l ++ r)) (List.length l)) → f.fst.length ≤ (281474976710656 : Nat) ∧ f.snd.length ≤ (281474976710656 : Nat)) ∧ bif !lightB (fldT (fieldC (l ++ r)) (List.length l)) then ∃ (_x : Unit), True ∧ (((1 : Nat) = (1 : Nat) ∧ (te = te ∧ True) ∧ True) ∧ (cellsP (fun (b : Nat) => [(0 : Nat), (1 : Nat)].getD b (2 : Nat)) (fieldC (l ++ r)) (fieldC (l ++ r)) ∧ True) ∧ True) ∧ true = true ∧ True else bif ltI (60 : Int) (ic m.length) then ∃ (_x : Unit), True ∧ (((1 : Nat) = (1 : Nat) ∧ (te = te ∧ True) ∧ True) ∧ (cellsP (fun (b : Nat) => [(0 : Nat), (1 : Nat)].getD b (2 : Nat)) (fieldC (l ++ r)) (fieldC (l ++ r)) ∧ True) ∧ True) ∧ true = true ∧ True else (fldOk (fieldC (l ++ r)) (List.length l) ∧ true = true ∧ allF (fldT (fieldC (l ++ r)) (List.length l)) [(67 : UInt8), (111 : UInt8), (110 : UInt8), (116 : UInt8), (101 : UInt8), (110 : UInt8), (116 : UInt8), (45 : UInt8), (76 : UInt8), (101 : UInt8), (110 : UInt8), (103 : UInt8), (116 : UInt8), (104 : UInt8)] = []) ∧ (fldOk (fieldC (l ++ r)) (List.length l) ∧ true = true ∧ allF (fldT (fieldC (l ++ r)) (List.length l)) [(84 : UInt8), (114 : UInt8), (97 : UInt8), (110 : UInt8), (115 : UInt8), (102 : UInt8), (101 : UInt8), (114 : UInt8), (45 : UInt8), (69 : UInt8), (110 : UInt8), (99 : UInt8), (111 : UInt8), (100 : UInt8), (105 : UInt8), (110 : UInt8), (103 : UInt8)] = []) ∧ ((fldOk (fieldC (l ++ r)) (List.length l) ∧ true = true) ∧ rqV (frL minor (fldT (fieldC (l ++ r)) (List.length l))) = rqV ((1 : Int), (0 : Int), false, (0 : Int))) ∧ ((fldOk (fieldC (l ++ r)) (List.length l) ∧ (leI (-9223372036854775808 : Int) st && leI st (9223372036854775807 : Int)) = true) ∧ rqV (rsF m st minor (fldT (fieldC (l ++ r)) (List.length l))) = rqV ((4 : Int), (0 : Int), true, (0 : Int))) ∧ bif leI (-9223372036854775808 : Int) st && leI st (9223372036854775807 : Int) then AV.bool (bareF m st) = AV.bool false ∧ ∃ (_x : Unit), True ∧ (((1 : Nat) = (1 : Nat) ∧ (te = te ∧ True) ∧ True) ∧ (cellsP (fun (b : Nat) => [(0 : Nat), (1 : Nat)].getD b (4 : Nat)) (fieldC (l ++ r)) (fieldC (l ++ r)) ∧ True) ∧ True) ∧ true = true ∧ True else False) := by kernel_rfl
theorem vOne01_eq  (te : Nat) (l r : FL) (m : List UInt8) (st minor : Int) (v : List UInt8) (w : LL) (x : List UInt8) (y : LL) (n : Int) : vOne01 te l r m st minor v w x y n = ((fieldC (l ++ r) = fieldC (getF (fieldC (l ++ r))) ∧ List.length l ≤ List.length (getF (fieldC (l ++ r))) ∧ ∀ (f : List UInt8 × List UInt8), List.Mem f (fldT (fieldC (l ++ r)) (List.length l)) → f.fst.length ≤ (281474976710656 : Nat) ∧ f.snd.length ≤ (281474976710656 : Nat)) ∧ bif !lightB (fldT (fieldC (l ++ r)) (List.length l)) then ∃ (_x : Unit), True ∧ (((1 : Nat) = (1 : Nat) ∧ (te = te ∧ True) ∧ True) ∧ (cellsP (fun (b : Nat) => [(0 : Nat), (1 : Nat)].getD b (2 : Nat)) (fieldC (l ++ r)) (fieldC (l ++ r)) ∧ True) ∧ True) ∧ true = true ∧ True else bif ltI (60 : Int) (ic m.length) then ∃ (_x : Unit), True ∧ (((1 : Nat) = (1 : Nat) ∧ (te = te ∧ True) ∧ True) ∧ (cellsP (fun (b : Nat) => [(0 : Nat), (1 : Nat)].getD b (2 : Nat)) (fieldC (l ++ r)) (fieldC (l ++ r)) ∧ True) ∧ True) ∧ true = true ∧ True else (fldOk (fieldC (l ++ r)) (List.length l) ∧ true = true ∧ allF (fldT (fieldC (l ++ r)) (List.length l)) [(67 : UInt8), (111 : UInt8), (110 : UInt8), (116 : UInt8), (101 : UInt8), (110 : UInt8), (116 : UInt8), (45 : UInt8), (76 : UInt8), (101 : UInt8), (110 : UInt8), (103 : UInt8), (116 : UInt8), (104 : UInt8)] = []) ∧ (fldOk (fieldC (l ++ r)) (List.length l) ∧ true = true ∧ allF (fldT (fieldC (l ++ r)) (List.length l)) [(84 : UInt8), (114 : UInt8), (97 : UInt8), (110 : UInt8), (115 : UInt8), (102 : UInt8), (101 : UInt8), (114 : UInt8), (45 : UInt8), (69 : UInt8), (110 : UInt8), (99 : UInt8), (111 : UInt8), (100 : UInt8), (105 : UInt8), (110 : UInt8), (103 : UInt8)] = []) ∧ ((fldOk (fieldC (l ++ r)) (List.length l) ∧ true = true) ∧ rqV (frL minor (fldT (fieldC (l ++ r)) (List.length l))) = rqV ((1 : Int), (0 : Int), false, (0 : Int))) ∧ ((fldOk (fieldC (l ++ r)) (List.length l) ∧ (leI (-9223372036854775808 : Int) st && leI st (9223372036854775807 : Int)) = true) ∧ rqV (rsF m st minor (fldT (fieldC (l ++ r)) (List.length l))) = rqV ((1 : Int), (0 : Int), true, (0 : Int))) ∧ bif leI (-9223372036854775808 : Int) st && leI st (9223372036854775807 : Int) then AV.bool (bareF m st) = AV.bool true ∧ ∃ (_x : Unit), True ∧ (((1 : Nat) = (1 : Nat) ∧ (te = te ∧ True) ∧ True) ∧ (cellsP (fun (b : Nat) => [(0 : Nat), (1 : Nat)].getD b (4 : Nat)) (fieldC (l ++ r)) (fieldC (l ++ r)) ∧ True) ∧ True) ∧ true = true ∧ True else False) := by kernel_rfl
theorem vOne10_eq  (te : Nat) (l r : FL) (m : List UInt8) (st minor : Int) (v : List UInt8) (w : LL) (x : List UInt8) (y : LL) (n : Int) : vOne10 te l r m st minor v w x y n = ((fieldC (l ++ r) = fieldC (getF (fieldC (l ++ r))) ∧ List.length l ≤ List.length (getF (fieldC (l ++ r))) ∧ ∀ (f : List UInt8 × List UInt8), List.Mem f (fldT (fieldC (l ++ r)) (List.length l)) → f.fst.length ≤ (281474976710656 : Nat) ∧ f.snd.length ≤ (281474976710656 : Nat)) ∧ bif !lightB (fldT (fieldC (l ++ r)) (List.length l)) then ∃ (_x : Unit), True ∧ (((1 : Nat) = (1 : Nat) ∧ (te = te ∧ True) ∧ True) ∧ (cellsP (fun (b : Nat) => [(0 : Nat), (1 : Nat)].getD b (2 : Nat)) (fieldC (l ++ r)) (fieldC (l ++ r)) ∧ True) ∧ True) ∧ true = true ∧ True else bif ltI (60 : Int) (ic m.length) then ∃ (_x : Unit), True ∧ (((1 : Nat) = (1 : Nat) ∧ (te = te ∧ True) ∧ True) ∧ (cellsP (fun (b : Nat) => [(0 : Nat), (1 : Nat)].getD b (2 : Nat)) (fieldC (l ++ r)) (fieldC (l ++ r)) ∧ True) ∧ True) ∧ true = true ∧ True else (fldOk (fieldC (l ++ r)) (List.length l) ∧ true = true ∧ allF (fldT (fieldC (l ++ r)) (List.length l)) [(67 : UInt8), (111 : UInt8), (110 : UInt8), (116 : UInt8), (101 : UInt8), (110 : UInt8), (116 : UInt8), (45 : UInt8), (76 : UInt8), (101 : UInt8), (110 : UInt8), (103 : UInt8), (116 : UInt8), (104 : UInt8)] = []) ∧ (fldOk (fieldC (l ++ r)) (List.length l) ∧ true = true ∧ allF (fldT (fieldC (l ++ r)) (List.length l)) [(84 : UInt8), (114 : UInt8), (97 : UInt8), (110 : UInt8), (115 : UInt8), (102 : UInt8), (101 : UInt8), (114 : UInt8), (45 : UInt8), (69 : UInt8), (110 : UInt8), (99 : UInt8), (111 : UInt8), (100 : UInt8), (105 : UInt8), (110 : UInt8), (103 : UInt8)] = v :: w) ∧ ((fldOk (fieldC (l ++ r)) (List.length l) ∧ true = true) ∧ rqV (frL minor (fldT (fieldC (l ++ r)) (List.length l))) = rqV ((0 : Int), (0 : Int), true, (400 : Int))) ∧ ((fldOk (fieldC (l ++ r)) (List.length l) ∧ (leI (-9223372036854775808 : Int) st && leI st (9223372036854775807 : Int)) = true) ∧ rqV (rsF m st minor (fldT (fieldC (l ++ r)) (List.length l))) = rqV ((0 : Int), (0 : Int), true, (400 : Int))) ∧ bif leI (-9223372036854775808 : Int) st && leI st (9223372036854775807 : Int) then AV.bool (bareF m st) = AV.bool false ∧ ∃ (_x : Unit), True ∧ (((1 : Nat) = (1 : Nat) ∧ (te = te ∧ True) ∧ True) ∧ (cellsP (fun (b : Nat) => [(0 : Nat), (1 : Nat)].getD b (5 : Nat)) (fieldC (l ++ r)) (fieldC (l ++ r)) ∧ True) ∧ True) ∧ true = true ∧ True else False) := by kernel_rfl
theorem vOne11_eq  (te : Nat) (l r : FL) (m : List UInt8) (st minor : Int) (v : List UInt8) (w : LL) (x : List UInt8) (y : LL) (n : Int) : vOne11 te l r m st minor v w x y n = ((fieldC (l ++ r) = fieldC (getF (fieldC (l ++ r))) ∧ List.length l ≤ List.length (getF (fieldC (l ++ r))) ∧ ∀ (f : List UInt8 × List UInt8), List.Mem f (fldT (fieldC (l ++ r)) (List.length l)) → f.fst.length ≤ (281474976710656 : Nat) ∧ f.snd.length ≤ (281474976710656 : Nat)) ∧ bif !lightB (fldT (fieldC (l ++ r)) (List.length l)) then ∃ (_x : Unit), True ∧ (((1 : Nat) = (1 : Nat) ∧ (te = te ∧ True) ∧ True) ∧ (cellsP (fun (b : Nat) => [(0 : Nat), (1 : Nat)].getD b (2 : Nat)) (fieldC (l ++ r)) (fieldC (l ++ r)) ∧ True) ∧ True) ∧ true = true ∧ True else bif ltI (60 : Int) (ic m.length) then ∃ (_x : Unit), True ∧ (((1 : Nat) = (1 : Nat) ∧ (te = te ∧ True) ∧ True) ∧ (cellsP (fun (b : Nat) => [(0 : Nat), (1 : Nat)].getD b (2 : Nat)) (fieldC (l ++ r)) (fieldC (l ++ r)) ∧ True) ∧ True) ∧ true = true ∧ True else (fldOk (fieldC (l ++ r)) (List.length l) ∧ true = true ∧ allF (fldT (fieldC (l ++ r)) (List.length l)) [(67 : UInt8), (111 : UInt8), (110 : UInt8), (116 : UInt8), (101 : UInt8), (110 : UInt8), (116 : UInt8), (45 : UInt8), (76 : UInt8), (101 : UInt8), (110 : UInt8), (103 : UInt8), (116 : UInt8), (104 : UInt8)] = []) ∧ (fldOk (fieldC (l ++ r)) (List.length l) ∧ true = true ∧ allF (fldT (fieldC (l ++ r)) (List.length l)) [(84 : UInt8), (114 : UInt8), (97 : UInt8), (110 : UInt8), (115 : UInt8), (102 : UInt8), (101 : UInt8), (114 : UInt8), (45 : UInt8), (69 : UInt8), (110 : UInt8), (99 : UInt8), (111 : UInt8), (100 : UInt8), (105 : UInt8), (110 : UInt8), (103 : UInt8)] = v :: w) ∧ ((fldOk (fieldC (l ++ r)) (List.length l) ∧ true = true) ∧ rqV (frL minor (fldT (fieldC (l ++ r)) (List.length l))) = rqV ((0 : Int), (0 : Int), true, (400 : Int))) ∧ ((fldOk (fieldC (l ++ r)) (List.length l) ∧ (leI (-9223372036854775808 : Int) st && leI st (9223372036854775807 : Int)) = true) ∧ rqV (rsF m st minor (fldT (fieldC (l ++ r)) (List.length l))) = rqV ((1 : Int), (0 : Int), true, (0 : Int))) ∧ bif leI (-9223372036854775808 : Int) st && leI st (9223372036854775807 : Int) then AV.bool (bareF m st) = AV.bool true ∧ ∃ (_x : Unit), True ∧ (((1 : Nat) = (1 : Nat) ∧ (te = te ∧ True) ∧ True) ∧ (cellsP (fun (b : Nat) => [(0 : Nat), (1 : Nat)].getD b (5 : Nat)) (fieldC (l ++ r)) (fieldC (l ++ r)) ∧ True) ∧ True) ∧ true = true ∧ True else False) := by kernel_rfl
theorem vOne20_eq  (te : Nat) (l r : FL) (m : List UInt8) (st minor : Int) (v : List UInt8) (w : LL) (x : List UInt8) (y : LL) (n : Int) : vOne20 te l r m st minor v w x y n = ((fieldC (l ++ r) = fieldC (getF (fieldC (l ++ r))) ∧ List.length l ≤ List.length (getF (fieldC (l ++ r))) ∧ ∀ (f : List UInt8 × List UInt8), List.Mem f (fldT (fieldC (l ++ r)) (List.length l)) → f.fst.length ≤ (281474976710656 : Nat) ∧ f.snd.length ≤ (281474976710656 : Nat)) ∧ bif !lightB (fldT (fieldC (l ++ r)) (List.length l)) then ∃ (_x : Unit), True ∧ (((1 : Nat) = (1 : Nat) ∧ (te = te ∧ True) ∧ True) ∧ (cellsP (fun (b : Nat) => [(0 : Nat), (1 : Nat)].getD b (2 : Nat)) (fieldC (l ++ r)) (fieldC (l ++ r)) ∧ True) ∧ True) ∧ true = true ∧ True else bif ltI (60 : Int) (ic m.length) then ∃ (_x : Unit), True ∧ (((1 : Nat) = (1 : Nat) ∧ (te = te ∧ True) ∧ True) ∧ (cellsP (fun (b : Nat) => [(0 : Nat), (1 : Nat)].getD b (2 : Nat)) (fieldC (l ++ r)) (fieldC (l ++ r)) ∧ True) ∧ True) ∧ true = true ∧ True else (fldOk (fieldC (l ++ r)) (List.length l) ∧ true = true ∧ allF (fldT (fieldC (l ++ r)) (List.length l)) [(67 : UInt8), (111 : UInt8), (110 : UInt8), (116 : UInt8), (101 : UInt8), (110 : UInt8), (116 : UInt8), (45 : UInt8), (76 : UInt8), (101 : UInt8), (110 : UInt8), (103 : UInt8), (116 : UInt8), (104 : UInt8)] = []) ∧ (fldOk (fieldC (l ++ r)) (List.length l) ∧ true = true ∧ allF (fldT (fieldC (l ++ r)) (List.length l)) [(84 : UInt8), (114 : UInt8), (97 : UInt8), (110 : UInt8), (115 : UInt8), (102 : UInt8), (101 : UInt8), (114 : UInt8), (45 : UInt8), (69 : UInt8), (110 : UInt8), (99 : UInt8), (111 : UInt8), (100 : UInt8), (105 : UInt8), (110 : UInt8), (103 : UInt8)] = v :: w) ∧ ((fldOk (fieldC (l ++ r)) (List.length l) ∧ true = true) ∧ rqV (frL minor (fldT (fieldC (l ++ r)) (List.length l))) = rqV ((0 : Int), (0 : Int), true, (501 : Int))) ∧ ((fldOk (fieldC (l ++ r)) (List.length l) ∧ (leI (-9223372036854775808 : Int) st && leI st (9223372036854775807 : Int)) = true) ∧ rqV (rsF m st minor (fldT (fieldC (l ++ r)) (List.length l))) = rqV ((0 : Int), (0 : Int), true, (501 : Int))) ∧ bif leI (-9223372036854775808 : Int) st && leI st (9223372036854775807 : Int) then AV.bool (bareF m st) = AV.bool false ∧ ∃ (_x : Unit), True ∧ (((1 : Nat) = (1 : Nat) ∧ (te = te ∧ True) ∧ True) ∧ (cellsP (fun (b : Nat) => [(0 : Nat), (1 : Nat)].getD b (5 : Nat)) (fieldC (l ++ r)) (fieldC (l ++ r)) ∧ True) ∧ True) ∧ true = true ∧ True else False) := by kernel_rfl
theorem vOne21_eq  (te : Nat) (l r : FL) (m : List UInt8) (st minor : Int) (v : List UInt8) (w : LL) (x : List UInt8) (y : LL) (n : Int) : vOne21 te l r m st minor v w x y n = ((fieldC (l ++ r) = fieldC (getF (fieldC (l ++ r))) ∧ List.length l ≤ List.length (getF (fieldC (l ++ r))) ∧ ∀ (f : List UInt8 × List UInt8), List.Mem f (fldT (fieldC (l ++ r)) (List.length l)) → f.fst.length ≤ (281474976710656 : Nat) ∧ f.snd.length ≤ (281474976710656 : Nat)) ∧ bif !lightB (fldT (fieldC (l ++ r)) (List.length l)) then ∃ (_x : Unit), True ∧ (((1 : Nat) = (1 : Nat) ∧ (te = te ∧ True) ∧ True) ∧ (cellsP (fun (b : Nat) => [(0 : Nat), (1 : Nat)].getD b (2 : Nat)) (fieldC (l ++ r)) (fieldC (l ++ r)) ∧ True) ∧ True) ∧ true = true ∧ True else bif ltI (60 : Int) (ic m.length) then ∃ (_x : Unit), True ∧ (((1 : Nat) = (1 : Nat) ∧ (te = te ∧ True) ∧ True) ∧ (cellsP (fun (b : Nat) => [(0 : Nat), (1 : Nat)].getD b (2 : Nat)) (fieldC (l ++ r)) (fieldC (l ++ r)) ∧ True) ∧ True) ∧ true = true ∧ True else (fldOk (fieldC (l ++ r)) (List.length l) ∧ true = true ∧ allF (fldT (fieldC (l ++ r)) (List.length l)) [(67 : UInt8), (111 : UInt8), (110 : UInt8), (116 : UInt8), (101 : UInt8), (110 : UInt8), (116 : UInt8), (45 : UInt8), (76 : UInt8), (101 : UInt8), (110 : UInt8), (103 : UInt8), (116 : UInt8), (104 : UInt8)] = []) ∧ (fldOk (fieldC (l ++ r)) (List.length l) ∧ true = true ∧ allF (fldT (fieldC (l ++ r)) (List.length l)) [(84 : UInt8), (114 : UInt8), (97 : UInt8), (110 : UInt8), (115 : UInt8), (102 : UInt8), (101 : UInt8), (114 : UInt8), (45 : UInt8), (69 : UInt8), (110 : UInt8), (99 : UInt8), (111 : UInt8), (100 : UInt8), (105 : UInt8), (110 : UInt8), (103 : UInt8)] = v :: w) ∧ ((fldOk (fieldC (l ++ r)) (List.length l) ∧ true = true) ∧ rqV (frL minor (fldT (fieldC (l ++ r)) (List.length l))) = rqV ((0 : Int), (0 : Int), true, (501 : Int))) ∧ ((fldOk (fieldC (l ++ r)) (List.length l) ∧ (leI (-9223372036854775808 : Int) st && leI st (9223372036854775807 : Int)) = true) ∧ rqV (rsF m st minor (fldT (fieldC (l ++ r)) (List.length l))) = rqV ((1 : Int), (0 : Int), true, (0 : Int))) ∧ bif leI (-9223372036854775808 : Int) st && leI st (9223372036854775807 : Int) then AV.bool (bareF m st) = AV.bool true ∧ ∃ (_x : Unit), True ∧ (((1 : Nat) = (1 : Nat) ∧ (te = te ∧ True) ∧ True) ∧ (cellsP (fun (b : Nat) => [(0 : Nat), (1 : Nat)].getD b (5 : Nat)) (fieldC (l ++ r)) (fieldC (l ++ r)) ∧ True) ∧ True) ∧ true = true ∧ True else False) := by kernel_rfl
theorem vOne30_eq  (te : Nat) (l r : FL) (m : List UInt8) (st minor : Int) (v : List UInt8) (w : LL) (x : List UInt8) (y : LL) (n : Int) : vOne30 te l r m st minor v w x y n = ((fieldC (l ++ r) = fieldC (getF (fieldC (l ++ r))) ∧ List.length l ≤ List.length (getF (fieldC (l ++ r))) ∧ ∀ (f : List UInt8 × List UInt8), List.Mem f (fldT (fieldC (l ++ r)) (List.length l)) → f.fst.length ≤ (281474976710656 : Nat) ∧ f.snd.length ≤ (281474976710656 : Nat)) ∧ bif !lightB (fldT (fieldC (l ++ r)) (List.length l)) then ∃ (_x : Unit), True ∧ (((1 : Nat) = (1 : Nat) ∧ (te = te ∧ True) ∧ True) ∧ (cellsP (fun (b : Nat) => [(0 : Nat), (1 : Nat)].getD b (2 : Nat)) (fieldC (l ++ r)) (fieldC (l ++ r)) ∧ True) ∧ True) ∧ true = true ∧ True else bif ltI (60 : Int) (ic m.length) then ∃ (_x : Unit), True ∧ (((1 : Nat) = (1 : Nat) ∧ (te = te ∧ True) ∧ True) ∧ (cellsP (fun (b : Nat) => [(0 : Nat), (1 : Nat)].getD b (2 : Nat)) (fieldC (l ++ r)) (fieldC (l ++ r)) ∧ True) ∧ True) ∧ true = true ∧ True else (fldOk (fieldC (l ++ r)) (List.length l) ∧ true = true ∧ allF (fldT (fieldC (l ++ r)) (List.length l)) [(67 : UInt8), (111 : UInt8), (110 : UInt8), (116 : UInt8), (101 : UInt8), (110 : UInt8), (116 : UInt8), (45 : UInt8), (76 : UInt8), (101 : UInt8), (110 : UInt8), (103 : UInt8), (116 : UInt8), (104 : UInt8)] = []) ∧ (fldOk (fieldC (l ++ r)) (List.length l) ∧ true = true ∧ allF (fldT (fieldC (l ++ r)) (List.length l)) [(84 : UInt8), (114 : UInt8), (97 : UInt8), (110 : UInt8), (115 : UInt8), (102 : UInt8), (101 : UInt8), (114 : UInt8), (45 : UInt8), (69 : UInt8), (110 : UInt8), (99 : UInt8), (111 : UInt8), (100 : UInt8), (105 : UInt8), (110 : UInt8), (103 : UInt8)] = v :: w) ∧ ((fldOk (fieldC (l ++ r)) (List.length l) ∧ true = true) ∧ rqV (frL minor (fldT (fieldC (l ++ r)) (List.length l))) = rqV ((3 : Int), (0 : Int), true, (0 : Int))) ∧ ((fldOk (fieldC (l ++ r)) (List.length l) ∧ (leI (-9223372036854775808 : Int) st && leI st (9223372036854775807 : Int)) = true) ∧ rqV (rsF m st minor (fldT (fieldC (l ++ r)) (List.length l))) = rqV ((3 : Int), (0 : Int), true, (0 : Int))) ∧ bif leI (-9223372036854775808 : Int) st && leI st (9223372036854775807 : Int) then AV.bool (bareF m st) = AV.bool false ∧ ∃ (_x : Unit), True ∧ (((1 : Nat) = (1 : Nat) ∧ (te = te ∧ True) ∧ True) ∧ (cellsP (fun (b : Nat) => [(0 : Nat), (1 : Nat)].getD b (5 : Nat)) (fieldC (l ++ r)) (fieldC (l ++ r)) ∧ True) ∧ True) ∧ true = true ∧ True else False) := by kernel_rfl
theorem vOne31_eq  (te : Nat) (l r : FL) (m : List UInt8) (st minor : Int) (v : List UInt8) (w : LL) (x : List UInt8) (y : LL) (n : Int) : vOne31 te l r m st minor v w x y n = ((fieldC (l ++ r) = fieldC (getF (fieldC (l ++ r))) ∧ List.length l ≤ List.length (getF (fieldC (l ++ r))) ∧ ∀ (f : List UInt8 × List UInt8), List.Mem f (fldT (fieldC (l ++ r)) (List.length l)) → f.fst.length ≤ (281474976710656 : Nat) ∧ f.snd.length ≤ (281474976710656 : Nat)) ∧ bif !lightB (fldT (fieldC (l ++ r)) (List.length l)) then ∃ (_x : Unit), True ∧ (((1 : Nat) = (1 : Nat) ∧ (te = te ∧ True) ∧ True) ∧ (cellsP (fun (b : Nat) => [(0 : Nat), (1 : Nat)].getD b (2 : Nat)) (fieldC (l ++ r)) (fieldC (l ++ r)) ∧ True) ∧ True) ∧ true = true ∧ True else bif ltI (60 : Int) (ic m.length) then ∃ (_x : Unit), True ∧ (((1 : Nat) = (1 : Nat) ∧ (te = te ∧ True) ∧ True) ∧ (cellsP (fun (b : Nat) => [(0 : Nat), (1 : Nat)].getD b (2 : Nat)) (fieldC (l ++ r)) (fieldC (l ++ r)) ∧ True) ∧ True) ∧ true = true ∧ True else (fldOk (fieldC (l ++ r)) (List.length l) ∧ true = true ∧ allF (fldT (fieldC (l ++ r)) (List.length l)) [(67 : UInt8), (111 : UInt8), (110 : UInt8), (116 : UInt8), (101 : UInt8), (110 : UInt8), (116 : UInt8), (45 : UInt8), (76 : UInt8), (101 : UInt8), (110 : UInt8), (103 : UInt8), (116 : UInt8), (104 : UInt8)] = []) ∧ (fldOk (fieldC (l ++ r)) (List.length l) ∧ true = true ∧ allF (fldT (fieldC (l ++ r)) (List.length l)) [(84 : UInt8), (114 : UInt8), (97 : UInt8), (110 : UInt8), (115 : UInt8), (102 : UInt8), (101 : UInt8), (114 : UInt8), (45 : UInt8), (69 : UInt8), (110 : UInt8), (99 : UInt8), (111 : UInt8), (100 : UInt8), (105 : UInt8), (110 : UInt8), (103 : UInt8)] = v :: w) ∧ ((fldOk (fieldC (l ++ r)) (List.length l) ∧ true = true) ∧ rqV (frL minor (fldT (fieldC (l ++ r)) (List.length l))) = rqV ((3 : Int), (0 : Int), true, (0 : Int))) ∧ ((fldOk (fieldC (l ++ r)) (List.length l) ∧ (leI (-9223372036854775808 : Int) st && leI st (9223372036854775807 : Int)) = true) ∧ rqV (rsF m st minor (fldT (fieldC (l ++ r)) (List.length l))) = rqV ((1 : Int), (0 : Int), true, (0 : Int))) ∧ bif leI (-9223372036854775808 : Int) st && leI st (9223372036854775807 : Int) then AV.bool (bareF m st) = AV.bool true ∧ ∃ (_x : Unit), True ∧ (((1 : Nat) = (1 : Nat) ∧ (te = te ∧ True) ∧ True) ∧ (cellsP (fun (b : Nat) => [(0 : Nat), (1 : Nat)].getD b (5 : Nat)) (fieldC (l ++ r)) (fieldC (l ++ r)) ∧ True) ∧ True) ∧ true = true ∧ True else False) := by kernel_rfl
theorem vOne40_eq  (te : Nat) (l r : FL) (m : List UInt8) (st minor : Int) (v : List UInt8) (w : LL) (x : List UInt8) (y : LL) (n : Int) : vOne40 te l r m st minor v w x y n = ((fieldC (l ++ r) = fieldC (getF (fieldC (l ++ r))) ∧ List.length l ≤ List.length (getF (fieldC (l ++ r))) ∧ ∀ (f : List UInt8 × List UInt8), List.Mem f (fldT (fieldC (l ++ r)) (List.length l)) → f.fst.length ≤ (281474976710656 : Nat) ∧ f.snd.length ≤ (281474976710656 : Nat)) ∧ bif !lightB (fldT (fieldC (l ++ r)) (List.length l)) then ∃ (_x : Unit), True ∧ (((1 : Nat) = (1 : Nat) ∧ (te = te ∧ True) ∧ True) ∧ (cellsP (fun (b : Nat) => [(0 : Nat), (1 : Nat)].getD b (2 : Nat)) (fieldC (l ++ r)) (fieldC (l ++ r)) ∧ True) ∧ True) ∧ true = true ∧ True else bif ltI (60 : Int) (ic m.length) then ∃ (_x : Unit), True ∧ (((1 : Nat) = (1 : Nat) ∧ (te = te ∧ True) ∧ True) ∧ (cellsP (fun (b : Nat) => [(0 : Nat), (1 : Nat)].getD b (2 : Nat)) (fieldC (l ++ r)) (fieldC (l ++ r)) ∧ True) ∧ True) ∧ true = true ∧ True else (fldOk (fieldC (l ++ r)) (List.length l) ∧ true = true ∧ allF (fldT (fieldC (l ++ r)) (List.length l)) [(67 : UInt8), (111 : UInt8), (110 : UInt8), (116 : UInt8), (101 : UInt8), (110 : UInt8), (116 : UInt8), (45 : UInt8), (76 : UInt8), (101 : UInt8), (110 : UInt8), (103 : UInt8), (116 : UInt8), (104 : UInt8)] = v :: w) ∧ (fldOk (fieldC (l ++ r)) (List.length l) ∧ true = true ∧ allF (fldT (fieldC (l ++ r)) (List.length l)) [(84 : UInt8), (114 : UInt8), (97 : UInt8), (110 : UInt8), (115 : UInt8), (102 : UInt8), (101 : UInt8), (114 : UInt8), (45 : UInt8), (69 : UInt8), (110 : UInt8), (99 : UInt8), (111 : UInt8), (100 : UInt8), (105 : UInt8), (110 : UInt8), (103 : UInt8)] = []) ∧ ((fldOk (fieldC (l ++ r)) (List.length l) ∧ true = true) ∧ rqV (frL minor (fldT (fieldC (l ++ r)) (List.length l))) = rqV ((0 : Int), (0 : Int), true, (400 : Int))) ∧ ((fldOk (fieldC (l ++ r)) (List.length l) ∧ (leI (-9223372036854775808 : Int) st && leI st (9223372036854775807 : Int)) = true) ∧ rqV (rsF m st minor (fldT (fieldC (l ++ r)) (List.length l))) = rqV ((0 : Int), (0 : Int), true, (400 : Int))) ∧ bif leI (-9223372036854775808 : Int) st && leI st (9223372036854775807 : Int) then AV.bool (bareF m st) = AV.bool false ∧ ∃ (_x : Unit), True ∧ (((1 : Nat) = (1 : Nat) ∧ (te = te ∧ True) ∧ True) ∧ (cellsP (fun (b : Nat) => [(0 : Nat), (1 : Nat)].getD b (5 : Nat)) (fieldC (l ++ r)) (fieldC (l ++ r)) ∧ True) ∧ True) ∧ true = true ∧ True else False) := by kernel_rfl
theorem vOne41_eq  (te : Nat) (l r : FL) (m : List UInt8) (st minor : Int) (v : List UInt8) (w : LL) (x : List UInt8) (y : LL) (n : Int) : vOne41 te l r m st minor v w x y n = ((fieldC (l ++ r) = fieldC (getF (fieldC (l ++ r))) ∧ List.length l ≤ List.length (getF (fieldC (l ++ r))) ∧ ∀ (f : List UInt8 × List UInt8), List.Mem f (fldT (fieldC (l ++ r)) (List.length l)) → f.fst.length ≤ (281474976710656 : Nat) ∧ f.snd.length ≤ (281474976710656 : Nat)) ∧ bif !lightB (fldT (fieldC (l ++ r)) (List.length l)) then ∃ (_x : Unit), True ∧ (((1 : Nat) = (1 : Nat) ∧ (te = te ∧ True) ∧ True) ∧ (cellsP (fun (b : Nat) => [(0 : Nat), (1 : Nat)].getD b (2 : Nat)) (fieldC (l ++ r)) (fieldC (l ++ r)) ∧ True) ∧ True) ∧ true = true ∧ True else bif ltI (60 : Int) (ic m.length) then ∃ (_x : Unit), True ∧ (((1 : Nat) = (1 : Nat) ∧ (te = te ∧ True) ∧ True) ∧ (cellsP (fun (b : Nat) => [(0 : Nat), (1 : Nat)].getD b (2 : Nat)) (fieldC (l ++ r)) (fieldC (l ++ r)) ∧ True) ∧ True) ∧ true = true ∧ True else (fldOk (fieldC (l ++ r)) (List.length l) ∧ true = true ∧ allF (fldT (fieldC (l ++ r)) (List.length l)) [(67 : UInt8), (111 : UInt8), (110 : UInt8), (116 : UInt8), (101 : UInt8), (110 : UInt8), (116 : UInt8), (45 : UInt8), (76 : UInt8), (101 : UInt8), (110 : UInt8), (103 : UInt8), (116 : UInt8), (104 : UInt8)] = v :: w) ∧ (fldOk (fieldC (l ++ r)) (List.length l) ∧ true = true ∧ allF (fldT (fieldC (l ++ r)) (List.length l)) [(84 : UInt8), (114 : UInt8), (97 : UInt8), (110 : UInt8), (115 : UInt8), (102 : UInt8), (101 : UInt8), (114 : UInt8), (45 : UInt8), (69 : UInt8), (110 : UInt8), (99 : UInt8), (111 : UInt8), (100 : UInt8), (105 : UInt8), (110 : UInt8), (103 : UInt8)] = []) ∧ ((fldOk (fieldC (l ++ r)) (List.length l) ∧ true = true) ∧ rqV (frL minor (fldT (fieldC (l ++ r)) (List.length l))) = rqV ((0 : Int), (0 : Int), true, (400 : Int))) ∧ ((fldOk (fieldC (l ++ r)) (List.length l) ∧ (leI (-9223372036854775808 : Int) st && leI st (9223372036854775807 : Int)) = true) ∧ rqV (rsF m st minor (fldT (fieldC (l ++ r)) (List.length l))) = rqV ((1 : Int), (0 : Int), true, (0 : Int))) ∧ bif leI (-9223372036854775808 : Int) st && leI st (9223372036854775807 : Int) then AV.bool (bareF m st) = AV.bool true ∧ ∃ (_x : Unit), True ∧ (((1 : Nat) = (1 : Nat) ∧ (te = te ∧ True) ∧ True) ∧ (cellsP (fun (b : Nat) => [(0 : Nat), (1 : Nat)].getD b (5 : Nat)) (fieldC (l ++ r)) (fieldC (l ++ r)) ∧ True) ∧ True) ∧ true = true ∧ True else False) := by kernel_rfl
theorem vOne50_eq  (te : Nat) (l r : FL) (m : List UInt8) (st minor : Int) (v : List UInt8) (w : LL) (x : List UInt8) (y : LL) (n : Int) : vOne50 te l r m st minor v w x y n = ((fieldC (l ++ r) = fieldC (getF (fieldC (l ++ r))) ∧ List.length l ≤ List.length (getF (fieldC (l ++ r))) ∧ ∀ (f : List UInt8 × List UInt8), List.Mem f (fldT (fieldC (l ++ r)) (List.length l)) → f.fst.length ≤ (281474976710656 : Nat) ∧ f.snd.length ≤ (281474976710656 : Nat)) ∧ bif !lightB (fldT (fieldC (l ++ r)) (List.length l)) then ∃ (_x : Unit), True ∧ (((1 : Nat) = (1 : Nat) ∧ (te = te ∧ True) ∧ True) ∧ (cellsP (fun (b : Nat) => [(0 : Nat), (1 : Nat)].getD b (2 : Nat)) (fieldC (l ++ r)) (fieldC (l ++ r)) ∧ True) ∧ True) ∧ true = true ∧ True else bif ltI (60 : Int) (ic m.length) then ∃ (_x : Unit), True ∧ (((1 : Nat) = (1 : Nat) ∧ (te = te ∧ True) ∧ True) ∧ (cellsP (fun (b : Nat) => [(0 : Nat), (1 : Nat)].getD b (2 : Nat)) (fieldC (l ++ r)) (fieldC (l ++ r)) ∧ True) ∧ True) ∧ true = true ∧ True else (fldOk (fieldC (l ++ r)) (List.length l) ∧ true = true ∧ allF (fldT (fieldC (l ++ r)) (List.length l)) [(67 : UInt8), (111 : UInt8), (110 : UInt8), (116 : UInt8), (101 : UInt8), (110 : UInt8), (116 : UInt8), (45 : UInt8), (76 : UInt8), (101 : UInt8), (110 : UInt8), (103 : UInt8), (116 : UInt8), (104 : UInt8)] = v :: w) ∧ (fldOk (fieldC (l ++ r)) (List.length l) ∧ true = true ∧ allF (fldT (fieldC (l ++ r)) (List.length l)) [(84 : UInt8), (114 : UInt8), (97 : UInt8), (110 : UInt8), (115 : UInt8), (102 : UInt8), (101 : UInt8), (114 : UInt8), (45 : UInt8), (69 : UInt8), (110 : UInt8), (99 : UInt8), (111 : UInt8), (100 : UInt8), (105 : UInt8), (110 : UInt8), (103 : UInt8)] = []) ∧ ((fldOk (fieldC (l ++ r)) (List.length l) ∧ true = true) ∧ rqV (frL minor (fldT (fieldC (l ++ r)) (List.length l))) = rqV ((2 : Int), n, true, (0 : Int))) ∧ ((fldOk (fieldC (l ++ r)) (List.length l) ∧ (leI (-9223372036854775808 : Int) st && leI st (9223372036854775807 : Int)) = true) ∧ rqV (rsF m st minor (fldT (fieldC (l ++ r)) (List.length l))) = rqV ((2 : Int), n, true, (0 : Int))) ∧ bif leI (-9223372036854775808 : Int) st && leI st (9223372036854775807 : Int) then AV.bool (bareF m st) = AV.bool false ∧ bif ltI (0 : Int) (n, true, (0 : Int)).fst then aeqX Tryd.prog BinOp.eql (33 : Nat) (Operand.tmp (136 : Nat)) (Operand.tmp (137 : Nat)) (AV.agg [AV.int IntKind.i64 (2 : Int), AV.int IntKind.i64 (n, true, (0 : Int)).fst]) (AV.agg [AV.int IntKind.i64 (2 : Int), AV.int IntKind.i64 (n, true, (0 : Int)).fst]) = some true ∧ ∃ (_x : Unit), True ∧ (((1 : Nat) = (1 : Nat) ∧ (te = te ∧ True) ∧ True) ∧ (cellsP (fun (b : Nat) => [(0 : Nat), (1 : Nat)].getD b (5 : Nat)) (fieldC (l ++ r)) (fieldC (l ++ r)) ∧ True) ∧ True) ∧ true = true ∧ True else ∃ (_x : Unit), True ∧ (((1 : Nat) = (1 : Nat) ∧ (te = te ∧ True) ∧ True) ∧ (cellsP (fun (b : Nat) => [(0 : Nat), (1 : Nat)].getD b (5 : Nat)) (fieldC (l ++ r)) (fieldC (l ++ r)) ∧ True) ∧ True) ∧ false = true ∧ True else False) := by kernel_rfl
theorem vOne51_eq  (te : Nat) (l r : FL) (m : List UInt8) (st minor : Int) (v : List UInt8) (w : LL) (x : List UInt8) (y : LL) (n : Int) : vOne51 te l r m st minor v w x y n = ((fieldC (l ++ r) = fieldC (getF (fieldC (l ++ r))) ∧ List.length l ≤ List.length (getF (fieldC (l ++ r))) ∧ ∀ (f : List UInt8 × List UInt8), List.Mem f (fldT (fieldC (l ++ r)) (List.length l)) → f.fst.length ≤ (281474976710656 : Nat) ∧ f.snd.length ≤ (281474976710656 : Nat)) ∧ bif !lightB (fldT (fieldC (l ++ r)) (List.length l)) then ∃ (_x : Unit), True ∧ (((1 : Nat) = (1 : Nat) ∧ (te = te ∧ True) ∧ True) ∧ (cellsP (fun (b : Nat) => [(0 : Nat), (1 : Nat)].getD b (2 : Nat)) (fieldC (l ++ r)) (fieldC (l ++ r)) ∧ True) ∧ True) ∧ true = true ∧ True else bif ltI (60 : Int) (ic m.length) then ∃ (_x : Unit), True ∧ (((1 : Nat) = (1 : Nat) ∧ (te = te ∧ True) ∧ True) ∧ (cellsP (fun (b : Nat) => [(0 : Nat), (1 : Nat)].getD b (2 : Nat)) (fieldC (l ++ r)) (fieldC (l ++ r)) ∧ True) ∧ True) ∧ true = true ∧ True else (fldOk (fieldC (l ++ r)) (List.length l) ∧ true = true ∧ allF (fldT (fieldC (l ++ r)) (List.length l)) [(67 : UInt8), (111 : UInt8), (110 : UInt8), (116 : UInt8), (101 : UInt8), (110 : UInt8), (116 : UInt8), (45 : UInt8), (76 : UInt8), (101 : UInt8), (110 : UInt8), (103 : UInt8), (116 : UInt8), (104 : UInt8)] = v :: w) ∧ (fldOk (fieldC (l ++ r)) (List.length l) ∧ true = true ∧ allF (fldT (fieldC (l ++ r)) (List.length l)) [(84 : UInt8), (114 : UInt8), (97 : UInt8), (110 : UInt8), (115 : UInt8), (102 : UInt8), (101 : UInt8), (114 : UInt8), (45 : UInt8), (69 : UInt8), (110 : UInt8), (99 : UInt8), (111 : UInt8), (100 : UInt8), (105 : UInt8), (110 : UInt8), (103 : UInt8)] = []) ∧ ((fldOk (fieldC (l ++ r)) (List.length l) ∧ true = true) ∧ rqV (frL minor (fldT (fieldC (l ++ r)) (List.length l))) = rqV ((2 : Int), n, true, (0 : Int))) ∧ ((fldOk (fieldC (l ++ r)) (List.length l) ∧ (leI (-9223372036854775808 : Int) st && leI st (9223372036854775807 : Int)) = true) ∧ rqV (rsF m st minor (fldT (fieldC (l ++ r)) (List.length l))) = rqV ((1 : Int), (0 : Int), true, (0 : Int))) ∧ bif leI (-9223372036854775808 : Int) st && leI st (9223372036854775807 : Int) then AV.bool (bareF m st) = AV.bool true ∧ bif ltI (0 : Int) (n, true, (0 : Int)).fst then ∃ (_x : Unit), True ∧ (((1 : Nat) = (1 : Nat) ∧ (te = te ∧ True) ∧ True) ∧ (cellsP (fun (b : Nat) => [(0 : Nat), (1 : Nat)].getD b (5 : Nat)) (fieldC (l ++ r)) (fieldC (l ++ r)) ∧ True) ∧ True) ∧ true = true ∧ True else ∃ (_x : Unit), True ∧ (((1 : Nat) = (1 : Nat) ∧ (te = te ∧ True) ∧ True) ∧ (cellsP (fun (b : Nat) => [(0 : Nat), (1 : Nat)].getD b (5 : Nat)) (fieldC (l ++ r)) (fieldC (l ++ r)) ∧ True) ∧ True) ∧ false = true ∧ True else False) := by kernel_rfl
theorem vOne60_eq  (te : Nat) (l r : FL) (m : List UInt8) (st minor : Int) (v : List UInt8) (w : LL) (x : List UInt8) (y : LL) (n : Int) : vOne60 te l r m st minor v w x y n = ((fieldC (l ++ r) = fieldC (getF (fieldC (l ++ r))) ∧ List.length l ≤ List.length (getF (fieldC (l ++ r))) ∧ ∀ (f : List UInt8 × List UInt8), List.Mem f (fldT (fieldC (l ++ r)) (List.length l)) → f.fst.length ≤ (281474976710656 : Nat) ∧ f.snd.length ≤ (281474976710656 : Nat)) ∧ bif !lightB (fldT (fieldC (l ++ r)) (List.length l)) then ∃ (_x : Unit), True ∧ (((1 : Nat) = (1 : Nat) ∧ (te = te ∧ True) ∧ True) ∧ (cellsP (fun (b : Nat) => [(0 : Nat), (1 : Nat)].getD b (2 : Nat)) (fieldC (l ++ r)) (fieldC (l ++ r)) ∧ True) ∧ True) ∧ true = true ∧ True else bif ltI (60 : Int) (ic m.length) then ∃ (_x : Unit), True ∧ (((1 : Nat) = (1 : Nat) ∧ (te = te ∧ True) ∧ True) ∧ (cellsP (fun (b : Nat) => [(0 : Nat), (1 : Nat)].getD b (2 : Nat)) (fieldC (l ++ r)) (fieldC (l ++ r)) ∧ True) ∧ True) ∧ true = true ∧ True else (fldOk (fieldC (l ++ r)) (List.length l) ∧ true = true ∧ allF (fldT (fieldC (l ++ r)) (List.length l)) [(67 : UInt8), (111 : UInt8), (110 : UInt8), (116 : UInt8), (101 : UInt8), (110 : UInt8), (116 : UInt8), (45 : UInt8), (76 : UInt8), (101 : UInt8), (110 : UInt8), (103 : UInt8), (116 : UInt8), (104 : UInt8)] = v :: w) ∧ (fldOk (fieldC (l ++ r)) (List.length l) ∧ true = true ∧ allF (fldT (fieldC (l ++ r)) (List.length l)) [(84 : UInt8), (114 : UInt8), (97 : UInt8), (110 : UInt8), (115 : UInt8), (102 : UInt8), (101 : UInt8), (114 : UInt8), (45 : UInt8), (69 : UInt8), (110 : UInt8), (99 : UInt8), (111 : UInt8), (100 : UInt8), (105 : UInt8), (110 : UInt8), (103 : UInt8)] = []) ∧ ((fldOk (fieldC (l ++ r)) (List.length l) ∧ true = true) ∧ rqV (frL minor (fldT (fieldC (l ++ r)) (List.length l))) = rqV ((1 : Int), (0 : Int), true, (0 : Int))) ∧ ((fldOk (fieldC (l ++ r)) (List.length l) ∧ (leI (-9223372036854775808 : Int) st && leI st (9223372036854775807 : Int)) = true) ∧ rqV (rsF m st minor (fldT (fieldC (l ++ r)) (List.length l))) = rqV ((1 : Int), (0 : Int), true, (0 : Int))) ∧ bif leI (-9223372036854775808 : Int) st && leI st (9223372036854775807 : Int) then AV.bool (bareF m st) = AV.bool false ∧ aeqX Tryd.prog BinOp.eql (33 : Nat) (Operand.tmp (136 : Nat)) (Operand.tmp (137 : Nat)) (AV.agg [AV.int IntKind.i64 (1 : Int), AV.int IntKind.i64 (0 : Int)]) (AV.agg [AV.int IntKind.i64 (1 : Int), AV.int IntKind.i64 (0 : Int)]) = some true ∧ ∃ (_x : Unit), True ∧ (((1 : Nat) = (1 : Nat) ∧ (te = te ∧ True) ∧ True) ∧ (cellsP (fun (b : Nat) => [(0 : Nat), (1 : Nat)].getD b (5 : Nat)) (fieldC (l ++ r)) (fieldC (l ++ r)) ∧ True) ∧ True) ∧ true = true ∧ True else False) := by kernel_rfl
theorem vOne61_eq  (te : Nat) (l r : FL) (m : List UInt8) (st minor : Int) (v : List UInt8) (w : LL) (x : List UInt8) (y : LL) (n : Int) : vOne61 te l r m st minor v w x y n = ((fieldC (l ++ r) = fieldC (getF (fieldC (l ++ r))) ∧ List.length l ≤ List.length (getF (fieldC (l ++ r))) ∧ ∀ (f : List UInt8 × List UInt8), List.Mem f (fldT (fieldC (l ++ r)) (List.length l)) → f.fst.length ≤ (281474976710656 : Nat) ∧ f.snd.length ≤ (281474976710656 : Nat)) ∧ bif !lightB (fldT (fieldC (l ++ r)) (List.length l)) then ∃ (_x : Unit), True ∧ (((1 : Nat) = (1 : Nat) ∧ (te = te ∧ True) ∧ True) ∧ (cellsP (fun (b : Nat) => [(0 : Nat), (1 : Nat)].getD b (2 : Nat)) (fieldC (l ++ r)) (fieldC (l ++ r)) ∧ True) ∧ True) ∧ true = true ∧ True else bif ltI (60 : Int) (ic m.length) then ∃ (_x : Unit), True ∧ (((1 : Nat) = (1 : Nat) ∧ (te = te ∧ True) ∧ True) ∧ (cellsP (fun (b : Nat) => [(0 : Nat), (1 : Nat)].getD b (2 : Nat)) (fieldC (l ++ r)) (fieldC (l ++ r)) ∧ True) ∧ True) ∧ true = true ∧ True else (fldOk (fieldC (l ++ r)) (List.length l) ∧ true = true ∧ allF (fldT (fieldC (l ++ r)) (List.length l)) [(67 : UInt8), (111 : UInt8), (110 : UInt8), (116 : UInt8), (101 : UInt8), (110 : UInt8), (116 : UInt8), (45 : UInt8), (76 : UInt8), (101 : UInt8), (110 : UInt8), (103 : UInt8), (116 : UInt8), (104 : UInt8)] = v :: w) ∧ (fldOk (fieldC (l ++ r)) (List.length l) ∧ true = true ∧ allF (fldT (fieldC (l ++ r)) (List.length l)) [(84 : UInt8), (114 : UInt8), (97 : UInt8), (110 : UInt8), (115 : UInt8), (102 : UInt8), (101 : UInt8), (114 : UInt8), (45 : UInt8), (69 : UInt8), (110 : UInt8), (99 : UInt8), (111 : UInt8), (100 : UInt8), (105 : UInt8), (110 : UInt8), (103 : UInt8)] = []) ∧ ((fldOk (fieldC (l ++ r)) (List.length l) ∧ true = true) ∧ rqV (frL minor (fldT (fieldC (l ++ r)) (List.length l))) = rqV ((1 : Int), (0 : Int), true, (0 : Int))) ∧ ((fldOk (fieldC (l ++ r)) (List.length l) ∧ (leI (-9223372036854775808 : Int) st && leI st (9223372036854775807 : Int)) = true) ∧ rqV (rsF m st minor (fldT (fieldC (l ++ r)) (List.length l))) = rqV ((1 : Int), (0 : Int), true, (0 : Int))) ∧ bif leI (-9223372036854775808 : Int) st && leI st (9223372036854775807 : Int) then AV.bool (bareF m st) = AV.bool true ∧ ∃ (_x : Unit), True ∧ (((1 : Nat) = (1 : Nat) ∧ (te = te ∧ True) ∧ True) ∧ (cellsP (fun (b : Nat) => [(0 : Nat), (1 : Nat)].getD b (5 : Nat)) (fieldC (l ++ r)) (fieldC (l ++ r)) ∧ True) ∧ True) ∧ true = true ∧ True else False) := by kernel_rfl
theorem vOne70_eq  (te : Nat) (l r : FL) (m : List UInt8) (st minor : Int) (v : List UInt8) (w : LL) (x : List UInt8) (y : LL) (n : Int) : vOne70 te l r m st minor v w x y n = ((fieldC (l ++ r) = fieldC (getF (fieldC (l ++ r))) ∧ List.length l ≤ List.length (getF (fieldC (l ++ r))) ∧ ∀ (f : List UInt8 × List UInt8), List.Mem f (fldT (fieldC (l ++ r)) (List.length l)) → f.fst.length ≤ (281474976710656 : Nat) ∧ f.snd.length ≤ (281474976710656 : Nat)) ∧ bif !lightB (fldT (fieldC (l ++ r)) (List.length l)) then ∃ (_x : Unit), True ∧ (((1 : Nat) = (1 : Nat) ∧ (te = te ∧ True) ∧ True) ∧ (cellsP (fun (b : Nat) => [(0 : Nat), (1 : Nat)].getD b (2 : Nat)) (fieldC (l ++ r)) (fieldC (l ++ r)) ∧ True) ∧ True) ∧ true = true ∧ True else bif ltI (60 : Int) (ic m.length) then ∃ (_x : Unit), True ∧ (((1 : Nat) = (1 : Nat) ∧ (te = te ∧ True) ∧ True) ∧ (cellsP (fun (b : Nat) => [(0 : Nat), (1 : Nat)].getD b (2 : Nat)) (fieldC (l ++ r)) (fieldC (l ++ r)) ∧ True) ∧ True) ∧ true = true ∧ True else (fldOk (fieldC (l ++ r)) (List.length l) ∧ true = true ∧ allF (fldT (fieldC (l ++ r)) (List.length l)) [(67 : UInt8), (111 : UInt8), (110 : UInt8), (116 : UInt8), (101 : UInt8), (110 : UInt8), (116 : UInt8), (45 : UInt8), (76 : UInt8), (101 : UInt8), (110 : UInt8), (103 : UInt8), (116 : UInt8), (104 : UInt8)] = v :: w) ∧ (fldOk (fieldC (l ++ r)) (List.length l) ∧ true = true ∧ allF (fldT (fieldC (l ++ r)) (List.length l)) [(84 : UInt8), (114 : UInt8), (97 : UInt8), (110 : UInt8), (115 : UInt8), (102 : UInt8), (101 : UInt8), (114 : UInt8), (45 : UInt8), (69 : UInt8), (110 : UInt8), (99 : UInt8), (111 : UInt8), (100 : UInt8), (105 : UInt8), (110 : UInt8), (103 : UInt8)] = x :: y) ∧ ((fldOk (fieldC (l ++ r)) (List.length l) ∧ true = true) ∧ rqV (frL minor (fldT (fieldC (l ++ r)) (List.length l))) = rqV ((0 : Int), (0 : Int), true, (400 : Int))) ∧ ((fldOk (fieldC (l ++ r)) (List.length l) ∧ (leI (-9223372036854775808 : Int) st && leI st (9223372036854775807 : Int)) = true) ∧ rqV (rsF m st minor (fldT (fieldC (l ++ r)) (List.length l))) = rqV ((0 : Int), (0 : Int), true, (400 : Int))) ∧ bif leI (-9223372036854775808 : Int) st && leI st (9223372036854775807 : Int) then AV.bool (bareF m st) = AV.bool false ∧ ∃ (_x : Unit), True ∧ (((1 : Nat) = (1 : Nat) ∧ (te = te ∧ True) ∧ True) ∧ (cellsP (fun (b : Nat) => [(0 : Nat), (1 : Nat)].getD b (6 : Nat)) (fieldC (l ++ r)) (fieldC (l ++ r)) ∧ True) ∧ True) ∧ true = true ∧ True else False) := by kernel_rfl
theorem vOne71_eq  (te : Nat) (l r : FL) (m : List UInt8) (st minor : Int) (v : List UInt8) (w : LL) (x : List UInt8) (y : LL) (n : Int) : vOne71 te l r m st minor v w x y n = ((fieldC (l ++ r) = fieldC (getF (fieldC (l ++ r))) ∧ List.length l ≤ List.length (getF (fieldC (l ++ r))) ∧ ∀ (f : List UInt8 × List UInt8), List.Mem f (fldT (fieldC (l ++ r)) (List.length l)) → f.fst.length ≤ (281474976710656 : Nat) ∧ f.snd.length ≤ (281474976710656 : Nat)) ∧ bif !lightB (fldT (fieldC (l ++ r)) (List.length l)) then ∃ (_x : Unit), True ∧ (((1 : Nat) = (1 : Nat) ∧ (te = te ∧ True) ∧ True) ∧ (cellsP (fun (b : Nat) => [(0 : Nat), (1 : Nat)].getD b (2 : Nat)) (fieldC (l ++ r)) (fieldC (l ++ r)) ∧ True) ∧ True) ∧ true = true ∧ True else bif ltI (60 : Int) (ic m.length) then ∃ (_x : Unit), True ∧ (((1 : Nat) = (1 : Nat) ∧ (te = te ∧ True) ∧ True) ∧ (cellsP (fun (b : Nat) => [(0 : Nat), (1 : Nat)].getD b (2 : Nat)) (fieldC (l ++ r)) (fieldC (l ++ r)) ∧ True) ∧ True) ∧ true = true ∧ True else (fldOk (fieldC (l ++ r)) (List.length l) ∧ true = true ∧ allF (fldT (fieldC (l ++ r)) (List.length l)) [(67 : UInt8), (111 : UInt8), (110 : UInt8), (116 : UInt8), (101 : UInt8), (110 : UInt8), (116 : UInt8), (45 : UInt8), (76 : UInt8), (101 : UInt8), (110 : UInt8), (103 : UInt8), (116 : UInt8), (104 : UInt8)] = v :: w) ∧ (fldOk (fieldC (l ++ r)) (List.length l) ∧ true = true ∧ allF (fldT (fieldC (l ++ r)) (List.length l)) [(84 : UInt8), (114 : UInt8), (97 : UInt8), (110 : UInt8), (115 : UInt8), (102 : UInt8), (101 : UInt8), (114 : UInt8), (45 : UInt8), (69 : UInt8), (110 : UInt8), (99 : UInt8), (111 : UInt8), (100 : UInt8), (105 : UInt8), (110 : UInt8), (103 : UInt8)] = x :: y) ∧ ((fldOk (fieldC (l ++ r)) (List.length l) ∧ true = true) ∧ rqV (frL minor (fldT (fieldC (l ++ r)) (List.length l))) = rqV ((0 : Int), (0 : Int), true, (400 : Int))) ∧ ((fldOk (fieldC (l ++ r)) (List.length l) ∧ (leI (-9223372036854775808 : Int) st && leI st (9223372036854775807 : Int)) = true) ∧ rqV (rsF m st minor (fldT (fieldC (l ++ r)) (List.length l))) = rqV ((1 : Int), (0 : Int), true, (0 : Int))) ∧ bif leI (-9223372036854775808 : Int) st && leI st (9223372036854775807 : Int) then AV.bool (bareF m st) = AV.bool true ∧ ∃ (_x : Unit), True ∧ (((1 : Nat) = (1 : Nat) ∧ (te = te ∧ True) ∧ True) ∧ (cellsP (fun (b : Nat) => [(0 : Nat), (1 : Nat)].getD b (6 : Nat)) (fieldC (l ++ r)) (fieldC (l ++ r)) ∧ True) ∧ True) ∧ true = true ∧ True else False) := by kernel_rfl
theorem vOneN0_eq  (te : Nat) (m : List UInt8) (st minor : Int) : vOneN0 te m st minor = (bif ltI (60 : Int) (ic m.length) then ∃ (_x : Unit), True ∧ (((1 : Nat) = (1 : Nat) ∧ (te = te ∧ True) ∧ True) ∧ True) ∧ true = true ∧ True else ((True ∧ true = true) ∧ rqV (frL minor []) = rqV ((1 : Int), (0 : Int), false, (0 : Int))) ∧ ((True ∧ (leI (-9223372036854775808 : Int) st && leI st (9223372036854775807 : Int)) = true) ∧ rqV (rsF m st minor []) = rqV ((4 : Int), (0 : Int), true, (0 : Int))) ∧ bif leI (-9223372036854775808 : Int) st && leI st (9223372036854775807 : Int) then AV.bool (bareF m st) = AV.bool false ∧ ∃ (_x : Unit), True ∧ (((1 : Nat) = (1 : Nat) ∧ (te = te ∧ True) ∧ True) ∧ True) ∧ true = true ∧ True else False) := by kernel_rfl
theorem vOneZ0_eq  (te : Nat) (m : List UInt8) (st minor : Int) : vOneZ0 te m st minor = (bif ltI (60 : Int) (ic m.length) then ∃ (_x : Unit), True ∧ (((1 : Nat) = (1 : Nat) ∧ (te = te ∧ True) ∧ True) ∧ True) ∧ true = true ∧ True else ((True ∧ true = true) ∧ rqV (frL minor []) = rqV ((1 : Int), (0 : Int), false, (0 : Int))) ∧ ((True ∧ (leI (-9223372036854775808 : Int) st && leI st (9223372036854775807 : Int)) = true) ∧ rqV (rsF m st minor []) = rqV ((4 : Int), (0 : Int), true, (0 : Int))) ∧ bif leI (-9223372036854775808 : Int) st && leI st (9223372036854775807 : Int) then AV.bool (bareF m st) = AV.bool false ∧ ∃ (_x : Unit), True ∧ (((1 : Nat) = (1 : Nat) ∧ (te = te ∧ True) ∧ True) ∧ True) ∧ true = true ∧ True else False) := by kernel_rfl
theorem vOneN1_eq  (te : Nat) (m : List UInt8) (st minor : Int) : vOneN1 te m st minor = (bif ltI (60 : Int) (ic m.length) then ∃ (_x : Unit), True ∧ (((1 : Nat) = (1 : Nat) ∧ (te = te ∧ True) ∧ True) ∧ True) ∧ true = true ∧ True else ((True ∧ true = true) ∧ rqV (frL minor []) = rqV ((1 : Int), (0 : Int), false, (0 : Int))) ∧ ((True ∧ (leI (-9223372036854775808 : Int) st && leI st (9223372036854775807 : Int)) = true) ∧ rqV (rsF m st minor []) = rqV ((1 : Int), (0 : Int), true, (0 : Int))) ∧ bif leI (-9223372036854775808 : Int) st && leI st (9223372036854775807 : Int) then AV.bool (bareF m st) = AV.bool true ∧ ∃ (_x : Unit), True ∧ (((1 : Nat) = (1 : Nat) ∧ (te = te ∧ True) ∧ True) ∧ True) ∧ true = true ∧ True else False) := by kernel_rfl
theorem vOneZ1_eq  (te : Nat) (m : List UInt8) (st minor : Int) : vOneZ1 te m st minor = (bif ltI (60 : Int) (ic m.length) then ∃ (_x : Unit), True ∧ (((1 : Nat) = (1 : Nat) ∧ (te = te ∧ True) ∧ True) ∧ True) ∧ true = true ∧ True else ((True ∧ true = true) ∧ rqV (frL minor []) = rqV ((1 : Int), (0 : Int), false, (0 : Int))) ∧ ((True ∧ (leI (-9223372036854775808 : Int) st && leI st (9223372036854775807 : Int)) = true) ∧ rqV (rsF m st minor []) = rqV ((1 : Int), (0 : Int), true, (0 : Int))) ∧ bif leI (-9223372036854775808 : Int) st && leI st (9223372036854775807 : Int) then AV.bool (bareF m st) = AV.bool true ∧ ∃ (_x : Unit), True ∧ (((1 : Nat) = (1 : Nat) ∧ (te = te ∧ True) ∧ True) ∧ True) ∧ true = true ∧ True else False) := by kernel_rfl
/-- A proposition that is not looked into. -/
structure Holds (p : Prop) : Prop where
  h : p
theorem SC.ofFH {V : VE} (hP : V.P.funcs.all (fun fn => !(fn.name == "runtime.NumGoroutine")) = true) (hm : V.P.follows .mixedOrders = true) (hS : SpecOk V.P V.sp) (hO : CallOk V.P V.orc) {md : List (Nat × DMode)} {k : Nat} {A : Anns} {hs : List (Nat × AV)} {f : FuncId} {args : List AV} {H : AH} {L : List Out} (h : Holds (vcF V md k A hs f args H L)) : SC V.P f args H (outE L) := SC.ofF hP hm hS hO h.h
theorem light_tot {l : FL} (h : lightB l = true) : totL l ≤ 274877906944 := by
  have h1 := of_decide_eq_true h
  have h2 : totL l = sumL l + l.length := by
    clear h h1
    induction l with
    | nil => rfl
    | cons a r ih => simp only [totL, sumL, List.map_cons, List.sum_cons, List.length_cons] at ih ⊢; omega
  omega
theorem part_k (a b : Int) : pureRun Tryd.prog (part 3 #[.int .i64 a, .int .i64 b] 0) = some (.int .i64 a) := by kernel_rfl
theorem part_n (a b : Int) : pureRun Tryd.prog (part 2 #[.int .i64 a, .int .i64 b] 1) = some (.int .i64 b) := by kernel_rfl
theorem heldF : Tryd.prog.stoodInHeld 33 = false := by kernel_rfl
theorem guardF : Tryd.prog.eqGuardType Tryd.prog.depth 33 = false := by kernel_rfl
theorem eqIn_fr (d : Nat) (a b : Int) : pureRun Tryd.prog (Op.equalIn (d + 2) 33 (.agg #[.int .i64 a, .int .i64 b]) (.agg #[.int .i64 a, .int .i64 b])) = some true := by
  have hu := pureRun_underlying Tryd.underlying33
  have hp : pureRun Tryd.prog program = some Tryd.prog := rfl
  have hb := pureRun_underlying Tryd.underlying3
  have hs := pureRun_underlying Tryd.underlying2
  have e4 : pureRun Tryd.prog (Op.equalIn (d + 1) 3 (.int .i64 a) (.int .i64 a)) = some true := by
    unfold Op.equalIn
    rw [pureRun_bind _ _ _ hb]
    show some (a == a) = some true
    simp
  have e9 : pureRun Tryd.prog (Op.equalIn (d + 1) 2 (.int .i64 b) (.int .i64 b)) = some true := by
    unfold Op.equalIn
    rw [pureRun_bind _ _ _ hs]
    show some (b == b) = some true
    simp
  have pk := part_k a b
  have pn := part_n a b
  unfold Op.equalIn
  rw [pureRun_bind _ _ _ hu]
  simp only []
  rw [pureRun_bind _ _ _ hp]
  rw [if_neg (by rw [heldF]; decide)]
  simp only [List.forIn_toArray, List.forIn_cons, List.forIn_nil]
  rw [if_pos (by decide), if_pos (by decide)]
  simp only [bind_assoc]
  rw [pureRun_bind _ _ _ pk, pureRun_bind _ _ _ pk, pureRun_bind _ _ _ e4]
  simp only [Bool.not_true, Bool.false_eq_true, if_false, pure_bind, bind_assoc]
  rw [pureRun_bind _ _ _ pn, pureRun_bind _ _ _ pn, pureRun_bind _ _ _ e9]
  rfl
theorem bin_fr (x y : Operand) (a b : Int) : pureRun Tryd.prog (do eqGuard .eql 33 x y (.agg #[.int .i64 a, .int .i64 b]) (.agg #[.int .i64 a, .int .i64 b]); binOp .eql 33 (.agg #[.int .i64 a, .int .i64 b]) (.agg #[.int .i64 a, .int .i64 b]) : Sem Value) = some (.bool true) := by
  have hp : pureRun Tryd.prog program = some Tryd.prog := rfl
  have h1 : pureRun Tryd.prog (eqGuard .eql 33 x y (.agg #[.int .i64 a, .int .i64 b]) (.agg #[.int .i64 a, .int .i64 b])) = some () := by
    unfold eqGuard
    simp only []
    rw [if_neg (by decide), pureRun_bind _ _ _ hp, pureRun_bind _ _ _ hp, if_pos (by rw [guardF]; rfl)]
    rfl
  rw [pureRun_bind _ _ _ h1]
  have h2 := eqIn_fr 9998 a b
  simp only [binOp]
  rw [pureRun_bind _ _ _ (show pureRun Tryd.prog (Op.equal 33 (.agg #[.int .i64 a, .int .i64 b]) (.agg #[.int .i64 a, .int .i64 b])) = some true from h2)]
  rfl
theorem aeqX_self (x y : Operand) (a b : Int) : aeqX Tryd.prog .eql 33 x y (.agg [.int .i64 a, .int .i64 b]) (.agg [.int .i64 a, .int .i64 b]) = some true := by
  have e1 : scsS [.int .i64 a, .int .i64 b] = some [.int .i64 a, .int .i64 b] := rfl
  unfold aeqX
  rw [show aptrEq Tryd.prog .eql 33 (.agg [.int .i64 a, .int .i64 b]) (.agg [.int .i64 a, .int .i64 b]) = none by kernel_rfl]
  unfold aaggEq
  simp only [e1]
  rw [bin_fr]
theorem one00_vc (te : Nat) (l r : FL) (m : List UInt8) (st minor : Int) (v : List UInt8) (w : LL) (x : List UInt8) (y : LL) (n : Int) (hG : ∀ f ∈ l, f.1.length ≤ 281474976710656 ∧ f.2.length ≤ 281474976710656) (hst : inK .i64 st = true) (h1 : allF l clN = []) (h2 : allF l teN = []) (hq : frL minor l = (1, 0, false, 0)) (hb : bareF m st = false) (hr : rsF m st minor l = (4, 0, true, 0)) (hn : 0 < n) : vOne00 te l r m st minor v w x y n := by
  rw [vOne00_eq]
  simp only [ic, cond_F, sameB_self, Nat.beq_refl]
  simp only [cond_P, leI_t, leI_f, ltI_t, ltI_f, eqI_t, eqI_f, and_t, not_t, not_f, dec_t, dec_f, Nat.zero_add, Nat.mul_one, List.drop_zero]
  simp only [cells_tsr, cells_fld, take_ts, ts_length, and_true, true_and, and_false, false_and, or_false, false_or, exists_false, Nat.le_refl, exists_const, Nat.succ_ne_self, Nat.not_succ_le_self, false_implies, not_false_eq_true, true_implies, fldT_at, fldOk_at, getS_ts, getF_fieldC]
  have hst' := hst
  simp only [inK, leI_eq, Bool.and_eq_true, decide_eq_true_eq] at hst'
  refine ⟨⟨by rw [List.length_append]; omega, hG⟩, fun _ => trivial, fun hl => ⟨fun _ => trivial, fun _ => ?_⟩⟩
  have ht := light_tot hl
  exact ⟨⟨ht, h1⟩, ⟨ht, h2⟩, ⟨ht, by rw [hq]⟩, ⟨⟨ht, hst'⟩, by rw [hr]⟩, hst', by rw [hb]⟩
theorem one01_vc (te : Nat) (l r : FL) (m : List UInt8) (st minor : Int) (v : List UInt8) (w : LL) (x : List UInt8) (y : LL) (n : Int) (hG : ∀ f ∈ l, f.1.length ≤ 281474976710656 ∧ f.2.length ≤ 281474976710656) (hst : inK .i64 st = true) (h1 : allF l clN = []) (h2 : allF l teN = []) (hq : frL minor l = (1, 0, false, 0)) (hb : bareF m st = true) (hr : rsF m st minor l = (1, 0, true, 0)) (hn : 0 < n) : vOne01 te l r m st minor v w x y n := by
  rw [vOne01_eq]
  simp only [ic, cond_F, sameB_self, Nat.beq_refl]
  simp only [cond_P, leI_t, leI_f, ltI_t, ltI_f, eqI_t, eqI_f, and_t, not_t, not_f, dec_t, dec_f, Nat.zero_add, Nat.mul_one, List.drop_zero]
  simp only [cells_tsr, cells_fld, take_ts, ts_length, and_true, true_and, and_false, false_and, or_false, false_or, exists_false, Nat.le_refl, exists_const, Nat.succ_ne_self, Nat.not_succ_le_self, false_implies, not_false_eq_true, true_implies, fldT_at, fldOk_at, getS_ts, getF_fieldC]
  have hst' := hst
  simp only [inK, leI_eq, Bool.and_eq_true, decide_eq_true_eq] at hst'
  refine ⟨⟨by rw [List.length_append]; omega, hG⟩, fun _ => trivial, fun hl => ⟨fun _ => trivial, fun _ => ?_⟩⟩
  have ht := light_tot hl
  exact ⟨⟨ht, h1⟩, ⟨ht, h2⟩, ⟨ht, by rw [hq]⟩, ⟨⟨ht, hst'⟩, by rw [hr]⟩, hst', by rw [hb]⟩
theorem one10_vc (te : Nat) (l r : FL) (m : List UInt8) (st minor : Int) (v : List UInt8) (w : LL) (x : List UInt8) (y : LL) (n : Int) (hG : ∀ f ∈ l, f.1.length ≤ 281474976710656 ∧ f.2.length ≤ 281474976710656) (hst : inK .i64 st = true) (h1 : allF l clN = []) (h2 : allF l teN = (v :: w)) (hq : frL minor l = (0, 0, true, 400)) (hb : bareF m st = false) (hr : rsF m st minor l = (0, 0, true, 400)) (hn : 0 < n) : vOne10 te l r m st minor v w x y n := by
  rw [vOne10_eq]
  simp only [ic, cond_F, sameB_self, Nat.beq_refl]
  simp only [cond_P, leI_t, leI_f, ltI_t, ltI_f, eqI_t, eqI_f, and_t, not_t, not_f, dec_t, dec_f, Nat.zero_add, Nat.mul_one, List.drop_zero]
  simp only [cells_tsr, cells_fld, take_ts, ts_length, and_true, true_and, and_false, false_and, or_false, false_or, exists_false, Nat.le_refl, exists_const, Nat.succ_ne_self, Nat.not_succ_le_self, false_implies, not_false_eq_true, true_implies, fldT_at, fldOk_at, getS_ts, getF_fieldC]
  have hst' := hst
  simp only [inK, leI_eq, Bool.and_eq_true, decide_eq_true_eq] at hst'
  refine ⟨⟨by rw [List.length_append]; omega, hG⟩, fun _ => trivial, fun hl => ⟨fun _ => trivial, fun _ => ?_⟩⟩
  have ht := light_tot hl
  exact ⟨⟨ht, h1⟩, ⟨ht, h2⟩, ⟨ht, by rw [hq]⟩, ⟨⟨ht, hst'⟩, by rw [hr]⟩, hst', by rw [hb]⟩
theorem one11_vc (te : Nat) (l r : FL) (m : List UInt8) (st minor : Int) (v : List UInt8) (w : LL) (x : List UInt8) (y : LL) (n : Int) (hG : ∀ f ∈ l, f.1.length ≤ 281474976710656 ∧ f.2.length ≤ 281474976710656) (hst : inK .i64 st = true) (h1 : allF l clN = []) (h2 : allF l teN = (v :: w)) (hq : frL minor l = (0, 0, true, 400)) (hb : bareF m st = true) (hr : rsF m st minor l = (1, 0, true, 0)) (hn : 0 < n) : vOne11 te l r m st minor v w x y n := by
  rw [vOne11_eq]
  simp only [ic, cond_F, sameB_self, Nat.beq_refl]
  simp only [cond_P, leI_t, leI_f, ltI_t, ltI_f, eqI_t, eqI_f, and_t, not_t, not_f, dec_t, dec_f, Nat.zero_add, Nat.mul_one, List.drop_zero]
  simp only [cells_tsr, cells_fld, take_ts, ts_length, and_true, true_and, and_false, false_and, or_false, false_or, exists_false, Nat.le_refl, exists_const, Nat.succ_ne_self, Nat.not_succ_le_self, false_implies, not_false_eq_true, true_implies, fldT_at, fldOk_at, getS_ts, getF_fieldC]
  have hst' := hst
  simp only [inK, leI_eq, Bool.and_eq_true, decide_eq_true_eq] at hst'
  refine ⟨⟨by rw [List.length_append]; omega, hG⟩, fun _ => trivial, fun hl => ⟨fun _ => trivial, fun _ => ?_⟩⟩
  have ht := light_tot hl
  exact ⟨⟨ht, h1⟩, ⟨ht, h2⟩, ⟨ht, by rw [hq]⟩, ⟨⟨ht, hst'⟩, by rw [hr]⟩, hst', by rw [hb]⟩
theorem one20_vc (te : Nat) (l r : FL) (m : List UInt8) (st minor : Int) (v : List UInt8) (w : LL) (x : List UInt8) (y : LL) (n : Int) (hG : ∀ f ∈ l, f.1.length ≤ 281474976710656 ∧ f.2.length ≤ 281474976710656) (hst : inK .i64 st = true) (h1 : allF l clN = []) (h2 : allF l teN = (v :: w)) (hq : frL minor l = (0, 0, true, 501)) (hb : bareF m st = false) (hr : rsF m st minor l = (0, 0, true, 501)) (hn : 0 < n) : vOne20 te l r m st minor v w x y n := by
  rw [vOne20_eq]
  simp only [ic, cond_F, sameB_self, Nat.beq_refl]
  simp only [cond_P, leI_t, leI_f, ltI_t, ltI_f, eqI_t, eqI_f, and_t, not_t, not_f, dec_t, dec_f, Nat.zero_add, Nat.mul_one, List.drop_zero]
  simp only [cells_tsr, cells_fld, take_ts, ts_length, and_true, true_and, and_false, false_and, or_false, false_or, exists_false, Nat.le_refl, exists_const, Nat.succ_ne_self, Nat.not_succ_le_self, false_implies, not_false_eq_true, true_implies, fldT_at, fldOk_at, getS_ts, getF_fieldC]
  have hst' := hst
  simp only [inK, leI_eq, Bool.and_eq_true, decide_eq_true_eq] at hst'
  refine ⟨⟨by rw [List.length_append]; omega, hG⟩, fun _ => trivial, fun hl => ⟨fun _ => trivial, fun _ => ?_⟩⟩
  have ht := light_tot hl
  exact ⟨⟨ht, h1⟩, ⟨ht, h2⟩, ⟨ht, by rw [hq]⟩, ⟨⟨ht, hst'⟩, by rw [hr]⟩, hst', by rw [hb]⟩
theorem one21_vc (te : Nat) (l r : FL) (m : List UInt8) (st minor : Int) (v : List UInt8) (w : LL) (x : List UInt8) (y : LL) (n : Int) (hG : ∀ f ∈ l, f.1.length ≤ 281474976710656 ∧ f.2.length ≤ 281474976710656) (hst : inK .i64 st = true) (h1 : allF l clN = []) (h2 : allF l teN = (v :: w)) (hq : frL minor l = (0, 0, true, 501)) (hb : bareF m st = true) (hr : rsF m st minor l = (1, 0, true, 0)) (hn : 0 < n) : vOne21 te l r m st minor v w x y n := by
  rw [vOne21_eq]
  simp only [ic, cond_F, sameB_self, Nat.beq_refl]
  simp only [cond_P, leI_t, leI_f, ltI_t, ltI_f, eqI_t, eqI_f, and_t, not_t, not_f, dec_t, dec_f, Nat.zero_add, Nat.mul_one, List.drop_zero]
  simp only [cells_tsr, cells_fld, take_ts, ts_length, and_true, true_and, and_false, false_and, or_false, false_or, exists_false, Nat.le_refl, exists_const, Nat.succ_ne_self, Nat.not_succ_le_self, false_implies, not_false_eq_true, true_implies, fldT_at, fldOk_at, getS_ts, getF_fieldC]
  have hst' := hst
  simp only [inK, leI_eq, Bool.and_eq_true, decide_eq_true_eq] at hst'
  refine ⟨⟨by rw [List.length_append]; omega, hG⟩, fun _ => trivial, fun hl => ⟨fun _ => trivial, fun _ => ?_⟩⟩
  have ht := light_tot hl
  exact ⟨⟨ht, h1⟩, ⟨ht, h2⟩, ⟨ht, by rw [hq]⟩, ⟨⟨ht, hst'⟩, by rw [hr]⟩, hst', by rw [hb]⟩
theorem one30_vc (te : Nat) (l r : FL) (m : List UInt8) (st minor : Int) (v : List UInt8) (w : LL) (x : List UInt8) (y : LL) (n : Int) (hG : ∀ f ∈ l, f.1.length ≤ 281474976710656 ∧ f.2.length ≤ 281474976710656) (hst : inK .i64 st = true) (h1 : allF l clN = []) (h2 : allF l teN = (v :: w)) (hq : frL minor l = (3, 0, true, 0)) (hb : bareF m st = false) (hr : rsF m st minor l = (3, 0, true, 0)) (hn : 0 < n) : vOne30 te l r m st minor v w x y n := by
  rw [vOne30_eq]
  simp only [ic, cond_F, sameB_self, Nat.beq_refl]
  simp only [cond_P, leI_t, leI_f, ltI_t, ltI_f, eqI_t, eqI_f, and_t, not_t, not_f, dec_t, dec_f, Nat.zero_add, Nat.mul_one, List.drop_zero]
  simp only [cells_tsr, cells_fld, take_ts, ts_length, and_true, true_and, and_false, false_and, or_false, false_or, exists_false, Nat.le_refl, exists_const, Nat.succ_ne_self, Nat.not_succ_le_self, false_implies, not_false_eq_true, true_implies, fldT_at, fldOk_at, getS_ts, getF_fieldC]
  have hst' := hst
  simp only [inK, leI_eq, Bool.and_eq_true, decide_eq_true_eq] at hst'
  refine ⟨⟨by rw [List.length_append]; omega, hG⟩, fun _ => trivial, fun hl => ⟨fun _ => trivial, fun _ => ?_⟩⟩
  have ht := light_tot hl
  exact ⟨⟨ht, h1⟩, ⟨ht, h2⟩, ⟨ht, by rw [hq]⟩, ⟨⟨ht, hst'⟩, by rw [hr]⟩, hst', by rw [hb]⟩
theorem one31_vc (te : Nat) (l r : FL) (m : List UInt8) (st minor : Int) (v : List UInt8) (w : LL) (x : List UInt8) (y : LL) (n : Int) (hG : ∀ f ∈ l, f.1.length ≤ 281474976710656 ∧ f.2.length ≤ 281474976710656) (hst : inK .i64 st = true) (h1 : allF l clN = []) (h2 : allF l teN = (v :: w)) (hq : frL minor l = (3, 0, true, 0)) (hb : bareF m st = true) (hr : rsF m st minor l = (1, 0, true, 0)) (hn : 0 < n) : vOne31 te l r m st minor v w x y n := by
  rw [vOne31_eq]
  simp only [ic, cond_F, sameB_self, Nat.beq_refl]
  simp only [cond_P, leI_t, leI_f, ltI_t, ltI_f, eqI_t, eqI_f, and_t, not_t, not_f, dec_t, dec_f, Nat.zero_add, Nat.mul_one, List.drop_zero]
  simp only [cells_tsr, cells_fld, take_ts, ts_length, and_true, true_and, and_false, false_and, or_false, false_or, exists_false, Nat.le_refl, exists_const, Nat.succ_ne_self, Nat.not_succ_le_self, false_implies, not_false_eq_true, true_implies, fldT_at, fldOk_at, getS_ts, getF_fieldC]
  have hst' := hst
  simp only [inK, leI_eq, Bool.and_eq_true, decide_eq_true_eq] at hst'
  refine ⟨⟨by rw [List.length_append]; omega, hG⟩, fun _ => trivial, fun hl => ⟨fun _ => trivial, fun _ => ?_⟩⟩
  have ht := light_tot hl
  exact ⟨⟨ht, h1⟩, ⟨ht, h2⟩, ⟨ht, by rw [hq]⟩, ⟨⟨ht, hst'⟩, by rw [hr]⟩, hst', by rw [hb]⟩
theorem one40_vc (te : Nat) (l r : FL) (m : List UInt8) (st minor : Int) (v : List UInt8) (w : LL) (x : List UInt8) (y : LL) (n : Int) (hG : ∀ f ∈ l, f.1.length ≤ 281474976710656 ∧ f.2.length ≤ 281474976710656) (hst : inK .i64 st = true) (h1 : allF l clN = (v :: w)) (h2 : allF l teN = []) (hq : frL minor l = (0, 0, true, 400)) (hb : bareF m st = false) (hr : rsF m st minor l = (0, 0, true, 400)) (hn : 0 < n) : vOne40 te l r m st minor v w x y n := by
  rw [vOne40_eq]
  simp only [ic, cond_F, sameB_self, Nat.beq_refl]
  simp only [cond_P, leI_t, leI_f, ltI_t, ltI_f, eqI_t, eqI_f, and_t, not_t, not_f, dec_t, dec_f, Nat.zero_add, Nat.mul_one, List.drop_zero]
  simp only [cells_tsr, cells_fld, take_ts, ts_length, and_true, true_and, and_false, false_and, or_false, false_or, exists_false, Nat.le_refl, exists_const, Nat.succ_ne_self, Nat.not_succ_le_self, false_implies, not_false_eq_true, true_implies, fldT_at, fldOk_at, getS_ts, getF_fieldC]
  have hst' := hst
  simp only [inK, leI_eq, Bool.and_eq_true, decide_eq_true_eq] at hst'
  refine ⟨⟨by rw [List.length_append]; omega, hG⟩, fun _ => trivial, fun hl => ⟨fun _ => trivial, fun _ => ?_⟩⟩
  have ht := light_tot hl
  exact ⟨⟨ht, h1⟩, ⟨ht, h2⟩, ⟨ht, by rw [hq]⟩, ⟨⟨ht, hst'⟩, by rw [hr]⟩, hst', by rw [hb]⟩
theorem one41_vc (te : Nat) (l r : FL) (m : List UInt8) (st minor : Int) (v : List UInt8) (w : LL) (x : List UInt8) (y : LL) (n : Int) (hG : ∀ f ∈ l, f.1.length ≤ 281474976710656 ∧ f.2.length ≤ 281474976710656) (hst : inK .i64 st = true) (h1 : allF l clN = (v :: w)) (h2 : allF l teN = []) (hq : frL minor l = (0, 0, true, 400)) (hb : bareF m st = true) (hr : rsF m st minor l = (1, 0, true, 0)) (hn : 0 < n) : vOne41 te l r m st minor v w x y n := by
  rw [vOne41_eq]
  simp only [ic, cond_F, sameB_self, Nat.beq_refl]
  simp only [cond_P, leI_t, leI_f, ltI_t, ltI_f, eqI_t, eqI_f, and_t, not_t, not_f, dec_t, dec_f, Nat.zero_add, Nat.mul_one, List.drop_zero]
  simp only [cells_tsr, cells_fld, take_ts, ts_length, and_true, true_and, and_false, false_and, or_false, false_or, exists_false, Nat.le_refl, exists_const, Nat.succ_ne_self, Nat.not_succ_le_self, false_implies, not_false_eq_true, true_implies, fldT_at, fldOk_at, getS_ts, getF_fieldC]
  have hst' := hst
  simp only [inK, leI_eq, Bool.and_eq_true, decide_eq_true_eq] at hst'
  refine ⟨⟨by rw [List.length_append]; omega, hG⟩, fun _ => trivial, fun hl => ⟨fun _ => trivial, fun _ => ?_⟩⟩
  have ht := light_tot hl
  exact ⟨⟨ht, h1⟩, ⟨ht, h2⟩, ⟨ht, by rw [hq]⟩, ⟨⟨ht, hst'⟩, by rw [hr]⟩, hst', by rw [hb]⟩
theorem one50_vc (te : Nat) (l r : FL) (m : List UInt8) (st minor : Int) (v : List UInt8) (w : LL) (x : List UInt8) (y : LL) (n : Int) (hG : ∀ f ∈ l, f.1.length ≤ 281474976710656 ∧ f.2.length ≤ 281474976710656) (hst : inK .i64 st = true) (h1 : allF l clN = (v :: w)) (h2 : allF l teN = []) (hq : frL minor l = (2, n, true, 0)) (hb : bareF m st = false) (hr : rsF m st minor l = (2, n, true, 0)) (hn : 0 < n) : vOne50 te l r m st minor v w x y n := by
  rw [vOne50_eq]
  simp only [ic, cond_F, sameB_self, Nat.beq_refl]
  simp only [cond_P, leI_t, leI_f, ltI_t, ltI_f, eqI_t, eqI_f, and_t, not_t, not_f, dec_t, dec_f, Nat.zero_add, Nat.mul_one, List.drop_zero]
  simp only [cells_tsr, cells_fld, take_ts, ts_length, and_true, true_and, and_false, false_and, or_false, false_or, exists_false, Nat.le_refl, exists_const, Nat.succ_ne_self, Nat.not_succ_le_self, false_implies, not_false_eq_true, true_implies, fldT_at, fldOk_at, getS_ts, getF_fieldC]
  have hst' := hst
  simp only [inK, leI_eq, Bool.and_eq_true, decide_eq_true_eq] at hst'
  refine ⟨⟨by rw [List.length_append]; omega, hG⟩, fun _ => trivial, fun hl => ⟨fun _ => trivial, fun _ => ?_⟩⟩
  have ht := light_tot hl
  exact ⟨⟨ht, h1⟩, ⟨ht, h2⟩, ⟨ht, by rw [hq]⟩, ⟨⟨ht, hst'⟩, by rw [hr]⟩, hst', by rw [hb], fun _ => aeqX_self _ _ _ _, fun h => absurd hn (by omega)⟩
theorem one51_vc (te : Nat) (l r : FL) (m : List UInt8) (st minor : Int) (v : List UInt8) (w : LL) (x : List UInt8) (y : LL) (n : Int) (hG : ∀ f ∈ l, f.1.length ≤ 281474976710656 ∧ f.2.length ≤ 281474976710656) (hst : inK .i64 st = true) (h1 : allF l clN = (v :: w)) (h2 : allF l teN = []) (hq : frL minor l = (2, n, true, 0)) (hb : bareF m st = true) (hr : rsF m st minor l = (1, 0, true, 0)) (hn : 0 < n) : vOne51 te l r m st minor v w x y n := by
  rw [vOne51_eq]
  simp only [ic, cond_F, sameB_self, Nat.beq_refl]
  simp only [cond_P, leI_t, leI_f, ltI_t, ltI_f, eqI_t, eqI_f, and_t, not_t, not_f, dec_t, dec_f, Nat.zero_add, Nat.mul_one, List.drop_zero]
  simp only [cells_tsr, cells_fld, take_ts, ts_length, and_true, true_and, and_false, false_and, or_false, false_or, exists_false, Nat.le_refl, exists_const, Nat.succ_ne_self, Nat.not_succ_le_self, false_implies, not_false_eq_true, true_implies, fldT_at, fldOk_at, getS_ts, getF_fieldC]
  have hst' := hst
  simp only [inK, leI_eq, Bool.and_eq_true, decide_eq_true_eq] at hst'
  refine ⟨⟨by rw [List.length_append]; omega, hG⟩, fun _ => trivial, fun hl => ⟨fun _ => trivial, fun _ => ?_⟩⟩
  have ht := light_tot hl
  exact ⟨⟨ht, h1⟩, ⟨ht, h2⟩, ⟨ht, by rw [hq]⟩, ⟨⟨ht, hst'⟩, by rw [hr]⟩, hst', by rw [hb], fun _ => trivial, fun h => absurd hn (by omega)⟩
theorem one60_vc (te : Nat) (l r : FL) (m : List UInt8) (st minor : Int) (v : List UInt8) (w : LL) (x : List UInt8) (y : LL) (n : Int) (hG : ∀ f ∈ l, f.1.length ≤ 281474976710656 ∧ f.2.length ≤ 281474976710656) (hst : inK .i64 st = true) (h1 : allF l clN = (v :: w)) (h2 : allF l teN = []) (hq : frL minor l = (1, 0, true, 0)) (hb : bareF m st = false) (hr : rsF m st minor l = (1, 0, true, 0)) (hn : 0 < n) : vOne60 te l r m st minor v w x y n := by
  rw [vOne60_eq]
  simp only [ic, cond_F, sameB_self, Nat.beq_refl]
  simp only [cond_P, leI_t, leI_f, ltI_t, ltI_f, eqI_t, eqI_f, and_t, not_t, not_f, dec_t, dec_f, Nat.zero_add, Nat.mul_one, List.drop_zero]
  simp only [cells_tsr, cells_fld, take_ts, ts_length, and_true, true_and, and_false, false_and, or_false, false_or, exists_false, Nat.le_refl, exists_const, Nat.succ_ne_self, Nat.not_succ_le_self, false_implies, not_false_eq_true, true_implies, fldT_at, fldOk_at, getS_ts, getF_fieldC]
  have hst' := hst
  simp only [inK, leI_eq, Bool.and_eq_true, decide_eq_true_eq] at hst'
  refine ⟨⟨by rw [List.length_append]; omega, hG⟩, fun _ => trivial, fun hl => ⟨fun _ => trivial, fun _ => ?_⟩⟩
  have ht := light_tot hl
  exact ⟨⟨ht, h1⟩, ⟨ht, h2⟩, ⟨ht, by rw [hq]⟩, ⟨⟨ht, hst'⟩, by rw [hr]⟩, hst', by rw [hb], aeqX_self _ _ _ _⟩
theorem one61_vc (te : Nat) (l r : FL) (m : List UInt8) (st minor : Int) (v : List UInt8) (w : LL) (x : List UInt8) (y : LL) (n : Int) (hG : ∀ f ∈ l, f.1.length ≤ 281474976710656 ∧ f.2.length ≤ 281474976710656) (hst : inK .i64 st = true) (h1 : allF l clN = (v :: w)) (h2 : allF l teN = []) (hq : frL minor l = (1, 0, true, 0)) (hb : bareF m st = true) (hr : rsF m st minor l = (1, 0, true, 0)) (hn : 0 < n) : vOne61 te l r m st minor v w x y n := by
  rw [vOne61_eq]
  simp only [ic, cond_F, sameB_self, Nat.beq_refl]
  simp only [cond_P, leI_t, leI_f, ltI_t, ltI_f, eqI_t, eqI_f, and_t, not_t, not_f, dec_t, dec_f, Nat.zero_add, Nat.mul_one, List.drop_zero]
  simp only [cells_tsr, cells_fld, take_ts, ts_length, and_true, true_and, and_false, false_and, or_false, false_or, exists_false, Nat.le_refl, exists_const, Nat.succ_ne_self, Nat.not_succ_le_self, false_implies, not_false_eq_true, true_implies, fldT_at, fldOk_at, getS_ts, getF_fieldC]
  have hst' := hst
  simp only [inK, leI_eq, Bool.and_eq_true, decide_eq_true_eq] at hst'
  refine ⟨⟨by rw [List.length_append]; omega, hG⟩, fun _ => trivial, fun hl => ⟨fun _ => trivial, fun _ => ?_⟩⟩
  have ht := light_tot hl
  exact ⟨⟨ht, h1⟩, ⟨ht, h2⟩, ⟨ht, by rw [hq]⟩, ⟨⟨ht, hst'⟩, by rw [hr]⟩, hst', by rw [hb]⟩
theorem one70_vc (te : Nat) (l r : FL) (m : List UInt8) (st minor : Int) (v : List UInt8) (w : LL) (x : List UInt8) (y : LL) (n : Int) (hG : ∀ f ∈ l, f.1.length ≤ 281474976710656 ∧ f.2.length ≤ 281474976710656) (hst : inK .i64 st = true) (h1 : allF l clN = (v :: w)) (h2 : allF l teN = (x :: y)) (hq : frL minor l = (0, 0, true, 400)) (hb : bareF m st = false) (hr : rsF m st minor l = (0, 0, true, 400)) (hn : 0 < n) : vOne70 te l r m st minor v w x y n := by
  rw [vOne70_eq]
  simp only [ic, cond_F, sameB_self, Nat.beq_refl]
  simp only [cond_P, leI_t, leI_f, ltI_t, ltI_f, eqI_t, eqI_f, and_t, not_t, not_f, dec_t, dec_f, Nat.zero_add, Nat.mul_one, List.drop_zero]
  simp only [cells_tsr, cells_fld, take_ts, ts_length, and_true, true_and, and_false, false_and, or_false, false_or, exists_false, Nat.le_refl, exists_const, Nat.succ_ne_self, Nat.not_succ_le_self, false_implies, not_false_eq_true, true_implies, fldT_at, fldOk_at, getS_ts, getF_fieldC]
  have hst' := hst
  simp only [inK, leI_eq, Bool.and_eq_true, decide_eq_true_eq] at hst'
  refine ⟨⟨by rw [List.length_append]; omega, hG⟩, fun _ => trivial, fun hl => ⟨fun _ => trivial, fun _ => ?_⟩⟩
  have ht := light_tot hl
  exact ⟨⟨ht, h1⟩, ⟨ht, h2⟩, ⟨ht, by rw [hq]⟩, ⟨⟨ht, hst'⟩, by rw [hr]⟩, hst', by rw [hb]⟩
theorem one71_vc (te : Nat) (l r : FL) (m : List UInt8) (st minor : Int) (v : List UInt8) (w : LL) (x : List UInt8) (y : LL) (n : Int) (hG : ∀ f ∈ l, f.1.length ≤ 281474976710656 ∧ f.2.length ≤ 281474976710656) (hst : inK .i64 st = true) (h1 : allF l clN = (v :: w)) (h2 : allF l teN = (x :: y)) (hq : frL minor l = (0, 0, true, 400)) (hb : bareF m st = true) (hr : rsF m st minor l = (1, 0, true, 0)) (hn : 0 < n) : vOne71 te l r m st minor v w x y n := by
  rw [vOne71_eq]
  simp only [ic, cond_F, sameB_self, Nat.beq_refl]
  simp only [cond_P, leI_t, leI_f, ltI_t, ltI_f, eqI_t, eqI_f, and_t, not_t, not_f, dec_t, dec_f, Nat.zero_add, Nat.mul_one, List.drop_zero]
  simp only [cells_tsr, cells_fld, take_ts, ts_length, and_true, true_and, and_false, false_and, or_false, false_or, exists_false, Nat.le_refl, exists_const, Nat.succ_ne_self, Nat.not_succ_le_self, false_implies, not_false_eq_true, true_implies, fldT_at, fldOk_at, getS_ts, getF_fieldC]
  have hst' := hst
  simp only [inK, leI_eq, Bool.and_eq_true, decide_eq_true_eq] at hst'
  refine ⟨⟨by rw [List.length_append]; omega, hG⟩, fun _ => trivial, fun hl => ⟨fun _ => trivial, fun _ => ?_⟩⟩
  have ht := light_tot hl
  exact ⟨⟨ht, h1⟩, ⟨ht, h2⟩, ⟨ht, by rw [hq]⟩, ⟨⟨ht, hst'⟩, by rw [hr]⟩, hst', by rw [hb]⟩
theorem oneN0_vc (te : Nat) (m : List UInt8) (st minor : Int) (hst : inK .i64 st = true) (hb : bareF m st = false) (hr : rsF m st minor [] = (4, 0, true, 0)) : Holds (vOneN0 te m st minor) := by
  constructor
  rw [vOneN0_eq]
  simp only [ic, cond_F, sameB_self, Nat.beq_refl]
  simp only [cond_P, leI_t, leI_f, ltI_t, ltI_f, eqI_t, eqI_f, and_t, not_t, not_f, dec_t, dec_f, Nat.zero_add, Nat.mul_one, List.drop_zero]
  simp only [cells_tsr, cells_fld, take_ts, ts_length, and_true, true_and, and_false, false_and, or_false, false_or, exists_false, Nat.le_refl, exists_const, Nat.succ_ne_self, Nat.not_succ_le_self, false_implies, not_false_eq_true, true_implies, fldT_at, fldOk_at, getS_ts, getF_fieldC]
  have hst' := hst
  simp only [inK, leI_eq, Bool.and_eq_true, decide_eq_true_eq] at hst'
  exact ⟨fun _ => trivial, fun _ => ⟨by rw [frL_nil], ⟨hst', by rw [hr]⟩, hst', by rw [hb]⟩⟩
theorem oneZ0_vc (te : Nat) (m : List UInt8) (st minor : Int) (hst : inK .i64 st = true) (hb : bareF m st = false) (hr : rsF m st minor [] = (4, 0, true, 0)) : Holds (vOneZ0 te m st minor) := by
  constructor
  rw [vOneZ0_eq]
  simp only [ic, cond_F, sameB_self, Nat.beq_refl]
  simp only [cond_P, leI_t, leI_f, ltI_t, ltI_f, eqI_t, eqI_f, and_t, not_t, not_f, dec_t, dec_f, Nat.zero_add, Nat.mul_one, List.drop_zero]
  simp only [cells_tsr, cells_fld, take_ts, ts_length, and_true, true_and, and_false, false_and, or_false, false_or, exists_false, Nat.le_refl, exists_const, Nat.succ_ne_self, Nat.not_succ_le_self, false_implies, not_false_eq_true, true_implies, fldT_at, fldOk_at, getS_ts, getF_fieldC]
  have hst' := hst
  simp only [inK, leI_eq, Bool.and_eq_true, decide_eq_true_eq] at hst'
  exact ⟨fun _ => trivial, fun _ => ⟨by rw [frL_nil], ⟨hst', by rw [hr]⟩, hst', by rw [hb]⟩⟩
theorem oneN1_vc (te : Nat) (m : List UInt8) (st minor : Int) (hst : inK .i64 st = true) (hb : bareF m st = true) (hr : rsF m st minor [] = (1, 0, true, 0)) : Holds (vOneN1 te m st minor) := by
  constructor
  rw [vOneN1_eq]
  simp only [ic, cond_F, sameB_self, Nat.beq_refl]
  simp only [cond_P, leI_t, leI_f, ltI_t, ltI_f, eqI_t, eqI_f, and_t, not_t, not_f, dec_t, dec_f, Nat.zero_add, Nat.mul_one, List.drop_zero]
  simp only [cells_tsr, cells_fld, take_ts, ts_length, and_true, true_and, and_false, false_and, or_false, false_or, exists_false, Nat.le_refl, exists_const, Nat.succ_ne_self, Nat.not_succ_le_self, false_implies, not_false_eq_true, true_implies, fldT_at, fldOk_at, getS_ts, getF_fieldC]
  have hst' := hst
  simp only [inK, leI_eq, Bool.and_eq_true, decide_eq_true_eq] at hst'
  exact ⟨fun _ => trivial, fun _ => ⟨by rw [frL_nil], ⟨hst', by rw [hr]⟩, hst', by rw [hb]⟩⟩
theorem oneZ1_vc (te : Nat) (m : List UInt8) (st minor : Int) (hst : inK .i64 st = true) (hb : bareF m st = true) (hr : rsF m st minor [] = (1, 0, true, 0)) : Holds (vOneZ1 te m st minor) := by
  constructor
  rw [vOneZ1_eq]
  simp only [ic, cond_F, sameB_self, Nat.beq_refl]
  simp only [cond_P, leI_t, leI_f, ltI_t, ltI_f, eqI_t, eqI_f, and_t, not_t, not_f, dec_t, dec_f, Nat.zero_add, Nat.mul_one, List.drop_zero]
  simp only [cells_tsr, cells_fld, take_ts, ts_length, and_true, true_and, and_false, false_and, or_false, false_or, exists_false, Nat.le_refl, exists_const, Nat.succ_ne_self, Nat.not_succ_le_self, false_implies, not_false_eq_true, true_implies, fldT_at, fldOk_at, getS_ts, getF_fieldC]
  have hst' := hst
  simp only [inK, leI_eq, Bool.and_eq_true, decide_eq_true_eq] at hst'
  exact ⟨fun _ => trivial, fun _ => ⟨by rw [frL_nil], ⟨hst', by rw [hr]⟩, hst', by rw [hb]⟩⟩
theorem bytesEq_iff {a b : List UInt8} (h : bytesEq a b = true) : a = b := bytesEq_ok h
theorem eAllAs_ok (A1 A2 : LL) : EntryOk Tryd.prog 14 (eAllAs A1 A2) := by
  intro args H sr hs K hk
  unfold eAllAs at hs
  split at hs
  · rename_i nm
    cases hs
    exact eAllR_ok [.nilsl, .str nm] H _ rfl K hk
  · rename_i nm
    cases hs
    exact eAllR_ok [.slz, .str nm] H _ rfl K hk
  · rename_i b n c ex nm
    split at hs
    · rename_i vs e ro hb
      have h0 : eAll [.sl b 0 n c ex, .str nm] H = some (.needP (fldOk vs n ∧ le40 nm = true)
        (.br (decide (allF (fldT vs n) nm = [])) (.ok .nilsl none) (.ok (.sl H.length 0 (allF (fldT vs n) nm).length (allF (fldT vs n) nm).length false) (some (H ++ [.cells (ts (allF (fldT vs n) nm)) eT false]))))) := by
        simp only [eAll, hb]
      split at hs
      · cases hs
        obtain ⟨⟨g1, g2, g3⟩, g4⟩ := hk
        refine eAllR_ok _ H _ h0 K ⟨⟨g1, g2⟩, ?_⟩
        rw [SR.run, decide_eq_true g3, cond_true]
        exact g4
      · rename_i a r _
        cases hs
        obtain ⟨⟨g1, g2, g3⟩, g4⟩ := hk
        refine eAllR_ok _ H _ h0 K ⟨⟨g1, g2⟩, ?_⟩
        rw [g3, SR.run, decide_eq_false (by simp), cond_false]
        exact g4
    · cases hs
  · cases hs
theorem TO_ok (hl : EntryOk Tryd.prog 6 (flatE gLives)) (A1 A2 : LL) (b : Bool) (q q' : Int × Int × Bool × Int) : SpecOk Tryd.prog (tabS (TO A1 A2 b q q') noS) := by
  refine tabS_ok (fun p hp => ?_) noS_ok
  simp only [TO, List.mem_cons, List.mem_nil_iff, or_false] at hp
  rcases hp with rfl | rfl | rfl | rfl | rfl | rfl
  · exact hl
  · exact eLit_ok
  · exact eAllAs_ok A1 A2
  · exact eAs_ok gReq_ok _
  · exact eAs_ok gResp_ok _
  · exact eAs_ok gBare_ok _
theorem fr0 {l : FL} (h1 : allF l clN = []) (h2 : allF l teN = []) (minor : Int) : frL minor l = (1, 0, false, 0) := by
  simp [frL, frF, lenT, lenS, lenN, codT, h1, h2]
theorem frC {l : FL} {v : List UInt8} {w : LL} (h1 : allF l clN = []) (h2 : allF l teN = v :: w) (minor : Int) : frL minor l = (0, 0, true, 400) ∨ frL minor l = (0, 0, true, 501) ∨ frL minor l = (3, 0, true, 0) := by
  have hc : codT l = true := by simp [codT, h2]
  have hl : lenT l = false := by simp [lenT, h1]
  have hs : codS l = 0 ∨ codS l = 501 := by unfold codS; rw [if_neg (by simp [h2])]; split <;> simp
  unfold frL frF
  rw [hc, hl]
  by_cases hm : minor = 0
  · left; simp [hm]
  · rcases hs with hs | hs
    · right; right; simp [hm, hs]
    · right; left; simp [hm, hs]
theorem frT {l : FL} {v : List UInt8} {w : LL} (h1 : allF l clN = v :: w) (h2 : allF l teN = []) (minor : Int) : frL minor l = (0, 0, true, 400) ∨ (0 < lenN l ∧ frL minor l = (2, lenN l, true, 0)) ∨ frL minor l = (1, 0, true, 0) := by
  have hc : codT l = false := by simp [codT, h2]
  have hl : lenT l = true := by simp [lenT, h1]
  have hs : lenS l = 0 ∨ lenS l = 400 := by unfold lenS; rw [if_neg (by simp [h1])]; split <;> simp
  unfold frL frF
  rw [hc, hl]
  rcases hs with hs | hs
  · by_cases hn : 0 < lenN l
    · right; left; simp [hs, hn]
    · right; right; simp [hs, hn]
  · left; simp [hs]
theorem frB {l : FL} {v x : List UInt8} {w y : LL} (h1 : allF l clN = v :: w) (h2 : allF l teN = x :: y) (minor : Int) : frL minor l = (0, 0, true, 400) := by
  have hc : codT l = true := by simp [codT, h2]
  have hl : lenT l = true := by simp [lenT, h1]
  simp [frL, frF, hc, hl]
theorem rsB {m : List UInt8} {st minor : Int} {l : FL} (h : bareF m st = true) : rsF m st minor l = (1, 0, true, 0) := by simp [rsF, h]
theorem rsT {m : List UInt8} {st minor : Int} {l : FL} {q : Int × Int × Bool × Int} (h : bareF m st = false) (hq : frL minor l = q) (ht : q.2.2.1 = true) : rsF m st minor l = q := by simp [rsF, h, hq, ht]
theorem rsN {m : List UInt8} {st minor : Int} {l : FL} (h : bareF m st = false) (hq : frL minor l = (1, 0, false, 0)) : rsF m st minor l = (4, 0, true, 0) := by simp [rsF, h, hq]
abbrev Ans (args : List AV) (H : AH) : Prop := SC Tryd.prog 4 args H fun v _ => v = .bool true
theorem ansOf {args : List AV} {H H' : AH} {v : AV} {g : Option (List Nat)} (h : SC Tryd.prog 4 args H (outE [⟨Unit, fun _ => .bool true, fun _ => H', fun _ => True, g⟩])) : Ans args H :=
  h.mono fun v' H2 h => by
    obtain ⟨_, _, h1, _⟩ := outE_one h
    exact h1
theorem one_nil (hl : EntryOk Tryd.prog 6 (flatE gLives)) (te : Nat) (m : List UInt8) (st minor : Int) (hst : inK .i64 st = true) : Ans [.nilsl, .str m, .int .i64 st, .int .i64 minor] [gErr te] := by
  cases hb : bareF m st with
  | true => exact ansOf (v := .bad) (SC.ofFH (V := VO [] [] true (1, 0, false, 0) (1, 0, true, 0)) names0 mixed0 (TO_ok hl _ _ _ _ _) noO_ok (oneN1_vc te m st minor hst hb (rsB hb)))
  | false => exact ansOf (v := .bad) (SC.ofFH (V := VO [] [] false (1, 0, false, 0) (4, 0, true, 0)) names0 mixed0 (TO_ok hl _ _ _ _ _) noO_ok (oneN0_vc te m st minor hst hb (rsN hb (frL_nil minor))))
theorem one_zero (hl : EntryOk Tryd.prog 6 (flatE gLives)) (te : Nat) (m : List UInt8) (st minor : Int) (hst : inK .i64 st = true) : Ans [.slz, .str m, .int .i64 st, .int .i64 minor] [gErr te] := by
  cases hb : bareF m st with
  | true => exact ansOf (v := .bad) (SC.ofFH (V := VO [] [] true (1, 0, false, 0) (1, 0, true, 0)) names0 mixed0 (TO_ok hl _ _ _ _ _) noO_ok (oneZ1_vc te m st minor hst hb (rsB hb)))
  | false => exact ansOf (v := .bad) (SC.ofFH (V := VO [] [] false (1, 0, false, 0) (4, 0, true, 0)) names0 mixed0 (TO_ok hl _ _ _ _ _) noO_ok (oneZ0_vc te m st minor hst hb (rsN hb (frL_nil minor))))
theorem one_at (hl : EntryOk Tryd.prog 6 (flatE gLives)) (te : Nat) (l r : FL) (m : List UInt8) (st minor : Int) (hst : inK .i64 st = true) (hG : ∀ f ∈ l, f.1.length ≤ 281474976710656 ∧ f.2.length ≤ 281474976710656) :
    Ans [.sl 1 0 l.length (l.length + r.length) true, .str m, .int .i64 st, .int .i64 minor] [gErr te, .cells (fieldC (l ++ r)) 0 true] := by
  have one : (0 : Int) < 1 := by omega
  cases h1 : allF l clN with
  | nil =>
    cases h2 : allF l teN with
    | nil =>
      cases hb : bareF m st with
      | true => exact ansOf (v := .bad) (SC.ofF (V := VO [] [] true (1, 0, false, 0) (1, 0, true, 0)) names0 mixed0 (TO_ok hl _ _ _ _ _) noO_ok (one01_vc te l r m st minor [] [] [] [] (1) hG hst h1 h2 (fr0 h1 h2 minor) hb (rsB hb) (one)))
      | false => exact ansOf (v := .bad) (SC.ofF (V := VO [] [] false (1, 0, false, 0) (4, 0, true, 0)) names0 mixed0 (TO_ok hl _ _ _ _ _) noO_ok (one00_vc te l r m st minor [] [] [] [] (1) hG hst h1 h2 (fr0 h1 h2 minor) hb (rsN hb (fr0 h1 h2 minor)) (one)))
    | cons v w =>
      rcases frC h1 h2 minor with hq | hq | hq
      · cases hb : bareF m st with
        | true => exact ansOf (v := .bad) (SC.ofF (V := VO [] (v :: w) true (0, 0, true, 400) (1, 0, true, 0)) names0 mixed0 (TO_ok hl _ _ _ _ _) noO_ok (one11_vc te l r m st minor v w [] [] (1) hG hst h1 h2 hq hb (rsB hb) (one)))
        | false => exact ansOf (v := .bad) (SC.ofF (V := VO [] (v :: w) false (0, 0, true, 400) (0, 0, true, 400)) names0 mixed0 (TO_ok hl _ _ _ _ _) noO_ok (one10_vc te l r m st minor v w [] [] (1) hG hst h1 h2 hq hb (rsT hb hq rfl) (one)))
      · cases hb : bareF m st with
        | true => exact ansOf (v := .bad) (SC.ofF (V := VO [] (v :: w) true (0, 0, true, 501) (1, 0, true, 0)) names0 mixed0 (TO_ok hl _ _ _ _ _) noO_ok (one21_vc te l r m st minor v w [] [] (1) hG hst h1 h2 hq hb (rsB hb) (one)))
        | false => exact ansOf (v := .bad) (SC.ofF (V := VO [] (v :: w) false (0, 0, true, 501) (0, 0, true, 501)) names0 mixed0 (TO_ok hl _ _ _ _ _) noO_ok (one20_vc te l r m st minor v w [] [] (1) hG hst h1 h2 hq hb (rsT hb hq rfl) (one)))
      · cases hb : bareF m st with
        | true => exact ansOf (v := .bad) (SC.ofF (V := VO [] (v :: w) true (3, 0, true, 0) (1, 0, true, 0)) names0 mixed0 (TO_ok hl _ _ _ _ _) noO_ok (one31_vc te l r m st minor v w [] [] (1) hG hst h1 h2 hq hb (rsB hb) (one)))
        | false => exact ansOf (v := .bad) (SC.ofF (V := VO [] (v :: w) false (3, 0, true, 0) (3, 0, true, 0)) names0 mixed0 (TO_ok hl _ _ _ _ _) noO_ok (one30_vc te l r m st minor v w [] [] (1) hG hst h1 h2 hq hb (rsT hb hq rfl) (one)))
  | cons v w =>
    cases h2 : allF l teN with
    | nil =>
      rcases frT h1 h2 minor with hq | ⟨hn, hq⟩ | hq
      · cases hb : bareF m st with
        | true => exact ansOf (v := .bad) (SC.ofF (V := VO (v :: w) [] true (0, 0, true, 400) (1, 0, true, 0)) names0 mixed0 (TO_ok hl _ _ _ _ _) noO_ok (one41_vc te l r m st minor v w [] [] (1) hG hst h1 h2 hq hb (rsB hb) (one)))
        | false => exact ansOf (v := .bad) (SC.ofF (V := VO (v :: w) [] false (0, 0, true, 400) (0, 0, true, 400)) names0 mixed0 (TO_ok hl _ _ _ _ _) noO_ok (one40_vc te l r m st minor v w [] [] (1) hG hst h1 h2 hq hb (rsT hb hq rfl) (one)))
      · cases hb : bareF m st with
        | true => exact ansOf (v := .bad) (SC.ofF (V := VO (v :: w) [] true (2, lenN l, true, 0) (1, 0, true, 0)) names0 mixed0 (TO_ok hl _ _ _ _ _) noO_ok (one51_vc te l r m st minor v w [] [] (lenN l) hG hst h1 h2 hq hb (rsB hb) (hn)))
        | false => exact ansOf (v := .bad) (SC.ofF (V := VO (v :: w) [] false (2, lenN l, true, 0) (2, lenN l, true, 0)) names0 mixed0 (TO_ok hl _ _ _ _ _) noO_ok (one50_vc te l r m st minor v w [] [] (lenN l) hG hst h1 h2 hq hb (rsT hb hq rfl) (hn)))
      · cases hb : bareF m st with
        | true => exact ansOf (v := .bad) (SC.ofF (V := VO (v :: w) [] true (1, 0, true, 0) (1, 0, true, 0)) names0 mixed0 (TO_ok hl _ _ _ _ _) noO_ok (one61_vc te l r m st minor v w [] [] (1) hG hst h1 h2 hq hb (rsB hb) (one)))
        | false => exact ansOf (v := .bad) (SC.ofF (V := VO (v :: w) [] false (1, 0, true, 0) (1, 0, true, 0)) names0 mixed0 (TO_ok hl _ _ _ _ _) noO_ok (one60_vc te l r m st minor v w [] [] (1) hG hst h1 h2 hq hb (rsT hb hq rfl) (one)))
    | cons x y =>
      cases hb : bareF m st with
      | true => exact ansOf (v := .bad) (SC.ofF (V := VO (v :: w) (x :: y) true (0, 0, true, 400) (1, 0, true, 0)) names0 mixed0 (TO_ok hl _ _ _ _ _) noO_ok (one71_vc te l r m st minor v w x y (1) hG hst h1 h2 (frB h1 h2 minor) hb (rsB hb) (one)))
      | false => exact ansOf (v := .bad) (SC.ofF (V := VO (v :: w) (x :: y) false (0, 0, true, 400) (0, 0, true, 400)) names0 mixed0 (TO_ok hl _ _ _ _ _) noO_ok (one70_vc te l r m st minor v w x y (1) hG hst h1 h2 (frB h1 h2 minor) hb (rsT hb (frB h1 h2 minor) rfl) (one)))
end Go.Proofs.YtiobbjbodpkpjaaDoor

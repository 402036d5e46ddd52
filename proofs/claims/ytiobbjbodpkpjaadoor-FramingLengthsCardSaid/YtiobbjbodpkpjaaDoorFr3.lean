/- What framing.Bare, Request and Response answer. -/
import Derived.Test.YtiobbjbodpkpjaaDoorFr2
set_option linter.unusedSimpArgs false
set_option linter.unusedVariables false
namespace Go.Proofs.YtiobbjbodpkpjaaDoor
open Go Go.Ve
set_option maxRecDepth 20000
def headN : List UInt8 := [72, 69, 65, 68]
def conN : List UInt8 := [67, 79, 78, 78, 69, 67, 84]
def bareF (m : List UInt8) (st : Int) : Bool := decide (m = headN ∨ Int.tdiv st 100 = 1 ∨ st = 204 ∨ st = 304 ∨ (m = conN ∧ Int.tdiv st 100 = 2))
def gBare (args : List AV) : Option (Bool × AV) := match args with | [.str m, .int .i64 st] => some (inK .i64 st, .bool (bareF m st)) | _ => none
/-- Kind, length, whether it is told, status. -/
def frF (minor n : Int) (long : Bool) (bad : Int) (cod : Bool) (cs : Int) : Int × Int × Bool × Int :=
  if cod = true ∧ (minor = 0 ∨ long = true) then (0, 0, true, 400)
  else if cod = true ∧ cs ≠ 0 then (0, 0, true, cs)
  else if cod = true then (3, 0, true, 0)
  else if bad ≠ 0 then (0, 0, true, bad)
  else if 0 < n then (2, n, true, 0)
  else (1, 0, long, 0)
def frL (minor : Int) (l : FL) : Int × Int × Bool × Int := frF minor (lenN l) (lenT l) (lenS l) (codT l) (codS l)
def frV (q : Int × Int × Bool × Int) : AV := .tuple [.agg [.int .i64 q.1, .int .i64 q.2.1], .bool q.2.2.1, .int .i64 q.2.2.2]
def rqV (q : Int × Int × Bool × Int) : AV := .tuple [.agg [.int .i64 q.1, .int .i64 q.2.1], .int .i64 q.2.2.2]
def rsF (m : List UInt8) (st minor : Int) (l : FL) : Int × Int × Bool × Int := if bareF m st = true then (1, 0, true, 0) else if (frL minor l).2.2.1 = true then frL minor l else (4, 0, true, 0)
noncomputable def TF1 : List (Nat × SpecE) := [(18, eLength), (25, eCoded)]
noncomputable def VF1 : VE := ⟨Tryd.prog, tabS TF1 noS, noO, fun _ => none⟩
def gFr (args : List AV) : Option (AV × (FL → Option (Bool × AV))) := match args with | [.int .i64 minor, x] => some (x, fun l => some (true, frV (frL minor l))) | _ => none
noncomputable def TF2 : List (Nat × SpecE) := [(21, eFl gFr), (15, flatE gBare)]
noncomputable def VF2 : VE := ⟨Tryd.prog, tabS TF2 noS, noO, fun _ => none⟩

noncomputable def vBare  (m : List UInt8) (st : Int) : Prop := vcF VF1 [] 300 [] [(9, .int .i64 0), (19, .int .i64 0)] 15 [.str m, .int .i64 st] [] (one (.bool (bareF m st)))
noncomputable def vFrameN  (minor : Int) (te : Nat) : Prop := vcF VF1 [] 300 [] [] 21 [.int .i64 minor, .nilsl] [gErr te] (outGn (frV (frL minor [])) te)
noncomputable def vFrameZ  (minor : Int) (te : Nat) : Prop := vcF VF1 [] 300 [] [] 21 [.int .i64 minor, .slz] [gErr te] (outGn (frV (frL minor [])) te)
noncomputable def vFrame  (l r : FL) (e : Nat) (ro : Bool) (c : Nat) (ex : Bool) (minor : Int) (te : Nat) : Prop := vcF VF1 [] 300 [] [] 21 [.int .i64 minor, .sl 1 0 l.length c ex] [gErr te, .cells (fieldC (l ++ r)) e ro] (outG l r e ro (frV (frL minor l)) te)
noncomputable def vReqN  (minor : Int) (te : Nat) : Prop := vcF VF2 [] 300 [] [] 12 [.int .i64 minor, .nilsl] [gErr te] (outGn (rqV (frL minor [])) te)
noncomputable def vReqZ  (minor : Int) (te : Nat) : Prop := vcF VF2 [] 300 [] [] 12 [.int .i64 minor, .slz] [gErr te] (outGn (rqV (frL minor [])) te)
noncomputable def vReq  (l r : FL) (e : Nat) (ro : Bool) (c : Nat) (ex : Bool) (minor : Int) (te : Nat) : Prop := vcF VF2 [] 300 [] [] 12 [.int .i64 minor, .sl 1 0 l.length c ex] [gErr te, .cells (fieldC (l ++ r)) e ro] (outG l r e ro (rqV (frL minor l)) te)
noncomputable def vRespN  (m : List UInt8) (st minor : Int) (te : Nat) : Prop := vcF VF2 [] 300 [] [] 13 [.str m, .int .i64 st, .int .i64 minor, .nilsl] [gErr te] (outGn (rqV (rsF m st minor [])) te)
noncomputable def vRespZ  (m : List UInt8) (st minor : Int) (te : Nat) : Prop := vcF VF2 [] 300 [] [] 13 [.str m, .int .i64 st, .int .i64 minor, .slz] [gErr te] (outGn (rqV (rsF m st minor [])) te)
noncomputable def vResp  (l r : FL) (e : Nat) (ro : Bool) (c : Nat) (ex : Bool) (m : List UInt8) (st minor : Int) (te : Nat) : Prop := vcF VF2 [] 300 [] [] 13 [.str m, .int .i64 st, .int .i64 minor, .sl 1 0 l.length c ex] [gErr te, .cells (fieldC (l ++ r)) e ro] (outG l r e ro (rqV (rsF m st minor l)) te)
theorem vBare_eq  (m : List UInt8) (st : Int) : vBare m st = (bif decide (m = [(72 : UInt8), (69 : UInt8), (65 : UInt8), (68 : UInt8)]) then bif decide (m = [(72 : UInt8), (69 : UInt8), (65 : UInt8), (68 : UInt8)]) then ∃ (_x : Unit), True ∧ True ∧ true = bareF m st ∧ True else bif decide (m = [(67 : UInt8), (79 : UInt8), (78 : UInt8), (78 : UInt8), (69 : UInt8), (67 : UInt8), (84 : UInt8)]) then bif leI (-9223372036854775808 : Int) (st.tdiv (100 : Int)) && leI (st.tdiv (100 : Int)) (9223372036854775807 : Int) then ∃ (_x : Unit), True ∧ True ∧ eqI (st.tdiv (100 : Int)) (2 : Int) = bareF m st ∧ True else False else ∃ (_x : Unit), True ∧ True ∧ false = bareF m st ∧ True else bif leI (-9223372036854775808 : Int) (st.tdiv (100 : Int)) && leI (st.tdiv (100 : Int)) (9223372036854775807 : Int) then bif eqI (st.tdiv (100 : Int)) (1 : Int) then bif eqI (st.tdiv (100 : Int)) (1 : Int) then ∃ (_x : Unit), True ∧ True ∧ true = bareF m st ∧ True else bif decide (m = [(67 : UInt8), (79 : UInt8), (78 : UInt8), (78 : UInt8), (69 : UInt8), (67 : UInt8), (84 : UInt8)]) then bif leI (-9223372036854775808 : Int) (st.tdiv (100 : Int)) && leI (st.tdiv (100 : Int)) (9223372036854775807 : Int) then ∃ (_x : Unit), True ∧ True ∧ eqI (st.tdiv (100 : Int)) (2 : Int) = bareF m st ∧ True else False else ∃ (_x : Unit), True ∧ True ∧ false = bareF m st ∧ True else bif eqI st (204 : Int) then bif eqI st (204 : Int) then ∃ (_x : Unit), True ∧ True ∧ true = bareF m st ∧ True else bif decide (m = [(67 : UInt8), (79 : UInt8), (78 : UInt8), (78 : UInt8), (69 : UInt8), (67 : UInt8), (84 : UInt8)]) then bif leI (-9223372036854775808 : Int) (st.tdiv (100 : Int)) && leI (st.tdiv (100 : Int)) (9223372036854775807 : Int) then ∃ (_x : Unit), True ∧ True ∧ eqI (st.tdiv (100 : Int)) (2 : Int) = bareF m st ∧ True else False else ∃ (_x : Unit), True ∧ True ∧ false = bareF m st ∧ True else bif eqI st (304 : Int) then ∃ (_x : Unit), True ∧ True ∧ true = bareF m st ∧ True else bif decide (m = [(67 : UInt8), (79 : UInt8), (78 : UInt8), (78 : UInt8), (69 : UInt8), (67 : UInt8), (84 : UInt8)]) then bif leI (-9223372036854775808 : Int) (st.tdiv (100 : Int)) && leI (st.tdiv (100 : Int)) (9223372036854775807 : Int) then ∃ (_x : Unit), True ∧ True ∧ eqI (st.tdiv (100 : Int)) (2 : Int) = bareF m st ∧ True else False else ∃ (_x : Unit), True ∧ True ∧ false = bareF m st ∧ True else False) := by kernel_rfl
theorem vFrameN_eq  (minor : Int) (te : Nat) : vFrameN minor te = ((True ∧ true = true) ∧ (True ∧ true = true) ∧ ∃ (_x : Unit), True ∧ (((1 : Nat) = (1 : Nat) ∧ (te = te ∧ True) ∧ True) ∧ True) ∧ ((((1 : Int) = (1 : Int) ∧ (0 : Int) = (0 : Int) ∧ True) ∧ True) ∧ false = false ∧ (0 : Int) = (0 : Int) ∧ True) ∧ True) := by kernel_rfl
theorem vFrameZ_eq  (minor : Int) (te : Nat) : vFrameZ minor te = ((True ∧ true = true) ∧ (True ∧ true = true) ∧ ∃ (_x : Unit), True ∧ (((1 : Nat) = (1 : Nat) ∧ (te = te ∧ True) ∧ True) ∧ True) ∧ ((((1 : Int) = (1 : Int) ∧ (0 : Int) = (0 : Int) ∧ True) ∧ True) ∧ false = false ∧ (0 : Int) = (0 : Int) ∧ True) ∧ True) := by kernel_rfl
theorem vFrame_eq  (l r : FL) (e : Nat) (ro : Bool) (c : Nat) (ex : Bool) (minor : Int) (te : Nat) : vFrame l r e ro c ex minor te = ((fldOk (fieldC (l ++ r)) (List.length l) ∧ true = true) ∧ (fldOk (fieldC (l ++ r)) (List.length l) ∧ true = true) ∧ bif codT (fldT (fieldC (l ++ r)) (List.length l)) then bif eqI minor (0 : Int) then ∃ (_x : Unit), True ∧ (((1 : Nat) = (1 : Nat) ∧ (te = te ∧ True) ∧ True) ∧ (bif e.beq e && sameB ro ro then cellsP (fun (b : Nat) => [(0 : Nat), (1 : Nat)].getD b (3 : Nat)) (fieldC (l ++ r)) (fieldC (l ++ r)) ∧ True else False) ∧ True) ∧ ((((0 : Int) = (frL minor l).fst ∧ (0 : Int) = (frL minor l).snd.fst ∧ True) ∧ True) ∧ true = (frL minor l).snd.snd.fst ∧ (400 : Int) = (frL minor l).snd.snd.snd ∧ True) ∧ True else bif lenT (fldT (fieldC (l ++ r)) (List.length l)) then ∃ (_x : Unit), True ∧ (((1 : Nat) = (1 : Nat) ∧ (te = te ∧ True) ∧ True) ∧ (bif e.beq e && sameB ro ro then cellsP (fun (b : Nat) => [(0 : Nat), (1 : Nat)].getD b (3 : Nat)) (fieldC (l ++ r)) (fieldC (l ++ r)) ∧ True else False) ∧ True) ∧ ((((0 : Int) = (frL minor l).fst ∧ (0 : Int) = (frL minor l).snd.fst ∧ True) ∧ True) ∧ true = (frL minor l).snd.snd.fst ∧ (400 : Int) = (frL minor l).snd.snd.snd ∧ True) ∧ True else bif codT (fldT (fieldC (l ++ r)) (List.length l)) then bif !eqI (codS (fldT (fieldC (l ++ r)) (List.length l))) (0 : Int) then ∃ (_x : Unit), True ∧ (((1 : Nat) = (1 : Nat) ∧ (te = te ∧ True) ∧ True) ∧ (bif e.beq e && sameB ro ro then cellsP (fun (b : Nat) => [(0 : Nat), (1 : Nat)].getD b (3 : Nat)) (fieldC (l ++ r)) (fieldC (l ++ r)) ∧ True else False) ∧ True) ∧ ((((0 : Int) = (frL minor l).fst ∧ (0 : Int) = (frL minor l).snd.fst ∧ True) ∧ True) ∧ true = (frL minor l).snd.snd.fst ∧ codS (fldT (fieldC (l ++ r)) (List.length l)) = (frL minor l).snd.snd.snd ∧ True) ∧ True else bif codT (fldT (fieldC (l ++ r)) (List.length l)) then ∃ (_x : Unit), True ∧ (((1 : Nat) = (1 : Nat) ∧ (te = te ∧ True) ∧ True) ∧ (bif e.beq e && sameB ro ro then cellsP (fun (b : Nat) => [(0 : Nat), (1 : Nat)].getD b (3 : Nat)) (fieldC (l ++ r)) (fieldC (l ++ r)) ∧ True else False) ∧ True) ∧ ((((3 : Int) = (frL minor l).fst ∧ (0 : Int) = (frL minor l).snd.fst ∧ True) ∧ True) ∧ true = (frL minor l).snd.snd.fst ∧ (0 : Int) = (frL minor l).snd.snd.snd ∧ True) ∧ True else bif !eqI (lenS (fldT (fieldC (l ++ r)) (List.length l))) (0 : Int) then ∃ (_x : Unit), True ∧ (((1 : Nat) = (1 : Nat) ∧ (te = te ∧ True) ∧ True) ∧ (bif e.beq e && sameB ro ro then cellsP (fun (b : Nat) => [(0 : Nat), (1 : Nat)].getD b (3 : Nat)) (fieldC (l ++ r)) (fieldC (l ++ r)) ∧ True else False) ∧ True) ∧ ((((0 : Int) = (frL minor l).fst ∧ (0 : Int) = (frL minor l).snd.fst ∧ True) ∧ True) ∧ true = (frL minor l).snd.snd.fst ∧ lenS (fldT (fieldC (l ++ r)) (List.length l)) = (frL minor l).snd.snd.snd ∧ True) ∧ True else bif ltI (0 : Int) (lenN (fldT (fieldC (l ++ r)) (List.length l))) then ∃ (_x : Unit), True ∧ (((1 : Nat) = (1 : Nat) ∧ (te = te ∧ True) ∧ True) ∧ (bif e.beq e && sameB ro ro then cellsP (fun (b : Nat) => [(0 : Nat), (1 : Nat)].getD b (3 : Nat)) (fieldC (l ++ r)) (fieldC (l ++ r)) ∧ True else False) ∧ True) ∧ ((((2 : Int) = (frL minor l).fst ∧ lenN (fldT (fieldC (l ++ r)) (List.length l)) = (frL minor l).snd.fst ∧ True) ∧ True) ∧ true = (frL minor l).snd.snd.fst ∧ (0 : Int) = (frL minor l).snd.snd.snd ∧ True) ∧ True else ∃ (_x : Unit), True ∧ (((1 : Nat) = (1 : Nat) ∧ (te = te ∧ True) ∧ True) ∧ (bif e.beq e && sameB ro ro then cellsP (fun (b : Nat) => [(0 : Nat), (1 : Nat)].getD b (3 : Nat)) (fieldC (l ++ r)) (fieldC (l ++ r)) ∧ True else False) ∧ True) ∧ ((((1 : Int) = (frL minor l).fst ∧ (0 : Int) = (frL minor l).snd.fst ∧ True) ∧ True) ∧ lenT (fldT (fieldC (l ++ r)) (List.length l)) = (frL minor l).snd.snd.fst ∧ (0 : Int) = (frL minor l).snd.snd.snd ∧ True) ∧ True else bif codT (fldT (fieldC (l ++ r)) (List.length l)) then ∃ (_x : Unit), True ∧ (((1 : Nat) = (1 : Nat) ∧ (te = te ∧ True) ∧ True) ∧ (bif e.beq e && sameB ro ro then cellsP (fun (b : Nat) => [(0 : Nat), (1 : Nat)].getD b (3 : Nat)) (fieldC (l ++ r)) (fieldC (l ++ r)) ∧ True else False) ∧ True) ∧ ((((3 : Int) = (frL minor l).fst ∧ (0 : Int) = (frL minor l).snd.fst ∧ True) ∧ True) ∧ true = (frL minor l).snd.snd.fst ∧ (0 : Int) = (frL minor l).snd.snd.snd ∧ True) ∧ True else bif !eqI (lenS (fldT (fieldC (l ++ r)) (List.length l))) (0 : Int) then ∃ (_x : Unit), True ∧ (((1 : Nat) = (1 : Nat) ∧ (te = te ∧ True) ∧ True) ∧ (bif e.beq e && sameB ro ro then cellsP (fun (b : Nat) => [(0 : Nat), (1 : Nat)].getD b (3 : Nat)) (fieldC (l ++ r)) (fieldC (l ++ r)) ∧ True else False) ∧ True) ∧ ((((0 : Int) = (frL minor l).fst ∧ (0 : Int) = (frL minor l).snd.fst ∧ True) ∧ True) ∧ true = (frL minor l).snd.snd.fst ∧ lenS (fldT (fieldC (l ++ r)) (List.length l)) = (frL minor l).snd.snd.snd ∧ True) ∧ True else bif ltI (0 : Int) (lenN (fldT (fieldC (l ++ r)) (List.length l))) then ∃ (_x : Unit), True ∧ (((1 : Nat) = (1 : Nat) ∧ (te = te ∧ True) ∧ True) ∧ (bif e.beq e && sameB ro ro then cellsP (fun (b : Nat) => [(0 : Nat), (1 : Nat)].getD b (3 : Nat)) (fieldC (l ++ r)) (fieldC (l ++ r)) ∧ True else False) ∧ True) ∧ ((((2 : Int) = (frL minor l).fst ∧ lenN (fldT (fieldC (l ++ r)) (List.length l)) = (frL minor l).snd.fst ∧ True) ∧ True) ∧ true = (frL minor l).snd.snd.fst ∧ (0 : Int) = (frL minor l).snd.snd.snd ∧ True) ∧ True else ∃ (_x : Unit), True ∧ (((1 : Nat) = (1 : Nat) ∧ (te = te ∧ True) ∧ True) ∧ (bif e.beq e && sameB ro ro then cellsP (fun (b : Nat) => [(0 : Nat), (1 : Nat)].getD b (3 : Nat)) (fieldC (l ++ r)) (fieldC (l ++ r)) ∧ True else False) ∧ True) ∧ ((((1 : Int) = (frL minor l).fst ∧ (0 : Int) = (frL minor l).snd.fst ∧ True) ∧ True) ∧ lenT (fldT (fieldC (l ++ r)) (List.length l)) = (frL minor l).snd.snd.fst ∧ (0 : Int) = (frL minor l).snd.snd.snd ∧ True) ∧ True else bif codT (fldT (fieldC (l ++ r)) (List.length l)) then bif !eqI (codS (fldT (fieldC (l ++ r)) (List.length l))) (0 : Int) then ∃ (_x : Unit), True ∧ (((1 : Nat) = (1 : Nat) ∧ (te = te ∧ True) ∧ True) ∧ (bif e.beq e && sameB ro ro then cellsP (fun (b : Nat) => [(0 : Nat), (1 : Nat)].getD b (3 : Nat)) (fieldC (l ++ r)) (fieldC (l ++ r)) ∧ True else False) ∧ True) ∧ ((((0 : Int) = (frL minor l).fst ∧ (0 : Int) = (frL minor l).snd.fst ∧ True) ∧ True) ∧ true = (frL minor l).snd.snd.fst ∧ codS (fldT (fieldC (l ++ r)) (List.length l)) = (frL minor l).snd.snd.snd ∧ True) ∧ True else bif codT (fldT (fieldC (l ++ r)) (List.length l)) then ∃ (_x : Unit), True ∧ (((1 : Nat) = (1 : Nat) ∧ (te = te ∧ True) ∧ True) ∧ (bif e.beq e && sameB ro ro then cellsP (fun (b : Nat) => [(0 : Nat), (1 : Nat)].getD b (3 : Nat)) (fieldC (l ++ r)) (fieldC (l ++ r)) ∧ True else False) ∧ True) ∧ ((((3 : Int) = (frL minor l).fst ∧ (0 : Int) = (frL minor l).snd.fst ∧ True) ∧ True) ∧ true = (frL minor l).snd.snd.fst ∧ (0 : Int) = (frL minor l).snd.snd.snd ∧ True) ∧ True else bif !eqI (lenS (fldT (fieldC (l ++ r)) (List.length l))) (0 : Int) then ∃ (_x : Unit), True ∧ (((1 : Nat) = (1 : Nat) ∧ (te = te ∧ True) ∧ True) ∧ (bif e.beq e && sameB ro ro then cellsP (fun (b : Nat) => [(0 : Nat), (1 : Nat)].getD b (3 : Nat)) (fieldC (l ++ r)) (fieldC (l ++ r)) ∧ True else False) ∧ True) ∧ ((((0 : Int) = (frL minor l).fst ∧ (0 : Int) = (frL minor l).snd.fst ∧ True) ∧ True) ∧ true = (frL minor l).snd.snd.fst ∧ lenS (fldT (fieldC (l ++ r)) (List.length l)) = (frL minor l).snd.snd.snd ∧ True) ∧ True else bif ltI (0 : Int) (lenN (fldT (fieldC (l ++ r)) (List.length l))) then ∃ (_x : Unit), True ∧ (((1 : Nat) = (1 : Nat) ∧ (te = te ∧ True) ∧ True) ∧ (bif e.beq e && sameB ro ro then cellsP (fun (b : Nat) => [(0 : Nat), (1 : Nat)].getD b (3 : Nat)) (fieldC (l ++ r)) (fieldC (l ++ r)) ∧ True else False) ∧ True) ∧ ((((2 : Int) = (frL minor l).fst ∧ lenN (fldT (fieldC (l ++ r)) (List.length l)) = (frL minor l).snd.fst ∧ True) ∧ True) ∧ true = (frL minor l).snd.snd.fst ∧ (0 : Int) = (frL minor l).snd.snd.snd ∧ True) ∧ True else ∃ (_x : Unit), True ∧ (((1 : Nat) = (1 : Nat) ∧ (te = te ∧ True) ∧ True) ∧ (bif e.beq e && sameB ro ro then cellsP (fun (b : Nat) => [(0 : Nat), (1 : Nat)].getD b (3 : Nat)) (fieldC (l ++ r)) (fieldC (l ++ r)) ∧ True else False) ∧ True) ∧ ((((1 : Int) = (frL minor l).fst ∧ (0 : Int) = (frL minor l).snd.fst ∧ True) ∧ True) ∧ lenT (fldT (fieldC (l ++ r)) (List.length l)) = (frL minor l).snd.snd.fst ∧ (0 : Int) = (frL minor l).snd.snd.snd ∧ True) ∧ True else bif codT (fldT (fieldC (l ++ r)) (List.length l)) then ∃ (_x : Unit), True ∧ (((1 : Nat) = (1 : Nat) ∧ (te = te ∧ True) ∧ True) ∧ (bif e.beq e && sameB ro ro then cellsP (fun (b : Nat) => [(0 : Nat), (1 : Nat)].getD b (3 : Nat)) (fieldC (l ++ r)) (fieldC (l ++ r)) ∧ True else False) ∧ True) ∧ ((((3 : Int) = (frL minor l).fst ∧ (0 : Int) = (frL minor l).snd.fst ∧ True) ∧ True) ∧ true = (frL minor l).snd.snd.fst ∧ (0 : Int) = (frL minor l).snd.snd.snd ∧ True) ∧ True else bif !eqI (lenS (fldT (fieldC (l ++ r)) (List.length l))) (0 : Int) then ∃ (_x : Unit), True ∧ (((1 : Nat) = (1 : Nat) ∧ (te = te ∧ True) ∧ True) ∧ (bif e.beq e && sameB ro ro then cellsP (fun (b : Nat) => [(0 : Nat), (1 : Nat)].getD b (3 : Nat)) (fieldC (l ++ r)) (fieldC (l ++ r)) ∧ True else False) ∧ True) ∧ ((((0 : Int) = (frL minor l).fst ∧ (0 : Int) = (frL minor l).snd.fst ∧ True) ∧ True) ∧ true = (frL minor l).snd.snd.fst ∧ lenS (fldT (fieldC (l ++ r)) (List.length l)) = (frL minor l).snd.snd.snd ∧ True) ∧ True else bif ltI (0 : Int) (lenN (fldT (fieldC (l ++ r)) (List.length l))) then ∃ (_x : Unit), True ∧ (((1 : Nat) = (1 : Nat) ∧ (te = te ∧ True) ∧ True) ∧ (bif e.beq e && sameB ro ro then cellsP (fun (b : Nat) => [(0 : Nat), (1 : Nat)].getD b (3 : Nat)) (fieldC (l ++ r)) (fieldC (l ++ r)) ∧ True else False) ∧ True) ∧ ((((2 : Int) = (frL minor l).fst ∧ lenN (fldT (fieldC (l ++ r)) (List.length l)) = (frL minor l).snd.fst ∧ True) ∧ True) ∧ true = (frL minor l).snd.snd.fst ∧ (0 : Int) = (frL minor l).snd.snd.snd ∧ True) ∧ True else ∃ (_x : Unit), True ∧ (((1 : Nat) = (1 : Nat) ∧ (te = te ∧ True) ∧ True) ∧ (bif e.beq e && sameB ro ro then cellsP (fun (b : Nat) => [(0 : Nat), (1 : Nat)].getD b (3 : Nat)) (fieldC (l ++ r)) (fieldC (l ++ r)) ∧ True else False) ∧ True) ∧ ((((1 : Int) = (frL minor l).fst ∧ (0 : Int) = (frL minor l).snd.fst ∧ True) ∧ True) ∧ lenT (fldT (fieldC (l ++ r)) (List.length l)) = (frL minor l).snd.snd.fst ∧ (0 : Int) = (frL minor l).snd.snd.snd ∧ True) ∧ True) := by kernel_rfl
theorem vReqN_eq  (minor : Int) (te : Nat) : vReqN minor te = ((True ∧ true = true) ∧ ∃ (_x : Unit), True ∧ (((1 : Nat) = (1 : Nat) ∧ (te = te ∧ True) ∧ True) ∧ True) ∧ ((((1 : Int) = (1 : Int) ∧ (0 : Int) = (0 : Int) ∧ True) ∧ True) ∧ (0 : Int) = (0 : Int) ∧ True) ∧ True) := by kernel_rfl
theorem vReqZ_eq  (minor : Int) (te : Nat) : vReqZ minor te = ((True ∧ true = true) ∧ ∃ (_x : Unit), True ∧ (((1 : Nat) = (1 : Nat) ∧ (te = te ∧ True) ∧ True) ∧ True) ∧ ((((1 : Int) = (1 : Int) ∧ (0 : Int) = (0 : Int) ∧ True) ∧ True) ∧ (0 : Int) = (0 : Int) ∧ True) ∧ True) := by kernel_rfl
theorem vReq_eq  (l r : FL) (e : Nat) (ro : Bool) (c : Nat) (ex : Bool) (minor : Int) (te : Nat) : vReq l r e ro c ex minor te = ((fldOk (fieldC (l ++ r)) (List.length l) ∧ true = true) ∧ ∃ (_x : Unit), True ∧ (((1 : Nat) = (1 : Nat) ∧ (te = te ∧ True) ∧ True) ∧ (bif e.beq e && sameB ro ro then cellsP (fun (b : Nat) => [(0 : Nat), (1 : Nat)].getD b (4 : Nat)) (fieldC (l ++ r)) (fieldC (l ++ r)) ∧ True else False) ∧ True) ∧ ((((frL minor (fldT (fieldC (l ++ r)) (List.length l))).fst = (frL minor l).fst ∧ (frL minor (fldT (fieldC (l ++ r)) (List.length l))).snd.fst = (frL minor l).snd.fst ∧ True) ∧ True) ∧ (frL minor (fldT (fieldC (l ++ r)) (List.length l))).snd.snd.snd = (frL minor l).snd.snd.snd ∧ True) ∧ True) := by kernel_rfl
theorem vRespN_eq  (m : List UInt8) (st minor : Int) (te : Nat) : vRespN m st minor te = (bif leI (-9223372036854775808 : Int) st && leI st (9223372036854775807 : Int) then bif bareF m st then ∃ (_x : Unit), True ∧ (((1 : Nat) = (1 : Nat) ∧ (te = te ∧ True) ∧ True) ∧ True) ∧ ((((1 : Int) = (rsF m st minor []).fst ∧ (0 : Int) = (rsF m st minor []).snd.fst ∧ True) ∧ True) ∧ (0 : Int) = (rsF m st minor []).snd.snd.snd ∧ True) ∧ True else (True ∧ true = true) ∧ ∃ (_x : Unit), True ∧ (((1 : Nat) = (1 : Nat) ∧ (te = te ∧ True) ∧ True) ∧ True) ∧ ((((4 : Int) = (rsF m st minor []).fst ∧ (0 : Int) = (rsF m st minor []).snd.fst ∧ True) ∧ True) ∧ (0 : Int) = (rsF m st minor []).snd.snd.snd ∧ True) ∧ True else False) := by kernel_rfl
theorem vRespZ_eq  (m : List UInt8) (st minor : Int) (te : Nat) : vRespZ m st minor te = (bif leI (-9223372036854775808 : Int) st && leI st (9223372036854775807 : Int) then bif bareF m st then ∃ (_x : Unit), True ∧ (((1 : Nat) = (1 : Nat) ∧ (te = te ∧ True) ∧ True) ∧ True) ∧ ((((1 : Int) = (rsF m st minor []).fst ∧ (0 : Int) = (rsF m st minor []).snd.fst ∧ True) ∧ True) ∧ (0 : Int) = (rsF m st minor []).snd.snd.snd ∧ True) ∧ True else (True ∧ true = true) ∧ ∃ (_x : Unit), True ∧ (((1 : Nat) = (1 : Nat) ∧ (te = te ∧ True) ∧ True) ∧ True) ∧ ((((4 : Int) = (rsF m st minor []).fst ∧ (0 : Int) = (rsF m st minor []).snd.fst ∧ True) ∧ True) ∧ (0 : Int) = (rsF m st minor []).snd.snd.snd ∧ True) ∧ True else False) := by kernel_rfl
theorem vResp_eq  (l r : FL) (e : Nat) (ro : Bool) (c : Nat) (ex : Bool) (m : List UInt8) (st minor : Int) (te : Nat) : vResp l r e ro c ex m st minor te = (bif leI (-9223372036854775808 : Int) st && leI st (9223372036854775807 : Int) then bif bareF m st then ∃ (_x : Unit), True ∧ (((1 : Nat) = (1 : Nat) ∧ (te = te ∧ True) ∧ True) ∧ (bif e.beq e && sameB ro ro then cellsP (fun (b : Nat) => [(0 : Nat), (1 : Nat)].getD b (3 : Nat)) (fieldC (l ++ r)) (fieldC (l ++ r)) ∧ True else False) ∧ True) ∧ ((((1 : Int) = (rsF m st minor l).fst ∧ (0 : Int) = (rsF m st minor l).snd.fst ∧ True) ∧ True) ∧ (0 : Int) = (rsF m st minor l).snd.snd.snd ∧ True) ∧ True else (fldOk (fieldC (l ++ r)) (List.length l) ∧ true = true) ∧ bif !(frL minor (fldT (fieldC (l ++ r)) (List.length l))).snd.snd.fst then ∃ (_x : Unit), True ∧ (((1 : Nat) = (1 : Nat) ∧ (te = te ∧ True) ∧ True) ∧ (bif e.beq e && sameB ro ro then cellsP (fun (b : Nat) => [(0 : Nat), (1 : Nat)].getD b (4 : Nat)) (fieldC (l ++ r)) (fieldC (l ++ r)) ∧ True else False) ∧ True) ∧ ((((4 : Int) = (rsF m st minor l).fst ∧ (0 : Int) = (rsF m st minor l).snd.fst ∧ True) ∧ True) ∧ (0 : Int) = (rsF m st minor l).snd.snd.snd ∧ True) ∧ True else ∃ (_x : Unit), True ∧ (((1 : Nat) = (1 : Nat) ∧ (te = te ∧ True) ∧ True) ∧ (bif e.beq e && sameB ro ro then cellsP (fun (b : Nat) => [(0 : Nat), (1 : Nat)].getD b (4 : Nat)) (fieldC (l ++ r)) (fieldC (l ++ r)) ∧ True else False) ∧ True) ∧ ((((frL minor (fldT (fieldC (l ++ r)) (List.length l))).fst = (rsF m st minor l).fst ∧ (frL minor (fldT (fieldC (l ++ r)) (List.length l))).snd.fst = (rsF m st minor l).snd.fst ∧ True) ∧ True) ∧ (frL minor (fldT (fieldC (l ++ r)) (List.length l))).snd.snd.snd = (rsF m st minor l).snd.snd.snd ∧ True) ∧ True else False) := by kernel_rfl
theorem tdiv_in {st : Int} (hs : inK .i64 st = true) : -9223372036854775808 ≤ st.tdiv 100 ∧ st.tdiv 100 ≤ 9223372036854775807 := by
  simp only [inK, leI_eq, Bool.and_eq_true, decide_eq_true_eq] at hs
  by_cases h : 0 ≤ st
  · rw [Int.tdiv_eq_ediv_of_nonneg h]; omega
  · have : st.tdiv 100 = -((-st) / 100) := by
      rw [← Int.tdiv_eq_ediv_of_nonneg (show 0 ≤ -st by omega), Int.neg_tdiv, Int.neg_neg]
    omega
theorem eqI_dec (a b : Int) : eqI a b = decide (a = b) := eqI_eq a b
theorem TF1_ok : SpecOk Tryd.prog (tabS TF1 noS) := by
  refine tabS_ok (fun p hp => ?_) noS_ok
  simp only [TF1, List.mem_cons, List.mem_nil_iff, or_false] at hp
  rcases hp with rfl | rfl
  · exact eLength_ok
  · exact eCoded_ok
theorem bare_vc (m : List UInt8) (st : Int) (hs : inK .i64 st = true) : vBare m st := by
  rw [vBare_eq]
  simp only [ic, cond_F]
  simp only [cond_P, leI_t, leI_f, ltI_t, ltI_f, eqI_t, eqI_f, and_t, not_t, not_f, dec_t, dec_f, Nat.zero_add, Nat.mul_one, List.drop_zero]
  simp only [cells_tsr, cells_fld, take_ts, ts_length, and_true, true_and, and_false, false_and, or_false, false_or, exists_false, Nat.le_refl, exists_const, false_implies, not_false_eq_true, true_implies, fldT_at, fldOk_at, getS_ts]
  have hq := tdiv_in hs
  have hb : ∀ p : Prop, [Decidable p] → (p ↔ (m = headN ∨ Int.tdiv st 100 = 1 ∨ st = 204 ∨ st = 304 ∨ (m = conN ∧ Int.tdiv st 100 = 2))) → decide p = bareF m st := fun p _ h => by unfold bareF; exact decide_eq_decide.2 h
  have ht : (m = headN ∨ Int.tdiv st 100 = 1 ∨ st = 204 ∨ st = 304 ∨ (m = conN ∧ Int.tdiv st 100 = 2)) → true = bareF m st := fun h => (decide_eq_true h).symm
  have hf : ¬ (m = headN ∨ Int.tdiv st 100 = 1 ∨ st = 204 ∨ st = 304 ∨ (m = conN ∧ Int.tdiv st 100 = 2)) → false = bareF m st := fun h => (decide_eq_false h).symm
  have he : ¬ m = headN → st.tdiv 100 ≠ 1 → st ≠ 204 → st ≠ 304 → m = conN → eqI (st.tdiv 100) 2 = bareF m st := fun h1 h2 h3 h4 h5 => by
    rw [eqI_dec]
    exact hb _ ⟨fun h => .inr (.inr (.inr (.inr ⟨h5, h⟩))), fun h => by
      rcases h with h | h | h | h | h
      · exact absurd h h1
      · exact absurd h h2
      · exact absurd h h3
      · exact absurd h h4
      · exact h.2⟩
  simp only [show ([72, 69, 65, 68] : List UInt8) = headN from rfl, show ([67, 79, 78, 78, 69, 67, 84] : List UInt8) = conN from rfl]
  refine ⟨fun h => ⟨fun _ => ht (.inl h), fun h' => absurd h h'⟩, fun h => ⟨hq, fun h1 => ⟨fun _ => ht (.inr (.inl h1)), fun h' => absurd h1 h'⟩, fun h1 => ⟨fun h2 => ⟨fun _ => ht (.inr (.inr (.inl h2))), fun h' => absurd h2 h'⟩, fun h2 => ⟨fun h3 => ht (.inr (.inr (.inr (.inl h3)))), fun h3 => ⟨fun h4 => ⟨hq, he h h1 h2 h3 h4⟩, fun h4 => hf fun h5 => ?_⟩⟩⟩⟩⟩
  rcases h5 with h5 | h5 | h5 | h5 | h5
  · exact h h5
  · exact h1 h5
  · exact h2 h5
  · exact h3 h5
  · exact h4 h5.1
theorem frame_vc (l r : FL) (e : Nat) (ro : Bool) (c : Nat) (ex : Bool) (minor : Int) (te : Nat) (hl : totL l ≤ 274877906944) : vFrame l r e ro c ex minor te := by
  rw [vFrame_eq]
  simp only [ic, cond_F, sameB_self, Nat.beq_refl]
  simp only [cond_P, leI_t, leI_f, ltI_t, ltI_f, eqI_t, eqI_f, and_t, not_t, not_f, dec_t, dec_f, Nat.zero_add, Nat.mul_one, List.drop_zero]
  simp only [cells_tsr, cells_fld, take_ts, ts_length, and_true, true_and, and_false, false_and, or_false, false_or, exists_false, Nat.le_refl, exists_const, false_implies, not_false_eq_true, true_implies, fldT_at, fldOk_at, getS_ts]
  refine ⟨hl, hl, ?_⟩
  unfold frL
  generalize lenN l = n
  generalize lenS l = bad
  generalize codS l = cs
  generalize lenT l = lt
  generalize codT l = cd
  cases cd <;> cases lt <;> by_cases h1 : minor = 0 <;> by_cases h2 : cs = 0 <;> by_cases h3 : bad = 0 <;> by_cases h4 : 0 < n <;> simp [frF, h1, h2, h3, h4] <;> omega
theorem req_vc (l r : FL) (e : Nat) (ro : Bool) (c : Nat) (ex : Bool) (minor : Int) (te : Nat) (hl : totL l ≤ 274877906944) : vReq l r e ro c ex minor te := by
  rw [vReq_eq]
  simp only [ic, cond_F, sameB_self, Nat.beq_refl]
  simp only [cond_P, leI_t, leI_f, ltI_t, ltI_f, eqI_t, eqI_f, and_t, not_t, not_f, dec_t, dec_f, Nat.zero_add, Nat.mul_one, List.drop_zero]
  simp only [cells_tsr, cells_fld, take_ts, ts_length, and_true, true_and, and_false, false_and, or_false, false_or, exists_false, Nat.le_refl, exists_const, false_implies, not_false_eq_true, true_implies, fldT_at, fldOk_at, getS_ts]
  exact hl
theorem resp_vc (l r : FL) (e : Nat) (ro : Bool) (c : Nat) (ex : Bool) (m : List UInt8) (st minor : Int) (te : Nat) (hl : totL l ≤ 274877906944) (hs : inK .i64 st = true) : vResp l r e ro c ex m st minor te := by
  rw [vResp_eq]
  simp only [ic, cond_F, sameB_self, Nat.beq_refl]
  simp only [cond_P, leI_t, leI_f, ltI_t, ltI_f, eqI_t, eqI_f, and_t, not_t, not_f, dec_t, dec_f, Nat.zero_add, Nat.mul_one, List.drop_zero]
  simp only [cells_tsr, cells_fld, take_ts, ts_length, and_true, true_and, and_false, false_and, or_false, false_or, exists_false, Nat.le_refl, exists_const, false_implies, not_false_eq_true, true_implies, fldT_at, fldOk_at, getS_ts]
  have hs' := hs
  simp only [inK, leI_eq, Bool.and_eq_true, decide_eq_true_eq] at hs'
  refine ⟨hs', fun h => by simp [rsF, h], fun h => ⟨hl, fun h1 => by simp [rsF, h, h1], fun h1 => by simp [rsF, h, h1]⟩⟩
theorem frameN_vc (minor : Int) (te : Nat) : vFrameN minor te := by
  rw [vFrameN_eq]; simp
theorem frameZ_vc (minor : Int) (te : Nat) : vFrameZ minor te := by
  rw [vFrameZ_eq]; simp
theorem reqN_vc (minor : Int) (te : Nat) : vReqN minor te := by
  rw [vReqN_eq]; simp
theorem reqZ_vc (minor : Int) (te : Nat) : vReqZ minor te := by
  rw [vReqZ_eq]; simp
theorem frL_nil (minor : Int) : frL minor [] = (1, 0, false, 0) := by kernel_rfl
theorem respN_vc (m : List UInt8) (st minor : Int) (te : Nat) (hs : inK .i64 st = true) : vRespN m st minor te := by
  rw [vRespN_eq]
  simp only [cond_F]
  refine ⟨hs, ?_⟩
  cases h : bareF m st <;> simp [rsF, h, frL_nil]
theorem respZ_vc (m : List UInt8) (st minor : Int) (te : Nat) (hs : inK .i64 st = true) : vRespZ m st minor te := by
  rw [vRespZ_eq]
  simp only [cond_F]
  refine ⟨hs, ?_⟩
  cases h : bareF m st <;> simp [rsF, h, frL_nil]
theorem gBare_ok : EntryOk Tryd.prog 15 (flatE gBare) := by
  refine flatE_ok fun args b v hg hb => ?_
  unfold gBare at hg
  split at hg
  · cases hg
    exact ⟨rfl, rfl, SC.one (V := VF1) names0 mixed0 TF1_ok noO_ok (bare_vc _ _ hb)⟩
  · cases hg
theorem gFr_ok : EntryOk Tryd.prog 21 (eFl gFr) := by
  refine eFl_ok fun args x F hg => ?_
  unfold gFr at hg
  split at hg
  · rename_i minor y
    cases hg
    refine ⟨fun y => [.int .i64 minor, y], rfl, fun _ _ => rfl, fun l b v hF hb te => ?_⟩
    cases hF
    refine ⟨rfl, fun h => ?_, fun h => ?_, fun r e ro c ex ht => ?_⟩
    · subst h; exact out1 (SC.ofF (V := VF1) names0 mixed0 TF1_ok noO_ok (frameN_vc minor te))
    · subst h; exact out1 (SC.ofF (V := VF1) names0 mixed0 TF1_ok noO_ok (frameZ_vc minor te))
    · exact out1 (SC.ofF (V := VF1) names0 mixed0 TF1_ok noO_ok (frame_vc l r e ro c ex minor te ht))
  · cases hg
theorem TF2_ok : SpecOk Tryd.prog (tabS TF2 noS) := by
  refine tabS_ok (fun p hp => ?_) noS_ok
  simp only [TF2, List.mem_cons, List.mem_nil_iff, or_false] at hp
  rcases hp with rfl | rfl
  · exact gFr_ok
  · exact gBare_ok
def gReq (args : List AV) : Option (AV × (FL → Option (Bool × AV))) := match args with | [.int .i64 minor, x] => some (x, fun l => some (true, rqV (frL minor l))) | _ => none
def gResp (args : List AV) : Option (AV × (FL → Option (Bool × AV))) := match args with | [.str m, .int .i64 st, .int .i64 minor, x] => some (x, fun l => some (inK .i64 st, rqV (rsF m st minor l))) | _ => none
theorem gReq_ok : EntryOk Tryd.prog 12 (eFl gReq) := by
  refine eFl_ok fun args x F hg => ?_
  unfold gReq at hg
  split at hg
  · rename_i minor y
    cases hg
    refine ⟨fun y => [.int .i64 minor, y], rfl, fun _ _ => rfl, fun l b v hF hb te => ?_⟩
    cases hF
    refine ⟨rfl, fun h => ?_, fun h => ?_, fun r e ro c ex ht => ?_⟩
    · subst h; exact out1 (SC.ofF (V := VF2) names0 mixed0 TF2_ok noO_ok (reqN_vc minor te))
    · subst h; exact out1 (SC.ofF (V := VF2) names0 mixed0 TF2_ok noO_ok (reqZ_vc minor te))
    · exact out1 (SC.ofF (V := VF2) names0 mixed0 TF2_ok noO_ok (req_vc l r e ro c ex minor te ht))
  · cases hg
theorem gResp_ok : EntryOk Tryd.prog 13 (eFl gResp) := by
  refine eFl_ok fun args x F hg => ?_
  unfold gResp at hg
  split at hg
  · rename_i m st minor y
    cases hg
    refine ⟨fun y => [.str m, .int .i64 st, .int .i64 minor, y], rfl, fun _ _ => rfl, fun l b v hF hb te => ?_⟩
    simp only [Option.some.injEq, Prod.mk.injEq] at hF
    obtain ⟨rfl, rfl⟩ := hF
    refine ⟨rfl, fun h => ?_, fun h => ?_, fun r e ro c ex ht => ?_⟩
    · subst h; exact out1 (SC.ofF (V := VF2) names0 mixed0 TF2_ok noO_ok (respN_vc m st minor te hb))
    · subst h; exact out1 (SC.ofF (V := VF2) names0 mixed0 TF2_ok noO_ok (respZ_vc m st minor te hb))
    · exact out1 (SC.ofF (V := VF2) names0 mixed0 TF2_ok noO_ok (resp_vc l r e ro c ex m st minor te ht hb))
  · cases hg
end Go.Proofs.YtiobbjbodpkpjaaDoor

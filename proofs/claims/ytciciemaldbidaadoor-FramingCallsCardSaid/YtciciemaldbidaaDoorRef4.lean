/- The document's answers on the ends of messages. -/
import Derived.Test.YtciciemaldbidaaDoorRef2
set_option linter.unusedSimpArgs false
set_option linter.unusedVariables false
namespace Go.Proofs.YtciciemaldbidaaDoor
open Go Go.Ve
set_option maxRecDepth 20000
noncomputable def TQ : List (Nat × SpecE) := [(41, eAll), (22, eList), (42, flatE gNumR), (44, flatE gSame)]
noncomputable def VQ : VE := ⟨Tryd.prog, tabS TQ noS, noO, fun _ => none⟩
noncomputable def aLenQ (l r : FL) (ps : LL) (e : Nat) (ro : Bool) (te : Nat) : Anns := [(8, [
  .mk Nat (fun i => [(7, .int .i64 i), (6, .int .i64 (if i = 0 then 0 else numV (ps.getD 0 [])))]) (fun _ => some [gErr te, .cells (fieldC (l ++ r)) e ro, .cells (ts (allF l clN)) eT false, .cells (ts ps) eT false]) (fun i => ps ≠ [] ∧ i ≤ ps.length ∧ ∀ p ∈ ps.take i, numE p = 0 ∧ numV p = numV (ps.getD 0 [])) (fun i => ps.length - i) gcB gcB (fun i => [(29, .str (ps.getD i []))]) (fun _ => [])])]
noncomputable def TQ1 : List (Nat × SpecE) := [(14, eLength), (16, eCoded)]
noncomputable def VQ1 : VE := ⟨Tryd.prog, tabS TQ1 noS, noO, fun _ => none⟩
noncomputable def TQ2 : List (Nat × SpecE) := [(37, eFl gFr), (18, flatE gBare)]
noncomputable def VQ2 : VE := ⟨Tryd.prog, tabS TQ2 noS, noO, fun _ => none⟩

noncomputable def vLenQN  (te : Nat) : Prop := vcF VQ [] 300 [] [] 14 [.nilsl] [gErr te] (outGn (lenV []) te)
noncomputable def vLenQZ  (te : Nat) : Prop := vcF VQ [] 300 [] [] 14 [.slz] [gErr te] (outGn (lenV []) te)
noncomputable def vLenQ  (l r : FL) (e : Nat) (ro : Bool) (c : Nat) (ex : Bool) (te : Nat) : Prop := vcF VQ [] 300 (aLenQ l r (listF l clN) e ro te) [] 14 [.sl 1 0 l.length c ex] [gErr te, .cells (fieldC (l ++ r)) e ro] (outG l r e ro (lenV l) te)
noncomputable def vCodQN  (te : Nat) : Prop := vcF VQ [] 300 [] [] 16 [.nilsl] [gErr te] (outGn (codV []) te)
noncomputable def vCodQZ  (te : Nat) : Prop := vcF VQ [] 300 [] [] 16 [.slz] [gErr te] (outGn (codV []) te)
noncomputable def vCodQ  (l r : FL) (e : Nat) (ro : Bool) (c : Nat) (ex : Bool) (te : Nat) : Prop := vcF VQ [] 300 [] [(17, .str ((listF l teN).getD 0 []))] 16 [.sl 1 0 l.length c ex] [gErr te, .cells (fieldC (l ++ r)) e ro] (outG l r e ro (codV l) te)
noncomputable def vBareQ  (m : List UInt8) (st : Int) : Prop := vcF VQ1 [] 300 [] [] 18 [.str m, .int .i64 st] [] (one (.bool (bareF m st)))
noncomputable def vFrameQN  (minor : Int) (te : Nat) : Prop := vcF VQ1 [] 300 [] [] 37 [.int .i64 minor, .nilsl] [gErr te] (outGn (frV (frL minor [])) te)
noncomputable def vFrameQZ  (minor : Int) (te : Nat) : Prop := vcF VQ1 [] 300 [] [] 37 [.int .i64 minor, .slz] [gErr te] (outGn (frV (frL minor [])) te)
noncomputable def vFrameQ  (l r : FL) (e : Nat) (ro : Bool) (c : Nat) (ex : Bool) (minor : Int) (te : Nat) : Prop := vcF VQ1 [] 300 [] [] 37 [.int .i64 minor, .sl 1 0 l.length c ex] [gErr te, .cells (fieldC (l ++ r)) e ro] (outG l r e ro (frV (frL minor l)) te)
noncomputable def vReqQN  (minor : Int) (te : Nat) : Prop := vcF VQ2 [] 300 [] [] 10 [.int .i64 minor, .nilsl] [gErr te] (outGn (rqV (frL minor [])) te)
noncomputable def vReqQZ  (minor : Int) (te : Nat) : Prop := vcF VQ2 [] 300 [] [] 10 [.int .i64 minor, .slz] [gErr te] (outGn (rqV (frL minor [])) te)
noncomputable def vReqQ  (l r : FL) (e : Nat) (ro : Bool) (c : Nat) (ex : Bool) (minor : Int) (te : Nat) : Prop := vcF VQ2 [] 300 [] [] 10 [.int .i64 minor, .sl 1 0 l.length c ex] [gErr te, .cells (fieldC (l ++ r)) e ro] (outG l r e ro (rqV (frL minor l)) te)
noncomputable def vRespQN  (m : List UInt8) (st minor : Int) (te : Nat) : Prop := vcF VQ2 [] 300 [] [] 12 [.str m, .int .i64 st, .int .i64 minor, .nilsl] [gErr te] (outGn (rqV (rsF m st minor [])) te)
noncomputable def vRespQZ  (m : List UInt8) (st minor : Int) (te : Nat) : Prop := vcF VQ2 [] 300 [] [] 12 [.str m, .int .i64 st, .int .i64 minor, .slz] [gErr te] (outGn (rqV (rsF m st minor [])) te)
noncomputable def vRespQ  (l r : FL) (e : Nat) (ro : Bool) (c : Nat) (ex : Bool) (m : List UInt8) (st minor : Int) (te : Nat) : Prop := vcF VQ2 [] 300 [] [] 12 [.str m, .int .i64 st, .int .i64 minor, .sl 1 0 l.length c ex] [gErr te, .cells (fieldC (l ++ r)) e ro] (outG l r e ro (rqV (rsF m st minor l)) te)
theorem vLenQN_eq  (te : Nat) : vLenQN te = (∃ (_x : Unit), True ∧ (((1 : Nat) = (1 : Nat) ∧ (te = te ∧ True) ∧ True) ∧ True) ∧ ((0 : Int) = (0 : Int) ∧ false = false ∧ (0 : Int) = (0 : Int) ∧ True) ∧ True) := by kernel_rfl
theorem vLenQZ_eq  (te : Nat) : vLenQZ te = (∃ (_x : Unit), True ∧ (((1 : Nat) = (1 : Nat) ∧ (te = te ∧ True) ∧ True) ∧ True) ∧ ((0 : Int) = (0 : Int) ∧ false = false ∧ (0 : Int) = (0 : Int) ∧ True) ∧ True) := by kernel_rfl
theorem vLenQ_eq  (l r : FL) (e : Nat) (ro : Bool) (c : Nat) (ex : Bool) (te : Nat) : vLenQ l r e ro c ex te = ((fldOk (fieldC (l ++ r)) (List.length l) ∧ true = true) ∧ bif decide (allF (fldT (fieldC (l ++ r)) (List.length l)) [(67 : UInt8), (111 : UInt8), (110 : UInt8), (116 : UInt8), (101 : UInt8), (110 : UInt8), (116 : UInt8), (45 : UInt8), (76 : UInt8), (101 : UInt8), (110 : UInt8), (103 : UInt8), (116 : UInt8), (104 : UInt8)] = []) then ∃ (_x : Unit), True ∧ (((1 : Nat) = (1 : Nat) ∧ (te = te ∧ True) ∧ True) ∧ (bif e.beq e && sameB ro ro then cellsP (fun (b : Nat) => [(0 : Nat), (1 : Nat)].getD b (2 : Nat)) (fieldC (l ++ r)) (fieldC (l ++ r)) ∧ True else False) ∧ True) ∧ ((0 : Int) = lenN l ∧ false = lenT l ∧ (0 : Int) = lenS l ∧ True) ∧ True else bif eqI (ic (List.length (allF (fldT (fieldC (l ++ r)) (List.length l)) [(67 : UInt8), (111 : UInt8), (110 : UInt8), (116 : UInt8), (101 : UInt8), (110 : UInt8), (116 : UInt8), (45 : UInt8), (76 : UInt8), (101 : UInt8), (110 : UInt8), (103 : UInt8), (116 : UInt8), (104 : UInt8)]))) (0 : Int) then ∃ (_x : Unit), True ∧ (((1 : Nat) = (1 : Nat) ∧ (te = te ∧ True) ∧ True) ∧ (bif e.beq e && sameB ro ro then cellsP (fun (b : Nat) => [(0 : Nat), (1 : Nat)].getD b (3 : Nat)) (fieldC (l ++ r)) (fieldC (l ++ r)) ∧ True else False) ∧ True) ∧ ((0 : Int) = lenN l ∧ false = lenT l ∧ (0 : Int) = lenS l ∧ True) ∧ True else (fldOk (fieldC (l ++ r)) (List.length l) ∧ true = true) ∧ bif decide (listF (fldT (fieldC (l ++ r)) (List.length l)) [(67 : UInt8), (111 : UInt8), (110 : UInt8), (116 : UInt8), (101 : UInt8), (110 : UInt8), (116 : UInt8), (45 : UInt8), (76 : UInt8), (101 : UInt8), (110 : UInt8), (103 : UInt8), (116 : UInt8), (104 : UInt8)] = []) then ∃ (_x : Unit), True ∧ (((1 : Nat) = (1 : Nat) ∧ (te = te ∧ True) ∧ True) ∧ (bif e.beq e && sameB ro ro then cellsP (fun (b : Nat) => [(0 : Nat), (1 : Nat)].getD b (3 : Nat)) (fieldC (l ++ r)) (fieldC (l ++ r)) ∧ True else False) ∧ True) ∧ ((0 : Int) = lenN l ∧ true = lenT l ∧ (400 : Int) = lenS l ∧ True) ∧ True else bif eqI (ic (List.length (listF (fldT (fieldC (l ++ r)) (List.length l)) [(67 : UInt8), (111 : UInt8), (110 : UInt8), (116 : UInt8), (101 : UInt8), (110 : UInt8), (116 : UInt8), (45 : UInt8), (76 : UInt8), (101 : UInt8), (110 : UInt8), (103 : UInt8), (116 : UInt8), (104 : UInt8)]))) (0 : Int) then ∃ (_x : Unit), True ∧ (((1 : Nat) = (1 : Nat) ∧ (te = te ∧ True) ∧ True) ∧ (bif e.beq e && sameB ro ro then cellsP (fun (b : Nat) => [(0 : Nat), (1 : Nat)].getD b (4 : Nat)) (fieldC (l ++ r)) (fieldC (l ++ r)) ∧ True else False) ∧ True) ∧ ((0 : Int) = lenN l ∧ true = lenT l ∧ (400 : Int) = lenS l ∧ True) ∧ True else (∃ (x : Nat), (listF l clN ≠ [] ∧ x ≤ List.length (listF l clN) ∧ ∀ (p : List UInt8), p ∈ List.take x (listF l clN) → numE p = (0 : Int) ∧ numV p = numV (List.getD (listF l clN) (0 : Nat) [])) ∧ (((1 : Nat) = (1 : Nat) ∧ (te = te ∧ True) ∧ True) ∧ (bif e.beq e && sameB ro ro then cellsP (fun (b : Nat) => [(0 : Nat), (1 : Nat), (2 : Nat), (3 : Nat)].getD b (4 : Nat)) (fieldC (l ++ r)) (fieldC (l ++ r)) ∧ True else False) ∧ (cellsP (fun (b : Nat) => [(0 : Nat), (1 : Nat), (2 : Nat), (3 : Nat)].getD b (4 : Nat)) (ts (allF l clN)) (ts (allF (fldT (fieldC (l ++ r)) (List.length l)) [(67 : UInt8), (111 : UInt8), (110 : UInt8), (116 : UInt8), (101 : UInt8), (110 : UInt8), (116 : UInt8), (45 : UInt8), (76 : UInt8), (101 : UInt8), (110 : UInt8), (103 : UInt8), (116 : UInt8), (104 : UInt8)])) ∧ True) ∧ (cellsP (fun (b : Nat) => [(0 : Nat), (1 : Nat), (2 : Nat), (3 : Nat)].getD b (4 : Nat)) (ts (listF l clN)) (ts (listF (fldT (fieldC (l ++ r)) (List.length l)) [(67 : UInt8), (111 : UInt8), (110 : UInt8), (116 : UInt8), (101 : UInt8), (110 : UInt8), (116 : UInt8), (45 : UInt8), (76 : UInt8), (101 : UInt8), (110 : UInt8), (103 : UInt8), (116 : UInt8), (104 : UInt8)])) ∧ True) ∧ True) ∧ (0 : Int) = ic x ∧ ((0 : Int) = if x = (0 : Nat) then (0 : Int) else numV (List.getD (listF l clN) (0 : Nat) [])) ∧ True) ∧ ∀ (x : Nat), (listF l clN ≠ [] ∧ x ≤ List.length (listF l clN) ∧ ∀ (p : List UInt8), p ∈ List.take x (listF l clN) → numE p = (0 : Int) ∧ numV p = numV (List.getD (listF l clN) (0 : Nat) [])) → bif ltI (ic x) (ic (List.length (listF (fldT (fieldC (l ++ r)) (List.length l)) [(67 : UInt8), (111 : UInt8), (110 : UInt8), (116 : UInt8), (101 : UInt8), (110 : UInt8), (116 : UInt8), (45 : UInt8), (76 : UInt8), (101 : UInt8), (110 : UInt8), (103 : UInt8), (116 : UInt8), (104 : UInt8)]))) then bif ltI (ic x) (ic (List.length (listF (fldT (fieldC (l ++ r)) (List.length l)) [(67 : UInt8), (111 : UInt8), (110 : UInt8), (116 : UInt8), (101 : UInt8), (110 : UInt8), (116 : UInt8), (45 : UInt8), (76 : UInt8), (101 : UInt8), (110 : UInt8), (103 : UInt8), (116 : UInt8), (104 : UInt8)]))) then (ts (listF l clN))[(0 : Nat) + x * (1 : Nat)]? = some (AV.str (List.getD (listF l clN) x [])) ∧ bif leS (List.getD (listF l clN) x []) then bif !eqI (numE (List.getD (listF l clN) x [])) (0 : Int) then ∃ (_x : Unit), True ∧ (((1 : Nat) = (1 : Nat) ∧ (te = te ∧ True) ∧ True) ∧ (bif e.beq e && sameB ro ro then cellsP (fun (b : Nat) => [(0 : Nat), (1 : Nat)].getD b (4 : Nat)) (fieldC (l ++ r)) (fieldC (l ++ r)) ∧ True else False) ∧ True) ∧ ((0 : Int) = lenN l ∧ true = lenT l ∧ (400 : Int) = lenS l ∧ True) ∧ True else bif ltI (0 : Int) (ic x) then bif !eqI (numV (List.getD (listF l clN) x [])) (if x = (0 : Nat) then (0 : Int) else numV (List.getD (listF l clN) (0 : Nat) [])) then ∃ (_x : Unit), True ∧ (((1 : Nat) = (1 : Nat) ∧ (te = te ∧ True) ∧ True) ∧ (bif e.beq e && sameB ro ro then cellsP (fun (b : Nat) => [(0 : Nat), (1 : Nat)].getD b (4 : Nat)) (fieldC (l ++ r)) (fieldC (l ++ r)) ∧ True else False) ∧ True) ∧ ((0 : Int) = lenN l ∧ true = lenT l ∧ (400 : Int) = lenS l ∧ True) ∧ True else bif leI (ic x + (1 : Int)) (9223372036854775807 : Int) then ∃ (y : Nat), (listF l clN ≠ [] ∧ y ≤ List.length (listF l clN) ∧ ∀ (p : List UInt8), p ∈ List.take y (listF l clN) → numE p = (0 : Int) ∧ numV p = numV (List.getD (listF l clN) (0 : Nat) [])) ∧ List.length (listF l clN) - y < List.length (listF l clN) - x ∧ (((1 : Nat) = (1 : Nat) ∧ (te = te ∧ True) ∧ True) ∧ (bif e.beq e && sameB ro ro then cellsP (fun (b : Nat) => [(0 : Nat), (1 : Nat), (2 : Nat), (3 : Nat)].getD b (4 : Nat)) (fieldC (l ++ r)) (fieldC (l ++ r)) ∧ True else False) ∧ (cellsP (fun (b : Nat) => [(0 : Nat), (1 : Nat), (2 : Nat), (3 : Nat)].getD b (4 : Nat)) (ts (allF l clN)) (ts (allF l clN)) ∧ True) ∧ (cellsP (fun (b : Nat) => [(0 : Nat), (1 : Nat), (2 : Nat), (3 : Nat)].getD b (4 : Nat)) (ts (listF l clN)) (ts (listF l clN)) ∧ True) ∧ True) ∧ ic x + (1 : Int) = ic y ∧ (numV (List.getD (listF l clN) x []) = if y = (0 : Nat) then (0 : Int) else numV (List.getD (listF l clN) (0 : Nat) [])) ∧ True else False else bif leI (ic x + (1 : Int)) (9223372036854775807 : Int) then ∃ (y : Nat), (listF l clN ≠ [] ∧ y ≤ List.length (listF l clN) ∧ ∀ (p : List UInt8), p ∈ List.take y (listF l clN) → numE p = (0 : Int) ∧ numV p = numV (List.getD (listF l clN) (0 : Nat) [])) ∧ List.length (listF l clN) - y < List.length (listF l clN) - x ∧ (((1 : Nat) = (1 : Nat) ∧ (te = te ∧ True) ∧ True) ∧ (bif e.beq e && sameB ro ro then cellsP (fun (b : Nat) => [(0 : Nat), (1 : Nat), (2 : Nat), (3 : Nat)].getD b (4 : Nat)) (fieldC (l ++ r)) (fieldC (l ++ r)) ∧ True else False) ∧ (cellsP (fun (b : Nat) => [(0 : Nat), (1 : Nat), (2 : Nat), (3 : Nat)].getD b (4 : Nat)) (ts (allF l clN)) (ts (allF l clN)) ∧ True) ∧ (cellsP (fun (b : Nat) => [(0 : Nat), (1 : Nat), (2 : Nat), (3 : Nat)].getD b (4 : Nat)) (ts (listF l clN)) (ts (listF l clN)) ∧ True) ∧ True) ∧ ic x + (1 : Int) = ic y ∧ (numV (List.getD (listF l clN) x []) = if y = (0 : Nat) then (0 : Int) else numV (List.getD (listF l clN) (0 : Nat) [])) ∧ True else False else False else False else ∃ (_x : Unit), True ∧ (((1 : Nat) = (1 : Nat) ∧ (te = te ∧ True) ∧ True) ∧ (bif e.beq e && sameB ro ro then cellsP (fun (b : Nat) => [(0 : Nat), (1 : Nat)].getD b (4 : Nat)) (fieldC (l ++ r)) (fieldC (l ++ r)) ∧ True else False) ∧ True) ∧ ((if x = (0 : Nat) then (0 : Int) else numV (List.getD (listF l clN) (0 : Nat) [])) = lenN l ∧ true = lenT l ∧ (0 : Int) = lenS l ∧ True) ∧ True) := by kernel_rfl
theorem vCodQN_eq  (te : Nat) : vCodQN te = (∃ (_x : Unit), True ∧ (((1 : Nat) = (1 : Nat) ∧ (te = te ∧ True) ∧ True) ∧ True) ∧ (false = false ∧ (0 : Int) = (0 : Int) ∧ True) ∧ True) := by kernel_rfl
theorem vCodQZ_eq  (te : Nat) : vCodQZ te = (∃ (_x : Unit), True ∧ (((1 : Nat) = (1 : Nat) ∧ (te = te ∧ True) ∧ True) ∧ True) ∧ (false = false ∧ (0 : Int) = (0 : Int) ∧ True) ∧ True) := by kernel_rfl
theorem vCodQ_eq  (l r : FL) (e : Nat) (ro : Bool) (c : Nat) (ex : Bool) (te : Nat) : vCodQ l r e ro c ex te = ((fldOk (fieldC (l ++ r)) (List.length l) ∧ true = true) ∧ bif decide (allF (fldT (fieldC (l ++ r)) (List.length l)) [(84 : UInt8), (114 : UInt8), (97 : UInt8), (110 : UInt8), (115 : UInt8), (102 : UInt8), (101 : UInt8), (114 : UInt8), (45 : UInt8), (69 : UInt8), (110 : UInt8), (99 : UInt8), (111 : UInt8), (100 : UInt8), (105 : UInt8), (110 : UInt8), (103 : UInt8)] = []) then ∃ (_x : Unit), True ∧ (((1 : Nat) = (1 : Nat) ∧ (te = te ∧ True) ∧ True) ∧ (bif e.beq e && sameB ro ro then cellsP (fun (b : Nat) => [(0 : Nat), (1 : Nat)].getD b (2 : Nat)) (fieldC (l ++ r)) (fieldC (l ++ r)) ∧ True else False) ∧ True) ∧ (false = codT l ∧ (0 : Int) = codS l ∧ True) ∧ True else bif eqI (ic (List.length (allF (fldT (fieldC (l ++ r)) (List.length l)) [(84 : UInt8), (114 : UInt8), (97 : UInt8), (110 : UInt8), (115 : UInt8), (102 : UInt8), (101 : UInt8), (114 : UInt8), (45 : UInt8), (69 : UInt8), (110 : UInt8), (99 : UInt8), (111 : UInt8), (100 : UInt8), (105 : UInt8), (110 : UInt8), (103 : UInt8)]))) (0 : Int) then ∃ (_x : Unit), True ∧ (((1 : Nat) = (1 : Nat) ∧ (te = te ∧ True) ∧ True) ∧ (bif e.beq e && sameB ro ro then cellsP (fun (b : Nat) => [(0 : Nat), (1 : Nat)].getD b (3 : Nat)) (fieldC (l ++ r)) (fieldC (l ++ r)) ∧ True else False) ∧ True) ∧ (false = codT l ∧ (0 : Int) = codS l ∧ True) ∧ True else (fldOk (fieldC (l ++ r)) (List.length l) ∧ true = true) ∧ bif decide (listF (fldT (fieldC (l ++ r)) (List.length l)) [(84 : UInt8), (114 : UInt8), (97 : UInt8), (110 : UInt8), (115 : UInt8), (102 : UInt8), (101 : UInt8), (114 : UInt8), (45 : UInt8), (69 : UInt8), (110 : UInt8), (99 : UInt8), (111 : UInt8), (100 : UInt8), (105 : UInt8), (110 : UInt8), (103 : UInt8)] = []) then ∃ (_x : Unit), True ∧ (((1 : Nat) = (1 : Nat) ∧ (te = te ∧ True) ∧ True) ∧ (bif e.beq e && sameB ro ro then cellsP (fun (b : Nat) => [(0 : Nat), (1 : Nat)].getD b (3 : Nat)) (fieldC (l ++ r)) (fieldC (l ++ r)) ∧ True else False) ∧ True) ∧ (true = codT l ∧ (501 : Int) = codS l ∧ True) ∧ True else bif !eqI (ic (List.length (listF (fldT (fieldC (l ++ r)) (List.length l)) [(84 : UInt8), (114 : UInt8), (97 : UInt8), (110 : UInt8), (115 : UInt8), (102 : UInt8), (101 : UInt8), (114 : UInt8), (45 : UInt8), (69 : UInt8), (110 : UInt8), (99 : UInt8), (111 : UInt8), (100 : UInt8), (105 : UInt8), (110 : UInt8), (103 : UInt8)]))) (1 : Int) then ∃ (_x : Unit), True ∧ (((1 : Nat) = (1 : Nat) ∧ (te = te ∧ True) ∧ True) ∧ (bif e.beq e && sameB ro ro then cellsP (fun (b : Nat) => [(0 : Nat), (1 : Nat)].getD b (4 : Nat)) (fieldC (l ++ r)) (fieldC (l ++ r)) ∧ True else False) ∧ True) ∧ (true = codT l ∧ (501 : Int) = codS l ∧ True) ∧ True else bif ltI (0 : Int) (ic (List.length (listF (fldT (fieldC (l ++ r)) (List.length l)) [(84 : UInt8), (114 : UInt8), (97 : UInt8), (110 : UInt8), (115 : UInt8), (102 : UInt8), (101 : UInt8), (114 : UInt8), (45 : UInt8), (69 : UInt8), (110 : UInt8), (99 : UInt8), (111 : UInt8), (100 : UInt8), (105 : UInt8), (110 : UInt8), (103 : UInt8)]))) then (ts (listF (fldT (fieldC (l ++ r)) (List.length l)) [(84 : UInt8), (114 : UInt8), (97 : UInt8), (110 : UInt8), (115 : UInt8), (102 : UInt8), (101 : UInt8), (114 : UInt8), (45 : UInt8), (69 : UInt8), (110 : UInt8), (99 : UInt8), (111 : UInt8), (100 : UInt8), (105 : UInt8), (110 : UInt8), (103 : UInt8)]))[(0 : Nat)]? = some (AV.str (List.getD (listF l teN) (0 : Nat) [])) ∧ bif le40 (List.getD (listF l teN) (0 : Nat) []) && true then bif !decide (lower (List.getD (listF l teN) (0 : Nat) []) = lower [(99 : UInt8), (104 : UInt8), (117 : UInt8), (110 : UInt8), (107 : UInt8), (101 : UInt8), (100 : UInt8)]) then ∃ (_x : Unit), True ∧ (((1 : Nat) = (1 : Nat) ∧ (te = te ∧ True) ∧ True) ∧ (bif e.beq e && sameB ro ro then cellsP (fun (b : Nat) => [(0 : Nat), (1 : Nat)].getD b (4 : Nat)) (fieldC (l ++ r)) (fieldC (l ++ r)) ∧ True else False) ∧ True) ∧ (true = codT l ∧ (501 : Int) = codS l ∧ True) ∧ True else ∃ (_x : Unit), True ∧ (((1 : Nat) = (1 : Nat) ∧ (te = te ∧ True) ∧ True) ∧ (bif e.beq e && sameB ro ro then cellsP (fun (b : Nat) => [(0 : Nat), (1 : Nat)].getD b (4 : Nat)) (fieldC (l ++ r)) (fieldC (l ++ r)) ∧ True else False) ∧ True) ∧ (true = codT l ∧ (0 : Int) = codS l ∧ True) ∧ True else False else False) := by kernel_rfl
theorem vBareQ_eq  (m : List UInt8) (st : Int) : vBareQ m st = (bif decide (m = [(72 : UInt8), (69 : UInt8), (65 : UInt8), (68 : UInt8)]) then ∃ (_x : Unit), True ∧ True ∧ true = bareF m st ∧ True else bif leI (100 : Int) st then bif leI st (199 : Int) then ∃ (_x : Unit), True ∧ True ∧ true = bareF m st ∧ True else bif eqI st (204 : Int) then ∃ (_x : Unit), True ∧ True ∧ true = bareF m st ∧ True else bif eqI st (304 : Int) then ∃ (_x : Unit), True ∧ True ∧ true = bareF m st ∧ True else bif decide (m = [(67 : UInt8), (79 : UInt8), (78 : UInt8), (78 : UInt8), (69 : UInt8), (67 : UInt8), (84 : UInt8)]) then bif leI (200 : Int) st then ∃ (_x : Unit), True ∧ True ∧ leI st (299 : Int) = bareF m st ∧ True else ∃ (_x : Unit), True ∧ True ∧ false = bareF m st ∧ True else ∃ (_x : Unit), True ∧ True ∧ false = bareF m st ∧ True else bif eqI st (204 : Int) then ∃ (_x : Unit), True ∧ True ∧ true = bareF m st ∧ True else bif eqI st (304 : Int) then ∃ (_x : Unit), True ∧ True ∧ true = bareF m st ∧ True else bif decide (m = [(67 : UInt8), (79 : UInt8), (78 : UInt8), (78 : UInt8), (69 : UInt8), (67 : UInt8), (84 : UInt8)]) then bif leI (200 : Int) st then ∃ (_x : Unit), True ∧ True ∧ leI st (299 : Int) = bareF m st ∧ True else ∃ (_x : Unit), True ∧ True ∧ false = bareF m st ∧ True else ∃ (_x : Unit), True ∧ True ∧ false = bareF m st ∧ True) := by kernel_rfl
theorem vFrameQN_eq  (minor : Int) (te : Nat) : vFrameQN minor te = ((True ∧ true = true) ∧ (True ∧ true = true) ∧ ∃ (_x : Unit), True ∧ (((1 : Nat) = (1 : Nat) ∧ (te = te ∧ True) ∧ True) ∧ True) ∧ ((((1 : Int) = (1 : Int) ∧ (0 : Int) = (0 : Int) ∧ True) ∧ True) ∧ false = false ∧ (0 : Int) = (0 : Int) ∧ True) ∧ True) := by kernel_rfl
theorem vFrameQZ_eq  (minor : Int) (te : Nat) : vFrameQZ minor te = ((True ∧ true = true) ∧ (True ∧ true = true) ∧ ∃ (_x : Unit), True ∧ (((1 : Nat) = (1 : Nat) ∧ (te = te ∧ True) ∧ True) ∧ True) ∧ ((((1 : Int) = (1 : Int) ∧ (0 : Int) = (0 : Int) ∧ True) ∧ True) ∧ false = false ∧ (0 : Int) = (0 : Int) ∧ True) ∧ True) := by kernel_rfl
theorem vFrameQ_eq  (l r : FL) (e : Nat) (ro : Bool) (c : Nat) (ex : Bool) (minor : Int) (te : Nat) : vFrameQ l r e ro c ex minor te = ((fldOk (fieldC (l ++ r)) (List.length l) ∧ true = true) ∧ (fldOk (fieldC (l ++ r)) (List.length l) ∧ true = true) ∧ bif codT (fldT (fieldC (l ++ r)) (List.length l)) then bif eqI minor (0 : Int) then ∃ (_x : Unit), True ∧ (((1 : Nat) = (1 : Nat) ∧ (te = te ∧ True) ∧ True) ∧ (bif e.beq e && sameB ro ro then cellsP (fun (b : Nat) => [(0 : Nat), (1 : Nat)].getD b (3 : Nat)) (fieldC (l ++ r)) (fieldC (l ++ r)) ∧ True else False) ∧ True) ∧ ((((0 : Int) = (frL minor l).fst ∧ (0 : Int) = (frL minor l).snd.fst ∧ True) ∧ True) ∧ true = (frL minor l).snd.snd.fst ∧ (400 : Int) = (frL minor l).snd.snd.snd ∧ True) ∧ True else bif lenT (fldT (fieldC (l ++ r)) (List.length l)) then ∃ (_x : Unit), True ∧ (((1 : Nat) = (1 : Nat) ∧ (te = te ∧ True) ∧ True) ∧ (bif e.beq e && sameB ro ro then cellsP (fun (b : Nat) => [(0 : Nat), (1 : Nat)].getD b (3 : Nat)) (fieldC (l ++ r)) (fieldC (l ++ r)) ∧ True else False) ∧ True) ∧ ((((0 : Int) = (frL minor l).fst ∧ (0 : Int) = (frL minor l).snd.fst ∧ True) ∧ True) ∧ true = (frL minor l).snd.snd.fst ∧ (400 : Int) = (frL minor l).snd.snd.snd ∧ True) ∧ True else bif codT (fldT (fieldC (l ++ r)) (List.length l)) then bif !eqI (codS (fldT (fieldC (l ++ r)) (List.length l))) (0 : Int) then ∃ (_x : Unit), True ∧ (((1 : Nat) = (1 : Nat) ∧ (te = te ∧ True) ∧ True) ∧ (bif e.beq e && sameB ro ro then cellsP (fun (b : Nat) => [(0 : Nat), (1 : Nat)].getD b (3 : Nat)) (fieldC (l ++ r)) (fieldC (l ++ r)) ∧ True else False) ∧ True) ∧ ((((0 : Int) = (frL minor l).fst ∧ (0 : Int) = (frL minor l).snd.fst ∧ True) ∧ True) ∧ true = (frL minor l).snd.snd.fst ∧ codS (fldT (fieldC (l ++ r)) (List.length l)) = (frL minor l).snd.snd.snd ∧ True) ∧ True else bif codT (fldT (fieldC (l ++ r)) (List.length l)) then ∃ (_x : Unit), True ∧ (((1 : Nat) = (1 : Nat) ∧ (te = te ∧ True) ∧ True) ∧ (bif e.beq e && sameB ro ro then cellsP (fun (b : Nat) => [(0 : Nat), (1 : Nat)].getD b (3 : Nat)) (fieldC (l ++ r)) (fieldC (l ++ r)) ∧ True else False) ∧ True) ∧ ((((3 : Int) = (frL minor l).fst ∧ (0 : Int) = (frL minor l).snd.fst ∧ True) ∧ True) ∧ true = (frL minor l).snd.snd.fst ∧ (0 : Int) = (frL minor l).snd.snd.snd ∧ True) ∧ True else bif !eqI (lenS (fldT (fieldC (l ++ r)) (List.length l))) (0 : Int) then ∃ (_x : Unit), True ∧ (((1 : Nat) = (1 : Nat) ∧ (te = te ∧ True) ∧ True) ∧ (bif e.beq e && sameB ro ro then cellsP (fun (b : Nat) => [(0 : Nat), (1 : Nat)].getD b (3 : Nat)) (fieldC (l ++ r)) (fieldC (l ++ r)) ∧ True else False) ∧ True) ∧ ((((0 : Int) = (frL minor l).fst ∧ (0 : Int) = (frL minor l).snd.fst ∧ True) ∧ True) ∧ true = (frL minor l).snd.snd.fst ∧ lenS (fldT (fieldC (l ++ r)) (List.length l)) = (frL minor l).snd.snd.snd ∧ True) ∧ True else bif lenT (fldT (fieldC (l ++ r)) (List.length l)) then bif ltI (0 : Int) (lenN (fldT (fieldC (l ++ r)) (List.length l))) then ∃ (_x : Unit), True ∧ (((1 : Nat) = (1 : Nat) ∧ (te = te ∧ True) ∧ True) ∧ (bif e.beq e && sameB ro ro then cellsP (fun (b : Nat) => [(0 : Nat), (1 : Nat)].getD b (3 : Nat)) (fieldC (l ++ r)) (fieldC (l ++ r)) ∧ True else False) ∧ True) ∧ ((((2 : Int) = (frL minor l).fst ∧ lenN (fldT (fieldC (l ++ r)) (List.length l)) = (frL minor l).snd.fst ∧ True) ∧ True) ∧ true = (frL minor l).snd.snd.fst ∧ (0 : Int) = (frL minor l).snd.snd.snd ∧ True) ∧ True else ∃ (_x : Unit), True ∧ (((1 : Nat) = (1 : Nat) ∧ (te = te ∧ True) ∧ True) ∧ (bif e.beq e && sameB ro ro then cellsP (fun (b : Nat) => [(0 : Nat), (1 : Nat)].getD b (3 : Nat)) (fieldC (l ++ r)) (fieldC (l ++ r)) ∧ True else False) ∧ True) ∧ ((((1 : Int) = (frL minor l).fst ∧ (0 : Int) = (frL minor l).snd.fst ∧ True) ∧ True) ∧ lenT (fldT (fieldC (l ++ r)) (List.length l)) = (frL minor l).snd.snd.fst ∧ (0 : Int) = (frL minor l).snd.snd.snd ∧ True) ∧ True else ∃ (_x : Unit), True ∧ (((1 : Nat) = (1 : Nat) ∧ (te = te ∧ True) ∧ True) ∧ (bif e.beq e && sameB ro ro then cellsP (fun (b : Nat) => [(0 : Nat), (1 : Nat)].getD b (3 : Nat)) (fieldC (l ++ r)) (fieldC (l ++ r)) ∧ True else False) ∧ True) ∧ ((((1 : Int) = (frL minor l).fst ∧ (0 : Int) = (frL minor l).snd.fst ∧ True) ∧ True) ∧ lenT (fldT (fieldC (l ++ r)) (List.length l)) = (frL minor l).snd.snd.fst ∧ (0 : Int) = (frL minor l).snd.snd.snd ∧ True) ∧ True else bif codT (fldT (fieldC (l ++ r)) (List.length l)) then ∃ (_x : Unit), True ∧ (((1 : Nat) = (1 : Nat) ∧ (te = te ∧ True) ∧ True) ∧ (bif e.beq e && sameB ro ro then cellsP (fun (b : Nat) => [(0 : Nat), (1 : Nat)].getD b (3 : Nat)) (fieldC (l ++ r)) (fieldC (l ++ r)) ∧ True else False) ∧ True) ∧ ((((3 : Int) = (frL minor l).fst ∧ (0 : Int) = (frL minor l).snd.fst ∧ True) ∧ True) ∧ true = (frL minor l).snd.snd.fst ∧ (0 : Int) = (frL minor l).snd.snd.snd ∧ True) ∧ True else bif !eqI (lenS (fldT (fieldC (l ++ r)) (List.length l))) (0 : Int) then ∃ (_x : Unit), True ∧ (((1 : Nat) = (1 : Nat) ∧ (te = te ∧ True) ∧ True) ∧ (bif e.beq e && sameB ro ro then cellsP (fun (b : Nat) => [(0 : Nat), (1 : Nat)].getD b (3 : Nat)) (fieldC (l ++ r)) (fieldC (l ++ r)) ∧ True else False) ∧ True) ∧ ((((0 : Int) = (frL minor l).fst ∧ (0 : Int) = (frL minor l).snd.fst ∧ True) ∧ True) ∧ true = (frL minor l).snd.snd.fst ∧ lenS (fldT (fieldC (l ++ r)) (List.length l)) = (frL minor l).snd.snd.snd ∧ True) ∧ True else bif lenT (fldT (fieldC (l ++ r)) (List.length l)) then bif ltI (0 : Int) (lenN (fldT (fieldC (l ++ r)) (List.length l))) then ∃ (_x : Unit), True ∧ (((1 : Nat) = (1 : Nat) ∧ (te = te ∧ True) ∧ True) ∧ (bif e.beq e && sameB ro ro then cellsP (fun (b : Nat) => [(0 : Nat), (1 : Nat)].getD b (3 : Nat)) (fieldC (l ++ r)) (fieldC (l ++ r)) ∧ True else False) ∧ True) ∧ ((((2 : Int) = (frL minor l).fst ∧ lenN (fldT (fieldC (l ++ r)) (List.length l)) = (frL minor l).snd.fst ∧ True) ∧ True) ∧ true = (frL minor l).snd.snd.fst ∧ (0 : Int) = (frL minor l).snd.snd.snd ∧ True) ∧ True else ∃ (_x : Unit), True ∧ (((1 : Nat) = (1 : Nat) ∧ (te = te ∧ True) ∧ True) ∧ (bif e.beq e && sameB ro ro then cellsP (fun (b : Nat) => [(0 : Nat), (1 : Nat)].getD b (3 : Nat)) (fieldC (l ++ r)) (fieldC (l ++ r)) ∧ True else False) ∧ True) ∧ ((((1 : Int) = (frL minor l).fst ∧ (0 : Int) = (frL minor l).snd.fst ∧ True) ∧ True) ∧ lenT (fldT (fieldC (l ++ r)) (List.length l)) = (frL minor l).snd.snd.fst ∧ (0 : Int) = (frL minor l).snd.snd.snd ∧ True) ∧ True else ∃ (_x : Unit), True ∧ (((1 : Nat) = (1 : Nat) ∧ (te = te ∧ True) ∧ True) ∧ (bif e.beq e && sameB ro ro then cellsP (fun (b : Nat) => [(0 : Nat), (1 : Nat)].getD b (3 : Nat)) (fieldC (l ++ r)) (fieldC (l ++ r)) ∧ True else False) ∧ True) ∧ ((((1 : Int) = (frL minor l).fst ∧ (0 : Int) = (frL minor l).snd.fst ∧ True) ∧ True) ∧ lenT (fldT (fieldC (l ++ r)) (List.length l)) = (frL minor l).snd.snd.fst ∧ (0 : Int) = (frL minor l).snd.snd.snd ∧ True) ∧ True else bif codT (fldT (fieldC (l ++ r)) (List.length l)) then bif !eqI (codS (fldT (fieldC (l ++ r)) (List.length l))) (0 : Int) then ∃ (_x : Unit), True ∧ (((1 : Nat) = (1 : Nat) ∧ (te = te ∧ True) ∧ True) ∧ (bif e.beq e && sameB ro ro then cellsP (fun (b : Nat) => [(0 : Nat), (1 : Nat)].getD b (3 : Nat)) (fieldC (l ++ r)) (fieldC (l ++ r)) ∧ True else False) ∧ True) ∧ ((((0 : Int) = (frL minor l).fst ∧ (0 : Int) = (frL minor l).snd.fst ∧ True) ∧ True) ∧ true = (frL minor l).snd.snd.fst ∧ codS (fldT (fieldC (l ++ r)) (List.length l)) = (frL minor l).snd.snd.snd ∧ True) ∧ True else bif codT (fldT (fieldC (l ++ r)) (List.length l)) then ∃ (_x : Unit), True ∧ (((1 : Nat) = (1 : Nat) ∧ (te = te ∧ True) ∧ True) ∧ (bif e.beq e && sameB ro ro then cellsP (fun (b : Nat) => [(0 : Nat), (1 : Nat)].getD b (3 : Nat)) (fieldC (l ++ r)) (fieldC (l ++ r)) ∧ True else False) ∧ True) ∧ ((((3 : Int) = (frL minor l).fst ∧ (0 : Int) = (frL minor l).snd.fst ∧ True) ∧ True) ∧ true = (frL minor l).snd.snd.fst ∧ (0 : Int) = (frL minor l).snd.snd.snd ∧ True) ∧ True else bif !eqI (lenS (fldT (fieldC (l ++ r)) (List.length l))) (0 : Int) then ∃ (_x : Unit), True ∧ (((1 : Nat) = (1 : Nat) ∧ (te = te ∧ True) ∧ True) ∧ (bif e.beq e && sameB ro ro then cellsP (fun (b : Nat) => [(0 : Nat), (1 : Nat)].getD b (3 : Nat)) (fieldC (l ++ r)) (fieldC (l ++ r)) ∧ True else False) ∧ True) ∧ ((((0 : Int) = (frL minor l).fst ∧ (0 : Int) = (frL minor l).snd.fst ∧ True) ∧ True) ∧ true = (frL minor l).snd.snd.fst ∧ lenS (fldT (fieldC (l ++ r)) (List.length l)) = (frL minor l).snd.snd.snd ∧ True) ∧ True else bif lenT (fldT (fieldC (l ++ r)) (List.length l)) then bif ltI (0 : Int) (lenN (fldT (fieldC (l ++ r)) (List.length l))) then ∃ (_x : Unit), True ∧ (((1 : Nat) = (1 : Nat) ∧ (te = te ∧ True) ∧ True) ∧ (bif e.beq e && sameB ro ro then cellsP (fun (b : Nat) => [(0 : Nat), (1 : Nat)].getD b (3 : Nat)) (fieldC (l ++ r)) (fieldC (l ++ r)) ∧ True else False) ∧ True) ∧ ((((2 : Int) = (frL minor l).fst ∧ lenN (fldT (fieldC (l ++ r)) (List.length l)) = (frL minor l).snd.fst ∧ True) ∧ True) ∧ true = (frL minor l).snd.snd.fst ∧ (0 : Int) = (frL minor l).snd.snd.snd ∧ True) ∧ True else ∃ (_x : Unit), True ∧ (((1 : Nat) = (1 : Nat) ∧ (te = te ∧ True) ∧ True) ∧ (bif e.beq e && sameB ro ro then cellsP (fun (b : Nat) => [(0 : Nat), (1 : Nat)].getD b (3 : Nat)) (fieldC (l ++ r)) (fieldC (l ++ r)) ∧ True else False) ∧ True) ∧ ((((1 : Int) = (frL minor l).fst ∧ (0 : Int) = (frL minor l).snd.fst ∧ True) ∧ True) ∧ lenT (fldT (fieldC (l ++ r)) (List.length l)) = (frL minor l).snd.snd.fst ∧ (0 : Int) = (frL minor l).snd.snd.snd ∧ True) ∧ True else ∃ (_x : Unit), True ∧ (((1 : Nat) = (1 : Nat) ∧ (te = te ∧ True) ∧ True) ∧ (bif e.beq e && sameB ro ro then cellsP (fun (b : Nat) => [(0 : Nat), (1 : Nat)].getD b (3 : Nat)) (fieldC (l ++ r)) (fieldC (l ++ r)) ∧ True else False) ∧ True) ∧ ((((1 : Int) = (frL minor l).fst ∧ (0 : Int) = (frL minor l).snd.fst ∧ True) ∧ True) ∧ lenT (fldT (fieldC (l ++ r)) (List.length l)) = (frL minor l).snd.snd.fst ∧ (0 : Int) = (frL minor l).snd.snd.snd ∧ True) ∧ True else bif codT (fldT (fieldC (l ++ r)) (List.length l)) then ∃ (_x : Unit), True ∧ (((1 : Nat) = (1 : Nat) ∧ (te = te ∧ True) ∧ True) ∧ (bif e.beq e && sameB ro ro then cellsP (fun (b : Nat) => [(0 : Nat), (1 : Nat)].getD b (3 : Nat)) (fieldC (l ++ r)) (fieldC (l ++ r)) ∧ True else False) ∧ True) ∧ ((((3 : Int) = (frL minor l).fst ∧ (0 : Int) = (frL minor l).snd.fst ∧ True) ∧ True) ∧ true = (frL minor l).snd.snd.fst ∧ (0 : Int) = (frL minor l).snd.snd.snd ∧ True) ∧ True else bif !eqI (lenS (fldT (fieldC (l ++ r)) (List.length l))) (0 : Int) then ∃ (_x : Unit), True ∧ (((1 : Nat) = (1 : Nat) ∧ (te = te ∧ True) ∧ True) ∧ (bif e.beq e && sameB ro ro then cellsP (fun (b : Nat) => [(0 : Nat), (1 : Nat)].getD b (3 : Nat)) (fieldC (l ++ r)) (fieldC (l ++ r)) ∧ True else False) ∧ True) ∧ ((((0 : Int) = (frL minor l).fst ∧ (0 : Int) = (frL minor l).snd.fst ∧ True) ∧ True) ∧ true = (frL minor l).snd.snd.fst ∧ lenS (fldT (fieldC (l ++ r)) (List.length l)) = (frL minor l).snd.snd.snd ∧ True) ∧ True else bif lenT (fldT (fieldC (l ++ r)) (List.length l)) then bif ltI (0 : Int) (lenN (fldT (fieldC (l ++ r)) (List.length l))) then ∃ (_x : Unit), True ∧ (((1 : Nat) = (1 : Nat) ∧ (te = te ∧ True) ∧ True) ∧ (bif e.beq e && sameB ro ro then cellsP (fun (b : Nat) => [(0 : Nat), (1 : Nat)].getD b (3 : Nat)) (fieldC (l ++ r)) (fieldC (l ++ r)) ∧ True else False) ∧ True) ∧ ((((2 : Int) = (frL minor l).fst ∧ lenN (fldT (fieldC (l ++ r)) (List.length l)) = (frL minor l).snd.fst ∧ True) ∧ True) ∧ true = (frL minor l).snd.snd.fst ∧ (0 : Int) = (frL minor l).snd.snd.snd ∧ True) ∧ True else ∃ (_x : Unit), True ∧ (((1 : Nat) = (1 : Nat) ∧ (te = te ∧ True) ∧ True) ∧ (bif e.beq e && sameB ro ro then cellsP (fun (b : Nat) => [(0 : Nat), (1 : Nat)].getD b (3 : Nat)) (fieldC (l ++ r)) (fieldC (l ++ r)) ∧ True else False) ∧ True) ∧ ((((1 : Int) = (frL minor l).fst ∧ (0 : Int) = (frL minor l).snd.fst ∧ True) ∧ True) ∧ lenT (fldT (fieldC (l ++ r)) (List.length l)) = (frL minor l).snd.snd.fst ∧ (0 : Int) = (frL minor l).snd.snd.snd ∧ True) ∧ True else ∃ (_x : Unit), True ∧ (((1 : Nat) = (1 : Nat) ∧ (te = te ∧ True) ∧ True) ∧ (bif e.beq e && sameB ro ro then cellsP (fun (b : Nat) => [(0 : Nat), (1 : Nat)].getD b (3 : Nat)) (fieldC (l ++ r)) (fieldC (l ++ r)) ∧ True else False) ∧ True) ∧ ((((1 : Int) = (frL minor l).fst ∧ (0 : Int) = (frL minor l).snd.fst ∧ True) ∧ True) ∧ lenT (fldT (fieldC (l ++ r)) (List.length l)) = (frL minor l).snd.snd.fst ∧ (0 : Int) = (frL minor l).snd.snd.snd ∧ True) ∧ True) := by kernel_rfl
theorem vReqQN_eq  (minor : Int) (te : Nat) : vReqQN minor te = ((True ∧ true = true) ∧ ∃ (_x : Unit), True ∧ (((1 : Nat) = (1 : Nat) ∧ (te = te ∧ True) ∧ True) ∧ True) ∧ ((((1 : Int) = (1 : Int) ∧ (0 : Int) = (0 : Int) ∧ True) ∧ True) ∧ (0 : Int) = (0 : Int) ∧ True) ∧ True) := by kernel_rfl
theorem vReqQZ_eq  (minor : Int) (te : Nat) : vReqQZ minor te = ((True ∧ true = true) ∧ ∃ (_x : Unit), True ∧ (((1 : Nat) = (1 : Nat) ∧ (te = te ∧ True) ∧ True) ∧ True) ∧ ((((1 : Int) = (1 : Int) ∧ (0 : Int) = (0 : Int) ∧ True) ∧ True) ∧ (0 : Int) = (0 : Int) ∧ True) ∧ True) := by kernel_rfl
theorem vReqQ_eq  (l r : FL) (e : Nat) (ro : Bool) (c : Nat) (ex : Bool) (minor : Int) (te : Nat) : vReqQ l r e ro c ex minor te = ((fldOk (fieldC (l ++ r)) (List.length l) ∧ true = true) ∧ ∃ (_x : Unit), True ∧ (((1 : Nat) = (1 : Nat) ∧ (te = te ∧ True) ∧ True) ∧ (bif e.beq e && sameB ro ro then cellsP (fun (b : Nat) => [(0 : Nat), (1 : Nat)].getD b (4 : Nat)) (fieldC (l ++ r)) (fieldC (l ++ r)) ∧ True else False) ∧ True) ∧ ((((frL minor (fldT (fieldC (l ++ r)) (List.length l))).fst = (frL minor l).fst ∧ (frL minor (fldT (fieldC (l ++ r)) (List.length l))).snd.fst = (frL minor l).snd.fst ∧ True) ∧ True) ∧ (frL minor (fldT (fieldC (l ++ r)) (List.length l))).snd.snd.snd = (frL minor l).snd.snd.snd ∧ True) ∧ True) := by kernel_rfl
theorem vRespQN_eq  (m : List UInt8) (st minor : Int) (te : Nat) : vRespQN m st minor te = (bif leI (-9223372036854775808 : Int) st && leI st (9223372036854775807 : Int) then bif bareF m st then ∃ (_x : Unit), True ∧ (((1 : Nat) = (1 : Nat) ∧ (te = te ∧ True) ∧ True) ∧ True) ∧ ((((1 : Int) = (rsF m st minor []).fst ∧ (0 : Int) = (rsF m st minor []).snd.fst ∧ True) ∧ True) ∧ (0 : Int) = (rsF m st minor []).snd.snd.snd ∧ True) ∧ True else (True ∧ true = true) ∧ ∃ (_x : Unit), True ∧ (((1 : Nat) = (1 : Nat) ∧ (te = te ∧ True) ∧ True) ∧ True) ∧ ((((4 : Int) = (rsF m st minor []).fst ∧ (0 : Int) = (rsF m st minor []).snd.fst ∧ True) ∧ True) ∧ (0 : Int) = (rsF m st minor []).snd.snd.snd ∧ True) ∧ True else False) := by kernel_rfl
theorem vRespQZ_eq  (m : List UInt8) (st minor : Int) (te : Nat) : vRespQZ m st minor te = (bif leI (-9223372036854775808 : Int) st && leI st (9223372036854775807 : Int) then bif bareF m st then ∃ (_x : Unit), True ∧ (((1 : Nat) = (1 : Nat) ∧ (te = te ∧ True) ∧ True) ∧ True) ∧ ((((1 : Int) = (rsF m st minor []).fst ∧ (0 : Int) = (rsF m st minor []).snd.fst ∧ True) ∧ True) ∧ (0 : Int) = (rsF m st minor []).snd.snd.snd ∧ True) ∧ True else (True ∧ true = true) ∧ ∃ (_x : Unit), True ∧ (((1 : Nat) = (1 : Nat) ∧ (te = te ∧ True) ∧ True) ∧ True) ∧ ((((4 : Int) = (rsF m st minor []).fst ∧ (0 : Int) = (rsF m st minor []).snd.fst ∧ True) ∧ True) ∧ (0 : Int) = (rsF m st minor []).snd.snd.snd ∧ True) ∧ True else False) := by kernel_rfl
theorem vRespQ_eq  (l r : FL) (e : Nat) (ro : Bool) (c : Nat) (ex : Bool) (m : List UInt8) (st minor : Int) (te : Nat) : vRespQ l r e ro c ex m st minor te = (bif leI (-9223372036854775808 : Int) st && leI st (9223372036854775807 : Int) then bif bareF m st then ∃ (_x : Unit), True ∧ (((1 : Nat) = (1 : Nat) ∧ (te = te ∧ True) ∧ True) ∧ (bif e.beq e && sameB ro ro then cellsP (fun (b : Nat) => [(0 : Nat), (1 : Nat)].getD b (3 : Nat)) (fieldC (l ++ r)) (fieldC (l ++ r)) ∧ True else False) ∧ True) ∧ ((((1 : Int) = (rsF m st minor l).fst ∧ (0 : Int) = (rsF m st minor l).snd.fst ∧ True) ∧ True) ∧ (0 : Int) = (rsF m st minor l).snd.snd.snd ∧ True) ∧ True else (fldOk (fieldC (l ++ r)) (List.length l) ∧ true = true) ∧ bif !(frL minor (fldT (fieldC (l ++ r)) (List.length l))).snd.snd.fst then ∃ (_x : Unit), True ∧ (((1 : Nat) = (1 : Nat) ∧ (te = te ∧ True) ∧ True) ∧ (bif e.beq e && sameB ro ro then cellsP (fun (b : Nat) => [(0 : Nat), (1 : Nat)].getD b (4 : Nat)) (fieldC (l ++ r)) (fieldC (l ++ r)) ∧ True else False) ∧ True) ∧ ((((4 : Int) = (rsF m st minor l).fst ∧ (0 : Int) = (rsF m st minor l).snd.fst ∧ True) ∧ True) ∧ (0 : Int) = (rsF m st minor l).snd.snd.snd ∧ True) ∧ True else ∃ (_x : Unit), True ∧ (((1 : Nat) = (1 : Nat) ∧ (te = te ∧ True) ∧ True) ∧ (bif e.beq e && sameB ro ro then cellsP (fun (b : Nat) => [(0 : Nat), (1 : Nat)].getD b (4 : Nat)) (fieldC (l ++ r)) (fieldC (l ++ r)) ∧ True else False) ∧ True) ∧ ((((frL minor (fldT (fieldC (l ++ r)) (List.length l))).fst = (rsF m st minor l).fst ∧ (frL minor (fldT (fieldC (l ++ r)) (List.length l))).snd.fst = (rsF m st minor l).snd.fst ∧ True) ∧ True) ∧ (frL minor (fldT (fieldC (l ++ r)) (List.length l))).snd.snd.snd = (rsF m st minor l).snd.snd.snd ∧ True) ∧ True else False) := by kernel_rfl
theorem lenQ_vc (l r : FL) (e : Nat) (ro : Bool) (c : Nat) (ex : Bool) (te : Nat) (hl : totL l ≤ 274877906944) : vLenQ l r e ro c ex te := by
  rw [vLenQ_eq]
  simp only [ic, cond_F, sameB_self, Nat.beq_refl]
  simp only [cond_P, leI_t, leI_f, ltI_t, ltI_f, eqI_t, eqI_f, and_t, not_t, not_f, dec_t, dec_f, Nat.zero_add, Nat.mul_one, List.drop_zero]
  simp only [cells_tsr, cells_fld, take_ts, ts_length, and_true, true_and, and_false, false_and, or_false, false_or, exists_false, Nat.le_refl, exists_const, false_implies, not_false_eq_true, true_implies, fldT_at, fldOk_at, getS_ts]
  simp only [show ([67, 111, 110, 116, 101, 110, 116, 45, 76, 101, 110, 103, 116, 104] : List UInt8) = clN from rfl]
  have hle : ∀ x, x < (listF l clN).length → leS ((listF l clN).getD x []) = true := fun x hx => list_le hl clN hx
  have hmx : (listF l clN).length ≤ 3 * 274877906944 := by
    have h1 := parts_len (allF l clN)
    have h2 := totF_all l clN
    unfold listF; omega
  have hn : allF l clN = [] → 0 = lenN l ∧ false = lenT l ∧ 0 = lenS l := fun h => by simp [lenN, lenT, lenS, h]
  have hb := len_bad (l := l)
  have hg := len_good (l := l)
  generalize listF l clN = ps at *
  refine ⟨hl, hn, fun ha => ⟨fun h0 => absurd (List.length_eq_zero_iff.1 (by omega)) ha, fun _ => ⟨hl, fun h0 => hb ha (by simp [h0]), fun h0 => ⟨fun h1 => absurd (List.length_eq_zero_iff.1 (by omega)) h0, fun _ => ⟨⟨0, ⟨h0, Nat.zero_le _, fun p hp => by simp at hp⟩, ⟨by rw [cells_tsr]; trivial, by rw [cells_tsr]; trivial⟩, rfl, rfl⟩, fun x hx => ⟨fun hlt => ?_, fun hge => ?_⟩⟩⟩⟩⟩⟩
  · obtain ⟨_, h3, h4⟩ := hx
    have hx' : x < ps.length := by omega
    have next : numE (ps.getD x []) = 0 → numV (ps.getD x []) = numV (ps.getD 0 []) → ∃ y, (ps ≠ [] ∧ y ≤ ps.length ∧ ∀ p, p ∈ ps.take y → numE p = 0 ∧ numV p = numV (ps.getD 0 [])) ∧ ps.length - y < ps.length - x ∧ (x : Int) + 1 = y ∧ numV (ps.getD x []) = if y = 0 then 0 else numV (ps.getD 0 []) := fun he hv =>
      ⟨x + 1, ⟨h0, by omega, all_snoc hx' h4 ⟨he, hv⟩⟩, by omega, by omega, by rw [if_neg (by omega)]; exact hv⟩
    refine ⟨hlt, ts_get hx', hle x hx', fun he => hb ha fun h => he (h.2 _ (getD_mem hx')).1, fun he => ⟨fun hp => ⟨fun hv => hb ha fun h => hv ?_, fun hv => ⟨by omega, next he ?_⟩⟩, fun hp => ⟨by omega, next he ?_⟩⟩⟩
    · rw [if_neg (by omega)]; exact (h.2 _ (getD_mem hx')).2
    · rwa [if_neg (by omega)] at hv
    · have : x = 0 := by omega
      rw [this]
  · obtain ⟨_, h3, h4⟩ := hx
    rw [List.take_of_length_le (by omega)] at h4
    have : 0 < ps.length := List.length_pos_iff.2 h0
    rw [if_neg (by omega)]
    exact hg ha ⟨h0, h4⟩
theorem codQ_vc (l r : FL) (e : Nat) (ro : Bool) (c : Nat) (ex : Bool) (te : Nat) (hl : totL l ≤ 274877906944) : vCodQ l r e ro c ex te := by
  rw [vCodQ_eq]
  simp only [ic, cond_F, sameB_self, Nat.beq_refl]
  simp only [cond_P, leI_t, leI_f, ltI_t, ltI_f, eqI_t, eqI_f, and_t, not_t, not_f, dec_t, dec_f, Nat.zero_add, Nat.mul_one, List.drop_zero]
  simp only [cells_tsr, cells_fld, take_ts, ts_length, and_true, true_and, and_false, false_and, or_false, false_or, exists_false, Nat.le_refl, exists_const, false_implies, not_false_eq_true, true_implies, fldT_at, fldOk_at, getS_ts]
  simp only [show ([84, 114, 97, 110, 115, 102, 101, 114, 45, 69, 110, 99, 111, 100, 105, 110, 103] : List UInt8) = teN from rfl, show ([99, 104, 117, 110, 107, 101, 100] : List UInt8) = chN' from rfl]
  have t1 : ¬ allF l teN = [] → codT l = true := fun h => by simp [codT, h]
  refine ⟨hl, fun h => by simp [codT, codS, h], fun ha => ⟨fun h0 => absurd (List.length_eq_zero_iff.1 (by omega)) ha, fun _ => ⟨hl, fun h0 => ?_, fun h0 => ⟨fun h1 => ?_, fun h1 => ⟨by omega, ts_get (by omega), list_le hl teN (by omega), fun h2 => ?_, fun h2 => ?_⟩⟩⟩⟩⟩
  · exact ⟨(t1 ha).symm, (cod_bad ha (by simp [h0])).2⟩
  · exact ⟨(t1 ha).symm, (cod_bad ha (by omega)).2⟩
  · exact ⟨(t1 ha).symm, (cod_bad ha (fun h => h2 h.2)).2⟩
  · exact ⟨(t1 ha).symm, (cod_good ha ⟨by omega, h2⟩).2⟩
theorem tdiv_1 (st : Int) : st.tdiv 100 = 1 ↔ 100 ≤ st ∧ st ≤ 199 := by
  by_cases h : 0 ≤ st
  · rw [Int.tdiv_eq_ediv_of_nonneg h]; omega
  · have : st.tdiv 100 = -((-st) / 100) := by
      rw [← Int.tdiv_eq_ediv_of_nonneg (show 0 ≤ -st by omega), Int.neg_tdiv, Int.neg_neg]
    omega
theorem tdiv_2 (st : Int) : st.tdiv 100 = 2 ↔ 200 ≤ st ∧ st ≤ 299 := by
  by_cases h : 0 ≤ st
  · rw [Int.tdiv_eq_ediv_of_nonneg h]; omega
  · have : st.tdiv 100 = -((-st) / 100) := by
      rw [← Int.tdiv_eq_ediv_of_nonneg (show 0 ≤ -st by omega), Int.neg_tdiv, Int.neg_neg]
    omega
theorem bareQ_vc (m : List UInt8) (st : Int) : vBareQ m st := by
  rw [vBareQ_eq]
  simp only [cond_P, leI_t, leI_f, ltI_t, ltI_f, eqI_t, eqI_f, and_t, not_t, not_f, dec_t, dec_f, Nat.zero_add, Nat.mul_one, List.drop_zero]
  simp only [true_and, and_true, exists_const, show ([72, 69, 65, 68] : List UInt8) = headN from rfl, show ([67, 79, 78, 78, 69, 67, 84] : List UInt8) = conN from rfl]
  have hb : bareF m st = decide (m = headN ∨ (100 ≤ st ∧ st ≤ 199) ∨ st = 204 ∨ st = 304 ∨ (m = conN ∧ 200 ≤ st ∧ st ≤ 299)) := by
    unfold bareF
    exact decide_eq_decide.2 (by rw [tdiv_1, tdiv_2])
  have ht : (m = headN ∨ (100 ≤ st ∧ st ≤ 199) ∨ st = 204 ∨ st = 304 ∨ (m = conN ∧ 200 ≤ st ∧ st ≤ 299)) → true = bareF m st := fun h => by rw [hb, decide_eq_true h]
  have hf : ¬ (m = headN ∨ (100 ≤ st ∧ st ≤ 199) ∨ st = 204 ∨ st = 304 ∨ (m = conN ∧ 200 ≤ st ∧ st ≤ 299)) → false = bareF m st := fun h => by rw [hb, decide_eq_false h]
  have hl : ¬ m = headN → ¬ (100 ≤ st ∧ st ≤ 199) → st ≠ 204 → st ≠ 304 → m = conN → 200 ≤ st → leI st 299 = bareF m st := fun h1 h2 h3 h4 h5 h6 => by
    rw [hb, leI_eq]
    refine decide_eq_decide.2 ⟨fun h => .inr (.inr (.inr (.inr ⟨h5, h6, h⟩))), fun h => ?_⟩
    rcases h with h | h | h | h | h
    · exact absurd h h1
    · exact absurd h h2
    · exact absurd h h3
    · exact absurd h h4
    · exact h.2.2
  have hn : ¬ m = headN → ¬ (100 ≤ st ∧ st ≤ 199) → st ≠ 204 → st ≠ 304 → (m = conN → st < 200) → false = bareF m st := fun h1 h2 h3 h4 h5 => hf fun h => by
    rcases h with h | h | h | h | h
    · exact h1 h
    · exact h2 h
    · exact h3 h
    · exact h4 h
    · have := h5 h.1; omega
  refine ⟨fun h => ht (.inl h), fun h => ⟨fun h1 => ⟨fun h2 => ht (.inr (.inl ⟨h1, h2⟩)), fun h2 => ⟨fun h3 => ht (.inr (.inr (.inl h3))), fun h3 => ⟨fun h4 => ht (.inr (.inr (.inr (.inl h4)))), fun h4 => ⟨fun h5 => ⟨fun h6 => hl h (by omega) h3 h4 h5 h6, fun h6 => hn h (by omega) h3 h4 fun _ => h6⟩, fun h5 => hn h (by omega) h3 h4 fun h6 => absurd h6 h5⟩⟩⟩⟩,
    fun h1 => ⟨fun h3 => ht (.inr (.inr (.inl h3))), fun h3 => ⟨fun h4 => ht (.inr (.inr (.inr (.inl h4)))), fun h4 => ⟨fun h5 => ⟨fun h6 => hl h (by omega) h3 h4 h5 h6, fun h6 => hn h (by omega) h3 h4 fun _ => h6⟩, fun h5 => hn h (by omega) h3 h4 fun h6 => absurd h6 h5⟩⟩⟩⟩⟩
theorem lenN_pos {l : FL} (h : lenT l = false) : lenN l = 0 := by
  unfold lenT at h
  unfold lenN
  rw [if_pos (by simpa using h)]
theorem frameQ_vc (l r : FL) (e : Nat) (ro : Bool) (c : Nat) (ex : Bool) (minor : Int) (te : Nat) (hl : totL l ≤ 274877906944) : vFrameQ l r e ro c ex minor te := by
  rw [vFrameQ_eq]
  simp only [ic, cond_F, sameB_self, Nat.beq_refl]
  simp only [cond_P, leI_t, leI_f, ltI_t, ltI_f, eqI_t, eqI_f, and_t, not_t, not_f, dec_t, dec_f, Nat.zero_add, Nat.mul_one, List.drop_zero]
  simp only [cells_tsr, cells_fld, take_ts, ts_length, and_true, true_and, and_false, false_and, or_false, false_or, exists_false, Nat.le_refl, exists_const, false_implies, not_false_eq_true, true_implies, fldT_at, fldOk_at, getS_ts]
  refine ⟨hl, hl, ?_⟩
  have h0 := lenN_pos (l := l)
  unfold frL
  generalize lenN l = n at *
  generalize lenS l = bad
  generalize codS l = cs
  generalize lenT l = lt at *
  generalize codT l = cd
  cases cd <;> cases lt <;> by_cases h1 : minor = 0 <;> by_cases h2 : cs = 0 <;> by_cases h3 : bad = 0 <;> by_cases h4 : 0 < n <;> simp [frF, h1, h2, h3, h4] at h0 ⊢ <;> omega
theorem reqQ_vc (l r : FL) (e : Nat) (ro : Bool) (c : Nat) (ex : Bool) (minor : Int) (te : Nat) (hl : totL l ≤ 274877906944) : vReqQ l r e ro c ex minor te := by
  rw [vReqQ_eq]
  simp only [ic, cond_F, sameB_self, Nat.beq_refl]
  simp only [cond_P, leI_t, leI_f, ltI_t, ltI_f, eqI_t, eqI_f, and_t, not_t, not_f, dec_t, dec_f, Nat.zero_add, Nat.mul_one, List.drop_zero]
  simp only [cells_tsr, cells_fld, take_ts, ts_length, and_true, true_and, and_false, false_and, or_false, false_or, exists_false, Nat.le_refl, exists_const, false_implies, not_false_eq_true, true_implies, fldT_at, fldOk_at, getS_ts]
  exact hl
theorem respQ_vc (l r : FL) (e : Nat) (ro : Bool) (c : Nat) (ex : Bool) (m : List UInt8) (st minor : Int) (te : Nat) (hl : totL l ≤ 274877906944) (hs : inK .i64 st = true) : vRespQ l r e ro c ex m st minor te := by
  rw [vRespQ_eq]
  simp only [ic, cond_F, sameB_self, Nat.beq_refl]
  simp only [cond_P, leI_t, leI_f, ltI_t, ltI_f, eqI_t, eqI_f, and_t, not_t, not_f, dec_t, dec_f, Nat.zero_add, Nat.mul_one, List.drop_zero]
  simp only [cells_tsr, cells_fld, take_ts, ts_length, and_true, true_and, and_false, false_and, or_false, false_or, exists_false, Nat.le_refl, exists_const, false_implies, not_false_eq_true, true_implies, fldT_at, fldOk_at, getS_ts]
  have hs' := hs
  simp only [inK, leI_eq, Bool.and_eq_true, decide_eq_true_eq] at hs'
  refine ⟨hs', fun h => by simp [rsF, h], fun h => ⟨hl, fun h1 => by simp [rsF, h, h1], fun h1 => by simp [rsF, h, h1]⟩⟩
theorem lenQN_vc (te : Nat) : vLenQN te := by
  rw [vLenQN_eq]; simp [lenN, lenT, lenS, allF]
theorem lenQZ_vc (te : Nat) : vLenQZ te := by
  rw [vLenQZ_eq]; simp [lenN, lenT, lenS, allF]
theorem codQN_vc (te : Nat) : vCodQN te := by
  rw [vCodQN_eq]; simp [codT, codS, allF]
theorem codQZ_vc (te : Nat) : vCodQZ te := by
  rw [vCodQZ_eq]; simp [codT, codS, allF]
theorem frameQN_vc (minor : Int) (te : Nat) : vFrameQN minor te := by
  rw [vFrameQN_eq]; simp
theorem frameQZ_vc (minor : Int) (te : Nat) : vFrameQZ minor te := by
  rw [vFrameQZ_eq]; simp
theorem reqQN_vc (minor : Int) (te : Nat) : vReqQN minor te := by
  rw [vReqQN_eq]; simp
theorem reqQZ_vc (minor : Int) (te : Nat) : vReqQZ minor te := by
  rw [vReqQZ_eq]; simp
theorem respQN_vc (m : List UInt8) (st minor : Int) (te : Nat) (hs : inK .i64 st = true) : vRespQN m st minor te := by
  rw [vRespQN_eq]
  simp only [cond_F]
  refine ⟨hs, ?_⟩
  cases h : bareF m st <;> simp [rsF, h, frL_nil]
theorem respQZ_vc (m : List UInt8) (st minor : Int) (te : Nat) (hs : inK .i64 st = true) : vRespQZ m st minor te := by
  rw [vRespQZ_eq]
  simp only [cond_F]
  refine ⟨hs, ?_⟩
  cases h : bareF m st <;> simp [rsF, h, frL_nil]
theorem TQ_ok : SpecOk Tryd.prog (tabS TQ noS) := by
  refine tabS_ok (fun p hp => ?_) noS_ok
  simp only [TQ, List.mem_cons, List.mem_nil_iff, or_false] at hp
  rcases hp with rfl | rfl | rfl | rfl
  · exact eAllR_ok
  · exact eListR_ok
  · exact gNumR_ok
  · exact gSameR_ok
theorem eLengthQ_ok : EntryOk Tryd.prog 14 eLength := by
  refine eFl_ok fun args x F hg => ?_
  unfold gOne at hg
  split at hg
  · cases hg
    refine ⟨fun y => [y], rfl, fun _ _ => rfl, fun l b v hF hb te => ?_⟩
    cases hF
    refine ⟨rfl, fun h => ?_, fun h => ?_, fun r e ro c ex ht => ?_⟩
    · subst h; exact out1 (SC.ofF (V := VQ) names0 mixed0 TQ_ok noO_ok (lenQN_vc te))
    · subst h; exact out1 (SC.ofF (V := VQ) names0 mixed0 TQ_ok noO_ok (lenQZ_vc te))
    · exact out1 (SC.ofF (V := VQ) names0 mixed0 TQ_ok noO_ok (lenQ_vc l r e ro c ex te ht))
  · cases hg
theorem eCodedQ_ok : EntryOk Tryd.prog 16 eCoded := by
  refine eFl_ok fun args x F hg => ?_
  unfold gOne at hg
  split at hg
  · cases hg
    refine ⟨fun y => [y], rfl, fun _ _ => rfl, fun l b v hF hb te => ?_⟩
    cases hF
    refine ⟨rfl, fun h => ?_, fun h => ?_, fun r e ro c ex ht => ?_⟩
    · subst h; exact out1 (SC.ofF (V := VQ) names0 mixed0 TQ_ok noO_ok (codQN_vc te))
    · subst h; exact out1 (SC.ofF (V := VQ) names0 mixed0 TQ_ok noO_ok (codQZ_vc te))
    · exact out1 (SC.ofF (V := VQ) names0 mixed0 TQ_ok noO_ok (codQ_vc l r e ro c ex te ht))
  · cases hg
theorem TQ1_ok : SpecOk Tryd.prog (tabS TQ1 noS) := by
  refine tabS_ok (fun p hp => ?_) noS_ok
  simp only [TQ1, List.mem_cons, List.mem_nil_iff, or_false] at hp
  rcases hp with rfl | rfl
  · exact eLengthQ_ok
  · exact eCodedQ_ok
theorem gBareQ_ok : EntryOk Tryd.prog 18 (flatE gBare) := by
  refine flatE_ok fun args b v hg hb => ?_
  unfold gBare at hg
  split at hg
  · cases hg
    exact ⟨rfl, rfl, SC.one (V := VQ1) names0 mixed0 TQ1_ok noO_ok (bareQ_vc _ _)⟩
  · cases hg
theorem gFrQ_ok : EntryOk Tryd.prog 37 (eFl gFr) := by
  refine eFl_ok fun args x F hg => ?_
  unfold gFr at hg
  split at hg
  · rename_i minor y
    cases hg
    refine ⟨fun y => [.int .i64 minor, y], rfl, fun _ _ => rfl, fun l b v hF hb te => ?_⟩
    cases hF
    refine ⟨rfl, fun h => ?_, fun h => ?_, fun r e ro c ex ht => ?_⟩
    · subst h; exact out1 (SC.ofF (V := VQ1) names0 mixed0 TQ1_ok noO_ok (frameQN_vc minor te))
    · subst h; exact out1 (SC.ofF (V := VQ1) names0 mixed0 TQ1_ok noO_ok (frameQZ_vc minor te))
    · exact out1 (SC.ofF (V := VQ1) names0 mixed0 TQ1_ok noO_ok (frameQ_vc l r e ro c ex minor te ht))
  · cases hg
theorem TQ2_ok : SpecOk Tryd.prog (tabS TQ2 noS) := by
  refine tabS_ok (fun p hp => ?_) noS_ok
  simp only [TQ2, List.mem_cons, List.mem_nil_iff, or_false] at hp
  rcases hp with rfl | rfl
  · exact gFrQ_ok
  · exact gBareQ_ok
theorem gReqQ_ok : EntryOk Tryd.prog 10 (eFl gReq) := by
  refine eFl_ok fun args x F hg => ?_
  unfold gReq at hg
  split at hg
  · rename_i minor y
    cases hg
    refine ⟨fun y => [.int .i64 minor, y], rfl, fun _ _ => rfl, fun l b v hF hb te => ?_⟩
    cases hF
    refine ⟨rfl, fun h => ?_, fun h => ?_, fun r e ro c ex ht => ?_⟩
    · subst h; exact out1 (SC.ofF (V := VQ2) names0 mixed0 TQ2_ok noO_ok (reqQN_vc minor te))
    · subst h; exact out1 (SC.ofF (V := VQ2) names0 mixed0 TQ2_ok noO_ok (reqQZ_vc minor te))
    · exact out1 (SC.ofF (V := VQ2) names0 mixed0 TQ2_ok noO_ok (reqQ_vc l r e ro c ex minor te ht))
  · cases hg
theorem gRespQ_ok : EntryOk Tryd.prog 12 (eFl gResp) := by
  refine eFl_ok fun args x F hg => ?_
  unfold gResp at hg
  split at hg
  · rename_i m st minor y
    cases hg
    refine ⟨fun y => [.str m, .int .i64 st, .int .i64 minor, y], rfl, fun _ _ => rfl, fun l b v hF hb te => ?_⟩
    simp only [Option.some.injEq, Prod.mk.injEq] at hF
    obtain ⟨rfl, rfl⟩ := hF
    refine ⟨rfl, fun h => ?_, fun h => ?_, fun r e ro c ex ht => ?_⟩
    · subst h; exact out1 (SC.ofF (V := VQ2) names0 mixed0 TQ2_ok noO_ok (respQN_vc m st minor te hb))
    · subst h; exact out1 (SC.ofF (V := VQ2) names0 mixed0 TQ2_ok noO_ok (respQZ_vc m st minor te hb))
    · exact out1 (SC.ofF (V := VQ2) names0 mixed0 TQ2_ok noO_ok (respQ_vc l r e ro c ex m st minor te ht hb))
  · cases hg
end Go.Proofs.YtciciemaldbidaaDoor

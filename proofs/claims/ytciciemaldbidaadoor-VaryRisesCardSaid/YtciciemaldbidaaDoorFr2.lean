/- What framing.Length and framing.Coded answer. -/
import Derived.Test.YtciciemaldbidaaDoorNum
set_option linter.unusedSimpArgs false
set_option linter.unusedVariables false
namespace Go.Proofs.YtciciemaldbidaaDoor
open Go Go.Ve
set_option maxRecDepth 20000
def clN : List UInt8 := [67, 111, 110, 116, 101, 110, 116, 45, 76, 101, 110, 103, 116, 104]
def teN : List UInt8 := [84, 114, 97, 110, 115, 102, 101, 114, 45, 69, 110, 99, 111, 100, 105, 110, 103]
def chN' : List UInt8 := [99, 104, 117, 110, 107, 101, 100]
def lenOk (ps : LL) : Bool := decide (ps ≠ [] ∧ ∀ p ∈ ps, numE p = 0 ∧ numV p = numV (ps.getD 0 []))
def lenT (l : FL) : Bool := !decide (allF l clN = [])
def lenS (l : FL) : Int := if allF l clN = [] then 0 else if lenOk (listF l clN) = true then 0 else 400
def lenN (l : FL) : Int := if allF l clN = [] then 0 else if lenOk (listF l clN) = true then numV ((listF l clN).getD 0 []) else 0
def lenV (l : FL) : AV := .tuple [.int .i64 (lenN l), .bool (lenT l), .int .i64 (lenS l)]
def codOk (ps : LL) : Bool := decide (ps.length = 1 ∧ lower (ps.getD 0 []) = lower chN')
def codT (l : FL) : Bool := !decide (allF l teN = [])
def codS (l : FL) : Int := if allF l teN = [] then 0 else if codOk (listF l teN) = true then 0 else 501
def codV (l : FL) : AV := .tuple [.bool (codT l), .int .i64 (codS l)]
noncomputable def TF : List (Nat × SpecE) := [(38, eGet), (39, eList), (40, eNum), (43, flatE gSame)]
noncomputable def VF : VE := ⟨Tryd.prog, tabS TF noS, noO, fun _ => none⟩
noncomputable def aLen (l r : FL) (ps : LL) (e : Nat) (ro : Bool) (te : Nat) : Anns := [(5, [
  .mk Unit (fun _ => [(20, .int .i64 0), (5, .nilptr), (2, .int .i64 0), (3, .bool true), (4, .int .i64 0)]) (fun _ => some [gErr te, .cells (fieldC (l ++ r)) e ro]) (fun _ => ps = []) (fun _ => 0) gcB gcB (fun _ => [(23, .str [])]) (fun _ => []),
  .mk Unit (fun _ => [(20, .int .i64 0), (5, .nilptr), (2, .int .i64 0), (3, .bool true), (4, .int .i64 0)]) (fun _ => some [gErr te, .cells (fieldC (l ++ r)) e ro, .cells (ts ps) eT false]) (fun _ => ps ≠ []) (fun _ => ps.length) gcB gcB (fun _ => [(23, .str (ps.getD 0 []))]) (fun _ => []),
  .mk Nat (fun i => [(20, .int .i64 i), (5, .ptr 3 0), (2, .int .i64 0), (3, .bool true), (4, .int .i64 0)]) (fun _ => some [gErr te, .cells (fieldC (l ++ r)) e ro, .cells (ts ps) eT false, .cells [.int .i64 (numV (ps.getD 0 []))] 0 false]) (fun i => ps ≠ [] ∧ 0 < i ∧ i ≤ ps.length ∧ ∀ p ∈ ps.take i, numE p = 0 ∧ numV p = numV (ps.getD 0 [])) (fun i => ps.length - i) gcB gcB (fun i => [(23, .str (ps.getD i []))]) (fun _ => [])])]
noncomputable def outG (l r : FL) (e : Nat) (ro : Bool) (v : AV) (te : Nat) : List Out := [⟨Unit, fun _ => v, fun _ => [gErr te, .cells (fieldC (l ++ r)) e ro], fun _ => True, gcB⟩]
noncomputable def outGn (v : AV) (te : Nat) : List Out := [⟨Unit, fun _ => v, fun _ => [gErr te], fun _ => True, gcB⟩]

noncomputable def vLengthN  (te : Nat) : Prop := vcF VF [(8, .quiet)] 300 [] [] 13 [.nilsl] [gErr te] (outGn (lenV []) te)
noncomputable def vLengthZ  (te : Nat) : Prop := vcF VF [(8, .quiet)] 300 [] [] 13 [.slz] [gErr te] (outGn (lenV []) te)
noncomputable def vLength  (l r : FL) (e : Nat) (ro : Bool) (c : Nat) (ex : Bool) (te : Nat) : Prop := vcF VF [(8, .quiet)] 300 (aLen l r (listF l clN) e ro te) [] 13 [.sl 1 0 l.length c ex] [gErr te, .cells (fieldC (l ++ r)) e ro] (outG l r e ro (lenV l) te)
noncomputable def vCodedN  (te : Nat) : Prop := vcF VF [] 300 [] [] 15 [.nilsl] [gErr te] (outGn (codV []) te)
noncomputable def vCodedZ  (te : Nat) : Prop := vcF VF [] 300 [] [] 15 [.slz] [gErr te] (outGn (codV []) te)
noncomputable def vCoded  (l r : FL) (e : Nat) (ro : Bool) (c : Nat) (ex : Bool) (te : Nat) : Prop := vcF VF [] 300 [] [(20, .str ((listF l teN).getD 0 []))] 15 [.sl 1 0 l.length c ex] [gErr te, .cells (fieldC (l ++ r)) e ro] (outG l r e ro (codV l) te)
theorem vLengthN_eq  (te : Nat) : vLengthN te = ((True ∧ true = true) ∧ ∃ (_x : Unit), True ∧ (((1 : Nat) = (1 : Nat) ∧ (te = te ∧ True) ∧ True) ∧ True) ∧ ((0 : Int) = (0 : Int) ∧ false = false ∧ (0 : Int) = (0 : Int) ∧ True) ∧ True) := by kernel_rfl
theorem vLengthZ_eq  (te : Nat) : vLengthZ te = ((True ∧ true = true) ∧ ∃ (_x : Unit), True ∧ (((1 : Nat) = (1 : Nat) ∧ (te = te ∧ True) ∧ True) ∧ True) ∧ ((0 : Int) = (0 : Int) ∧ false = false ∧ (0 : Int) = (0 : Int) ∧ True) ∧ True) := by kernel_rfl
theorem vLength_eq  (l r : FL) (e : Nat) (ro : Bool) (c : Nat) (ex : Bool) (te : Nat) : vLength l r e ro c ex te = ((fldOk (fieldC (l ++ r)) (List.length l) ∧ true = true) ∧ bif !!decide (allF (fldT (fieldC (l ++ r)) (List.length l)) [(67 : UInt8), (111 : UInt8), (110 : UInt8), (116 : UInt8), (101 : UInt8), (110 : UInt8), (116 : UInt8), (45 : UInt8), (76 : UInt8), (101 : UInt8), (110 : UInt8), (103 : UInt8), (116 : UInt8), (104 : UInt8)] = []) then ∃ (_x : Unit), True ∧ (((1 : Nat) = (1 : Nat) ∧ (te = te ∧ True) ∧ True) ∧ (bif e.beq e && sameB ro ro then cellsP (fun (b : Nat) => [(0 : Nat), (1 : Nat)].getD b (2 : Nat)) (fieldC (l ++ r)) (fieldC (l ++ r)) ∧ True else False) ∧ True) ∧ ((0 : Int) = lenN l ∧ (!decide (allF (fldT (fieldC (l ++ r)) (List.length l)) [(67 : UInt8), (111 : UInt8), (110 : UInt8), (116 : UInt8), (101 : UInt8), (110 : UInt8), (116 : UInt8), (45 : UInt8), (76 : UInt8), (101 : UInt8), (110 : UInt8), (103 : UInt8), (116 : UInt8), (104 : UInt8)] = [])) = lenT l ∧ (0 : Int) = lenS l ∧ True) ∧ True else (fldOk (fieldC (l ++ r)) (List.length l) ∧ true = true) ∧ bif decide (listF (fldT (fieldC (l ++ r)) (List.length l)) [(67 : UInt8), (111 : UInt8), (110 : UInt8), (116 : UInt8), (101 : UInt8), (110 : UInt8), (116 : UInt8), (45 : UInt8), (76 : UInt8), (101 : UInt8), (110 : UInt8), (103 : UInt8), (116 : UInt8), (104 : UInt8)] = []) then ((∃ (_x : Unit), listF l clN = [] ∧ (((1 : Nat) = (1 : Nat) ∧ (te = te ∧ True) ∧ True) ∧ (bif e.beq e && sameB ro ro then cellsP (fun (b : Nat) => [(0 : Nat), (1 : Nat)].getD b (2 : Nat)) (fieldC (l ++ r)) (fieldC (l ++ r)) ∧ True else False) ∧ True) ∧ (0 : Int) = (0 : Int) ∧ True ∧ (0 : Int) = (0 : Int) ∧ (!decide (allF (fldT (fieldC (l ++ r)) (List.length l)) [(67 : UInt8), (111 : UInt8), (110 : UInt8), (116 : UInt8), (101 : UInt8), (110 : UInt8), (116 : UInt8), (45 : UInt8), (76 : UInt8), (101 : UInt8), (110 : UInt8), (103 : UInt8), (116 : UInt8), (104 : UInt8)] = [])) = true ∧ (0 : Int) = (0 : Int) ∧ True) ∨ (∃ (_x : Unit), listF l clN ≠ [] ∧ False) ∨ ∃ (x : Nat), (listF l clN ≠ [] ∧ (0 : Nat) < x ∧ x ≤ List.length (listF l clN) ∧ ∀ (p : List UInt8), p ∈ List.take x (listF l clN) → numE p = (0 : Int) ∧ numV p = numV (List.getD (listF l clN) (0 : Nat) [])) ∧ False) ∧ (∀ (x : Unit), listF l clN = [] → ∃ (_x : Unit), True ∧ (((1 : Nat) = (1 : Nat) ∧ (te = te ∧ True) ∧ True) ∧ (bif e.beq e && sameB ro ro then cellsP (fun (b : Nat) => [(0 : Nat), (1 : Nat)].getD b (2 : Nat)) (fieldC (l ++ r)) (fieldC (l ++ r)) ∧ True else False) ∧ True) ∧ ((0 : Int) = lenN l ∧ true = lenT l ∧ (400 : Int) = lenS l ∧ True) ∧ True) ∧ (∀ (x : Unit), listF l clN ≠ [] → ∃ (_x : Unit), True ∧ (((1 : Nat) = (1 : Nat) ∧ (te = te ∧ True) ∧ True) ∧ (bif e.beq e && sameB ro ro then cellsP (fun (b : Nat) => [(0 : Nat), (1 : Nat)].getD b (3 : Nat)) (fieldC (l ++ r)) (fieldC (l ++ r)) ∧ True else False) ∧ True) ∧ ((0 : Int) = lenN l ∧ true = lenT l ∧ (400 : Int) = lenS l ∧ True) ∧ True) ∧ ∀ (x : Nat), (listF l clN ≠ [] ∧ (0 : Nat) < x ∧ x ≤ List.length (listF l clN) ∧ ∀ (p : List UInt8), p ∈ List.take x (listF l clN) → numE p = (0 : Int) ∧ numV p = numV (List.getD (listF l clN) (0 : Nat) [])) → ∃ (_x : Unit), True ∧ (((1 : Nat) = (1 : Nat) ∧ (te = te ∧ True) ∧ True) ∧ (bif e.beq e && sameB ro ro then cellsP (fun (b : Nat) => [(0 : Nat), (1 : Nat)].getD b (4 : Nat)) (fieldC (l ++ r)) (fieldC (l ++ r)) ∧ True else False) ∧ True) ∧ (numV (List.getD (listF l clN) (0 : Nat) []) = lenN l ∧ true = lenT l ∧ (0 : Int) = lenS l ∧ True) ∧ True else ((∃ (_x : Unit), listF l clN = [] ∧ False) ∨ (∃ (_x : Unit), listF l clN ≠ [] ∧ (((1 : Nat) = (1 : Nat) ∧ (te = te ∧ True) ∧ True) ∧ (bif e.beq e && sameB ro ro then cellsP (fun (b : Nat) => [(0 : Nat), (1 : Nat), (2 : Nat)].getD b (3 : Nat)) (fieldC (l ++ r)) (fieldC (l ++ r)) ∧ True else False) ∧ (cellsP (fun (b : Nat) => [(0 : Nat), (1 : Nat), (2 : Nat)].getD b (3 : Nat)) (ts (listF l clN)) (ts (listF (fldT (fieldC (l ++ r)) (List.length l)) [(67 : UInt8), (111 : UInt8), (110 : UInt8), (116 : UInt8), (101 : UInt8), (110 : UInt8), (116 : UInt8), (45 : UInt8), (76 : UInt8), (101 : UInt8), (110 : UInt8), (103 : UInt8), (116 : UInt8), (104 : UInt8)])) ∧ True) ∧ True) ∧ (0 : Int) = (0 : Int) ∧ True ∧ (0 : Int) = (0 : Int) ∧ (!decide (allF (fldT (fieldC (l ++ r)) (List.length l)) [(67 : UInt8), (111 : UInt8), (110 : UInt8), (116 : UInt8), (101 : UInt8), (110 : UInt8), (116 : UInt8), (45 : UInt8), (76 : UInt8), (101 : UInt8), (110 : UInt8), (103 : UInt8), (116 : UInt8), (104 : UInt8)] = [])) = true ∧ (0 : Int) = (0 : Int) ∧ True) ∨ ∃ (x : Nat), (listF l clN ≠ [] ∧ (0 : Nat) < x ∧ x ≤ List.length (listF l clN) ∧ ∀ (p : List UInt8), p ∈ List.take x (listF l clN) → numE p = (0 : Int) ∧ numV p = numV (List.getD (listF l clN) (0 : Nat) [])) ∧ False) ∧ (∀ (x : Unit), listF l clN = [] → bif ltI (0 : Int) (ic (List.length (listF (fldT (fieldC (l ++ r)) (List.length l)) [(67 : UInt8), (111 : UInt8), (110 : UInt8), (116 : UInt8), (101 : UInt8), (110 : UInt8), (116 : UInt8), (45 : UInt8), (76 : UInt8), (101 : UInt8), (110 : UInt8), (103 : UInt8), (116 : UInt8), (104 : UInt8)]))) then bif ltI (0 : Int) (ic (List.length (listF (fldT (fieldC (l ++ r)) (List.length l)) [(67 : UInt8), (111 : UInt8), (110 : UInt8), (116 : UInt8), (101 : UInt8), (110 : UInt8), (116 : UInt8), (45 : UInt8), (76 : UInt8), (101 : UInt8), (110 : UInt8), (103 : UInt8), (116 : UInt8), (104 : UInt8)]))) then none = some (AO.val (AV.str []) none) ∧ ∃ (_x : Unit), True ∧ (((1 : Nat) = (1 : Nat) ∧ (te = te ∧ True) ∧ True) ∧ (bif e.beq e && sameB ro ro then cellsP (fun (b : Nat) => [(0 : Nat), (1 : Nat)].getD b (3 : Nat)) (fieldC (l ++ r)) (fieldC (l ++ r)) ∧ True else False) ∧ True) ∧ ((0 : Int) = lenN l ∧ true = lenT l ∧ (400 : Int) = lenS l ∧ True) ∧ True else False else ∃ (_x : Unit), True ∧ (((1 : Nat) = (1 : Nat) ∧ (te = te ∧ True) ∧ True) ∧ (bif e.beq e && sameB ro ro then cellsP (fun (b : Nat) => [(0 : Nat), (1 : Nat)].getD b (2 : Nat)) (fieldC (l ++ r)) (fieldC (l ++ r)) ∧ True else False) ∧ True) ∧ ((0 : Int) = lenN l ∧ true = lenT l ∧ (400 : Int) = lenS l ∧ True) ∧ True) ∧ (∀ (x : Unit), listF l clN ≠ [] → bif ltI (0 : Int) (ic (List.length (listF (fldT (fieldC (l ++ r)) (List.length l)) [(67 : UInt8), (111 : UInt8), (110 : UInt8), (116 : UInt8), (101 : UInt8), (110 : UInt8), (116 : UInt8), (45 : UInt8), (76 : UInt8), (101 : UInt8), (110 : UInt8), (103 : UInt8), (116 : UInt8), (104 : UInt8)]))) then bif ltI (0 : Int) (ic (List.length (listF (fldT (fieldC (l ++ r)) (List.length l)) [(67 : UInt8), (111 : UInt8), (110 : UInt8), (116 : UInt8), (101 : UInt8), (110 : UInt8), (116 : UInt8), (45 : UInt8), (76 : UInt8), (101 : UInt8), (110 : UInt8), (103 : UInt8), (116 : UInt8), (104 : UInt8)]))) then (ts (listF l clN))[(0 : Nat)]? = some (AV.str (List.getD (listF l clN) (0 : Nat) [])) ∧ bif le40 (List.getD (listF l clN) (0 : Nat) []) then bif !eqI (numE (List.getD (listF l clN) (0 : Nat) [])) (0 : Int) then ∃ (_x : Unit), True ∧ (((1 : Nat) = (1 : Nat) ∧ (te = te ∧ True) ∧ True) ∧ (bif e.beq e && sameB ro ro then cellsP (fun (b : Nat) => [(0 : Nat), (1 : Nat)].getD b (4 : Nat)) (fieldC (l ++ r)) (fieldC (l ++ r)) ∧ True else False) ∧ True) ∧ ((0 : Int) = lenN l ∧ true = lenT l ∧ (400 : Int) = lenS l ∧ True) ∧ True else (∃ (_x : Unit), listF l clN = [] ∧ (0 : Nat) < List.length (listF l clN) ∧ False) ∨ (∃ (_x : Unit), listF l clN ≠ [] ∧ List.length (listF l clN) < List.length (listF l clN) ∧ (((1 : Nat) = (1 : Nat) ∧ (te = te ∧ True) ∧ True) ∧ (bif e.beq e && sameB ro ro then cellsP (fun (b : Nat) => [(0 : Nat), (1 : Nat), (2 : Nat)].getD b (4 : Nat)) (fieldC (l ++ r)) (fieldC (l ++ r)) ∧ True else False) ∧ (cellsP (fun (b : Nat) => [(0 : Nat), (1 : Nat), (2 : Nat)].getD b (4 : Nat)) (ts (listF l clN)) (ts (listF l clN)) ∧ True) ∧ True) ∧ (1 : Int) = (0 : Int) ∧ False ∧ (0 : Int) = (0 : Int) ∧ true = true ∧ (0 : Int) = (0 : Int) ∧ True) ∨ ∃ (y : Nat), (listF l clN ≠ [] ∧ (0 : Nat) < y ∧ y ≤ List.length (listF l clN) ∧ ∀ (p : List UInt8), p ∈ List.take y (listF l clN) → numE p = (0 : Int) ∧ numV p = numV (List.getD (listF l clN) (0 : Nat) [])) ∧ List.length (listF l clN) - y < List.length (listF l clN) ∧ (((1 : Nat) = (1 : Nat) ∧ (te = te ∧ True) ∧ True) ∧ (bif e.beq e && sameB ro ro then cellsP (fun (b : Nat) => [(0 : Nat), (1 : Nat), (2 : Nat), (3 : Nat)].getD b (4 : Nat)) (fieldC (l ++ r)) (fieldC (l ++ r)) ∧ True else False) ∧ (cellsP (fun (b : Nat) => [(0 : Nat), (1 : Nat), (2 : Nat), (3 : Nat)].getD b (4 : Nat)) (ts (listF l clN)) (ts (listF l clN)) ∧ True) ∧ ((numV (List.getD (listF l clN) (0 : Nat) []) = numV (List.getD (listF l clN) (0 : Nat) []) ∧ True) ∧ True) ∧ True) ∧ (1 : Int) = ic y ∧ (0 : Nat) = (0 : Nat) ∧ (0 : Int) = (0 : Int) ∧ true = true ∧ (0 : Int) = (0 : Int) ∧ True else False else False else ∃ (_x : Unit), True ∧ (((1 : Nat) = (1 : Nat) ∧ (te = te ∧ True) ∧ True) ∧ (bif e.beq e && sameB ro ro then cellsP (fun (b : Nat) => [(0 : Nat), (1 : Nat)].getD b (3 : Nat)) (fieldC (l ++ r)) (fieldC (l ++ r)) ∧ True else False) ∧ True) ∧ ((0 : Int) = lenN l ∧ true = lenT l ∧ (400 : Int) = lenS l ∧ True) ∧ True) ∧ ∀ (x : Nat), (listF l clN ≠ [] ∧ (0 : Nat) < x ∧ x ≤ List.length (listF l clN) ∧ ∀ (p : List UInt8), p ∈ List.take x (listF l clN) → numE p = (0 : Int) ∧ numV p = numV (List.getD (listF l clN) (0 : Nat) [])) → bif ltI (ic x) (ic (List.length (listF (fldT (fieldC (l ++ r)) (List.length l)) [(67 : UInt8), (111 : UInt8), (110 : UInt8), (116 : UInt8), (101 : UInt8), (110 : UInt8), (116 : UInt8), (45 : UInt8), (76 : UInt8), (101 : UInt8), (110 : UInt8), (103 : UInt8), (116 : UInt8), (104 : UInt8)]))) then bif ltI (ic x) (ic (List.length (listF (fldT (fieldC (l ++ r)) (List.length l)) [(67 : UInt8), (111 : UInt8), (110 : UInt8), (116 : UInt8), (101 : UInt8), (110 : UInt8), (116 : UInt8), (45 : UInt8), (76 : UInt8), (101 : UInt8), (110 : UInt8), (103 : UInt8), (116 : UInt8), (104 : UInt8)]))) then (ts (listF l clN))[(0 : Nat) + x * (1 : Nat)]? = some (AV.str (List.getD (listF l clN) x [])) ∧ bif le40 (List.getD (listF l clN) x []) then bif !eqI (numE (List.getD (listF l clN) x [])) (0 : Int) then ∃ (_x : Unit), True ∧ (((1 : Nat) = (1 : Nat) ∧ (te = te ∧ True) ∧ True) ∧ (bif e.beq e && sameB ro ro then cellsP (fun (b : Nat) => [(0 : Nat), (1 : Nat)].getD b (5 : Nat)) (fieldC (l ++ r)) (fieldC (l ++ r)) ∧ True else False) ∧ True) ∧ ((0 : Int) = lenN l ∧ true = lenT l ∧ (400 : Int) = lenS l ∧ True) ∧ True else bif !eqI (numV (List.getD (listF l clN) (0 : Nat) [])) (numV (List.getD (listF l clN) x [])) then ∃ (_x : Unit), True ∧ (((1 : Nat) = (1 : Nat) ∧ (te = te ∧ True) ∧ True) ∧ (bif e.beq e && sameB ro ro then cellsP (fun (b : Nat) => [(0 : Nat), (1 : Nat)].getD b (5 : Nat)) (fieldC (l ++ r)) (fieldC (l ++ r)) ∧ True else False) ∧ True) ∧ ((0 : Int) = lenN l ∧ true = lenT l ∧ (400 : Int) = lenS l ∧ True) ∧ True else bif leI (ic x + (1 : Int)) (9223372036854775807 : Int) then (∃ (_x : Unit), listF l clN = [] ∧ (0 : Nat) < List.length (listF l clN) - x ∧ False) ∨ (∃ (_x : Unit), listF l clN ≠ [] ∧ List.length (listF l clN) < List.length (listF l clN) - x ∧ (((1 : Nat) = (1 : Nat) ∧ (te = te ∧ True) ∧ True) ∧ (bif e.beq e && sameB ro ro then cellsP (fun (b : Nat) => [(0 : Nat), (1 : Nat), (2 : Nat)].getD b (5 : Nat)) (fieldC (l ++ r)) (fieldC (l ++ r)) ∧ True else False) ∧ (cellsP (fun (b : Nat) => [(0 : Nat), (1 : Nat), (2 : Nat)].getD b (5 : Nat)) (ts (listF l clN)) (ts (listF l clN)) ∧ True) ∧ True) ∧ ic x + (1 : Int) = (0 : Int) ∧ False ∧ (0 : Int) = (0 : Int) ∧ true = true ∧ (0 : Int) = (0 : Int) ∧ True) ∨ ∃ (y : Nat), (listF l clN ≠ [] ∧ (0 : Nat) < y ∧ y ≤ List.length (listF l clN) ∧ ∀ (p : List UInt8), p ∈ List.take y (listF l clN) → numE p = (0 : Int) ∧ numV p = numV (List.getD (listF l clN) (0 : Nat) [])) ∧ List.length (listF l clN) - y < List.length (listF l clN) - x ∧ (((1 : Nat) = (1 : Nat) ∧ (te = te ∧ True) ∧ True) ∧ (bif e.beq e && sameB ro ro then cellsP (fun (b : Nat) => [(0 : Nat), (1 : Nat), (2 : Nat), (4 : Nat)].getD b (5 : Nat)) (fieldC (l ++ r)) (fieldC (l ++ r)) ∧ True else False) ∧ (cellsP (fun (b : Nat) => [(0 : Nat), (1 : Nat), (2 : Nat), (4 : Nat)].getD b (5 : Nat)) (ts (listF l clN)) (ts (listF l clN)) ∧ True) ∧ ((numV (List.getD (listF l clN) x []) = numV (List.getD (listF l clN) (0 : Nat) []) ∧ True) ∧ True) ∧ True) ∧ ic x + (1 : Int) = ic y ∧ (0 : Nat) = (0 : Nat) ∧ (0 : Int) = (0 : Int) ∧ true = true ∧ (0 : Int) = (0 : Int) ∧ True else False else False else False else ∃ (_x : Unit), True ∧ (((1 : Nat) = (1 : Nat) ∧ (te = te ∧ True) ∧ True) ∧ (bif e.beq e && sameB ro ro then cellsP (fun (b : Nat) => [(0 : Nat), (1 : Nat)].getD b (4 : Nat)) (fieldC (l ++ r)) (fieldC (l ++ r)) ∧ True else False) ∧ True) ∧ (numV (List.getD (listF l clN) (0 : Nat) []) = lenN l ∧ true = lenT l ∧ (0 : Int) = lenS l ∧ True) ∧ True) := by kernel_rfl
theorem vCodedN_eq  (te : Nat) : vCodedN te = ((True ∧ true = true) ∧ ∃ (_x : Unit), True ∧ (((1 : Nat) = (1 : Nat) ∧ (te = te ∧ True) ∧ True) ∧ True) ∧ (false = false ∧ (0 : Int) = (0 : Int) ∧ True) ∧ True) := by kernel_rfl
theorem vCodedZ_eq  (te : Nat) : vCodedZ te = ((True ∧ true = true) ∧ ∃ (_x : Unit), True ∧ (((1 : Nat) = (1 : Nat) ∧ (te = te ∧ True) ∧ True) ∧ True) ∧ (false = false ∧ (0 : Int) = (0 : Int) ∧ True) ∧ True) := by kernel_rfl
theorem vCoded_eq  (l r : FL) (e : Nat) (ro : Bool) (c : Nat) (ex : Bool) (te : Nat) : vCoded l r e ro c ex te = ((fldOk (fieldC (l ++ r)) (List.length l) ∧ true = true) ∧ bif !!decide (allF (fldT (fieldC (l ++ r)) (List.length l)) [(84 : UInt8), (114 : UInt8), (97 : UInt8), (110 : UInt8), (115 : UInt8), (102 : UInt8), (101 : UInt8), (114 : UInt8), (45 : UInt8), (69 : UInt8), (110 : UInt8), (99 : UInt8), (111 : UInt8), (100 : UInt8), (105 : UInt8), (110 : UInt8), (103 : UInt8)] = []) then ∃ (_x : Unit), True ∧ (((1 : Nat) = (1 : Nat) ∧ (te = te ∧ True) ∧ True) ∧ (bif e.beq e && sameB ro ro then cellsP (fun (b : Nat) => [(0 : Nat), (1 : Nat)].getD b (2 : Nat)) (fieldC (l ++ r)) (fieldC (l ++ r)) ∧ True else False) ∧ True) ∧ ((!decide (allF (fldT (fieldC (l ++ r)) (List.length l)) [(84 : UInt8), (114 : UInt8), (97 : UInt8), (110 : UInt8), (115 : UInt8), (102 : UInt8), (101 : UInt8), (114 : UInt8), (45 : UInt8), (69 : UInt8), (110 : UInt8), (99 : UInt8), (111 : UInt8), (100 : UInt8), (105 : UInt8), (110 : UInt8), (103 : UInt8)] = [])) = codT l ∧ (0 : Int) = codS l ∧ True) ∧ True else (fldOk (fieldC (l ++ r)) (List.length l) ∧ true = true) ∧ bif decide (listF (fldT (fieldC (l ++ r)) (List.length l)) [(84 : UInt8), (114 : UInt8), (97 : UInt8), (110 : UInt8), (115 : UInt8), (102 : UInt8), (101 : UInt8), (114 : UInt8), (45 : UInt8), (69 : UInt8), (110 : UInt8), (99 : UInt8), (111 : UInt8), (100 : UInt8), (105 : UInt8), (110 : UInt8), (103 : UInt8)] = []) then ∃ (_x : Unit), True ∧ (((1 : Nat) = (1 : Nat) ∧ (te = te ∧ True) ∧ True) ∧ (bif e.beq e && sameB ro ro then cellsP (fun (b : Nat) => [(0 : Nat), (1 : Nat)].getD b (2 : Nat)) (fieldC (l ++ r)) (fieldC (l ++ r)) ∧ True else False) ∧ True) ∧ ((!decide (allF (fldT (fieldC (l ++ r)) (List.length l)) [(84 : UInt8), (114 : UInt8), (97 : UInt8), (110 : UInt8), (115 : UInt8), (102 : UInt8), (101 : UInt8), (114 : UInt8), (45 : UInt8), (69 : UInt8), (110 : UInt8), (99 : UInt8), (111 : UInt8), (100 : UInt8), (105 : UInt8), (110 : UInt8), (103 : UInt8)] = [])) = codT l ∧ (501 : Int) = codS l ∧ True) ∧ True else bif !eqI (ic (List.length (listF (fldT (fieldC (l ++ r)) (List.length l)) [(84 : UInt8), (114 : UInt8), (97 : UInt8), (110 : UInt8), (115 : UInt8), (102 : UInt8), (101 : UInt8), (114 : UInt8), (45 : UInt8), (69 : UInt8), (110 : UInt8), (99 : UInt8), (111 : UInt8), (100 : UInt8), (105 : UInt8), (110 : UInt8), (103 : UInt8)]))) (1 : Int) then ∃ (_x : Unit), True ∧ (((1 : Nat) = (1 : Nat) ∧ (te = te ∧ True) ∧ True) ∧ (bif e.beq e && sameB ro ro then cellsP (fun (b : Nat) => [(0 : Nat), (1 : Nat)].getD b (3 : Nat)) (fieldC (l ++ r)) (fieldC (l ++ r)) ∧ True else False) ∧ True) ∧ ((!decide (allF (fldT (fieldC (l ++ r)) (List.length l)) [(84 : UInt8), (114 : UInt8), (97 : UInt8), (110 : UInt8), (115 : UInt8), (102 : UInt8), (101 : UInt8), (114 : UInt8), (45 : UInt8), (69 : UInt8), (110 : UInt8), (99 : UInt8), (111 : UInt8), (100 : UInt8), (105 : UInt8), (110 : UInt8), (103 : UInt8)] = [])) = codT l ∧ (501 : Int) = codS l ∧ True) ∧ True else bif ltI (0 : Int) (ic (List.length (listF (fldT (fieldC (l ++ r)) (List.length l)) [(84 : UInt8), (114 : UInt8), (97 : UInt8), (110 : UInt8), (115 : UInt8), (102 : UInt8), (101 : UInt8), (114 : UInt8), (45 : UInt8), (69 : UInt8), (110 : UInt8), (99 : UInt8), (111 : UInt8), (100 : UInt8), (105 : UInt8), (110 : UInt8), (103 : UInt8)]))) then (ts (listF (fldT (fieldC (l ++ r)) (List.length l)) [(84 : UInt8), (114 : UInt8), (97 : UInt8), (110 : UInt8), (115 : UInt8), (102 : UInt8), (101 : UInt8), (114 : UInt8), (45 : UInt8), (69 : UInt8), (110 : UInt8), (99 : UInt8), (111 : UInt8), (100 : UInt8), (105 : UInt8), (110 : UInt8), (103 : UInt8)]))[(0 : Nat)]? = some (AV.str (List.getD (listF l teN) (0 : Nat) [])) ∧ bif le40 (List.getD (listF l teN) (0 : Nat) []) && true then bif !decide (lower (List.getD (listF l teN) (0 : Nat) []) = lower [(99 : UInt8), (104 : UInt8), (117 : UInt8), (110 : UInt8), (107 : UInt8), (101 : UInt8), (100 : UInt8)]) then ∃ (_x : Unit), True ∧ (((1 : Nat) = (1 : Nat) ∧ (te = te ∧ True) ∧ True) ∧ (bif e.beq e && sameB ro ro then cellsP (fun (b : Nat) => [(0 : Nat), (1 : Nat)].getD b (3 : Nat)) (fieldC (l ++ r)) (fieldC (l ++ r)) ∧ True else False) ∧ True) ∧ ((!decide (allF (fldT (fieldC (l ++ r)) (List.length l)) [(84 : UInt8), (114 : UInt8), (97 : UInt8), (110 : UInt8), (115 : UInt8), (102 : UInt8), (101 : UInt8), (114 : UInt8), (45 : UInt8), (69 : UInt8), (110 : UInt8), (99 : UInt8), (111 : UInt8), (100 : UInt8), (105 : UInt8), (110 : UInt8), (103 : UInt8)] = [])) = codT l ∧ (501 : Int) = codS l ∧ True) ∧ True else ∃ (_x : Unit), True ∧ (((1 : Nat) = (1 : Nat) ∧ (te = te ∧ True) ∧ True) ∧ (bif e.beq e && sameB ro ro then cellsP (fun (b : Nat) => [(0 : Nat), (1 : Nat)].getD b (3 : Nat)) (fieldC (l ++ r)) (fieldC (l ++ r)) ∧ True else False) ∧ True) ∧ ((!decide (allF (fldT (fieldC (l ++ r)) (List.length l)) [(84 : UInt8), (114 : UInt8), (97 : UInt8), (110 : UInt8), (115 : UInt8), (102 : UInt8), (101 : UInt8), (114 : UInt8), (45 : UInt8), (69 : UInt8), (110 : UInt8), (99 : UInt8), (111 : UInt8), (100 : UInt8), (105 : UInt8), (110 : UInt8), (103 : UInt8)] = [])) = codT l ∧ (0 : Int) = codS l ∧ True) ∧ True else False else False) := by kernel_rfl
theorem list_le {l : FL} (hl : totL l ≤ 274877906944) (nm : List UInt8) {x : Nat} (hx : x < (listF l nm).length) : le40 ((listF l nm).getD x []) = true := by
  have h1 := parts_mem (getD_mem (ls := listF l nm) hx)
  have h2 := totF_all l nm
  exact decide_eq_true (by omega)
theorem all_snoc {ps : LL} {x : Nat} {p : List UInt8 → Prop} (hx : x < ps.length) (h : ∀ q ∈ ps.take x, p q) (h2 : p (ps.getD x [])) : ∀ q ∈ ps.take (x + 1), p q := by
  rw [List.take_succ_eq_append_getElem hx]
  intro q hq
  rcases List.mem_append.1 hq with hq | hq
  · exact h q hq
  · rw [List.mem_singleton.1 hq]
    rwa [List.getD_eq_getElem?_getD, List.getElem?_eq_getElem hx] at h2
theorem len_none {l : FL} (h : allF l clN = []) : 0 = lenN l ∧ (!decide (allF l clN = [])) = lenT l ∧ 0 = lenS l := by
  simp [lenN, lenT, lenS, h]
theorem len_bad {l : FL} (h : ¬ allF l clN = []) (h2 : ¬ (listF l clN ≠ [] ∧ ∀ p ∈ listF l clN, numE p = 0 ∧ numV p = numV ((listF l clN).getD 0 []))) : 0 = lenN l ∧ true = lenT l ∧ 400 = lenS l := by
  have : lenOk (listF l clN) = false := decide_eq_false h2
  simp [lenN, lenT, lenS, h, this]
theorem len_good {l : FL} (h : ¬ allF l clN = []) (h2 : listF l clN ≠ [] ∧ ∀ p ∈ listF l clN, numE p = 0 ∧ numV p = numV ((listF l clN).getD 0 [])) : numV ((listF l clN).getD 0 []) = lenN l ∧ true = lenT l ∧ 0 = lenS l := by
  have : lenOk (listF l clN) = true := decide_eq_true h2
  simp [lenN, lenT, lenS, h, this]
theorem length_vc (l r : FL) (e : Nat) (ro : Bool) (c : Nat) (ex : Bool) (te : Nat) (hl : totL l ≤ 274877906944) : vLength l r e ro c ex te := by
  rw [vLength_eq]
  simp only [ic, cond_F, sameB_self, Nat.beq_refl]
  simp only [cond_P, leI_t, leI_f, ltI_t, ltI_f, eqI_t, eqI_f, and_t, not_t, not_f, dec_t, dec_f, Nat.zero_add, Nat.mul_one, List.drop_zero]
  simp only [cells_tsr, cells_fld, take_ts, ts_length, and_true, true_and, and_false, false_and, or_false, false_or, exists_false, Nat.le_refl, exists_const, false_implies, not_false_eq_true, true_implies, fldT_at, fldOk_at, getS_ts]
  simp only [show ([67, 111, 110, 116, 101, 110, 116, 45, 76, 101, 110, 103, 116, 104] : List UInt8) = clN from rfl]
  refine ⟨hl, len_none, fun ha => ?_⟩
  have hle : ∀ x, x < (listF l clN).length → le40 ((listF l clN).getD x []) = true := fun x hx => list_le hl clN hx
  have hmx : (listF l clN).length ≤ 3 * 274877906944 := by
    have h1 := parts_len (allF l clN)
    have h2 := totF_all l clN
    unfold listF; omega
  have hb := len_bad ha
  have hg := len_good ha
  generalize listF l clN = ps at *
  have hhd : ps ≠ [] → ps.getD 0 [] ∈ ps := fun h => getD_mem (List.length_pos_iff.2 h)
  refine ⟨hl, fun h0 => ⟨⟨h0, ha⟩, fun _ _ => hb (by simp [h0]), fun _ h => absurd h0 h, fun x hx => absurd h0 hx.1⟩, fun h0 => ⟨⟨h0, by rw [cells_tsr]; trivial, ha⟩, fun _ h => absurd h h0, fun _ _ => ⟨fun hlt => ?_, fun hz => ?_⟩, fun x hx => ⟨fun hlt => ?_, fun hge => ?_⟩⟩⟩
  · refine ⟨hlt, ts_get (by omega), hle 0 (by omega), fun he => hb fun h => he (h.2 _ (hhd h0)).1, fun he => ⟨1, ⟨h0, by omega, by omega, ?_⟩, by omega, rfl⟩⟩
    exact all_snoc (x := 0) (by omega) (fun q hq => by simp at hq) ⟨he, rfl⟩
  · exact absurd (List.length_pos_iff.2 h0) (by omega)
  · obtain ⟨h1, h2, h3, h4⟩ := hx
    have hx' : x < ps.length := by omega
    refine ⟨hlt, ts_get hx', hle x hx', fun he => hb fun h => he (h.2 _ (getD_mem hx')).1, fun he => ⟨fun hv => hb fun h => hv (h.2 _ (getD_mem hx')).2.symm, fun hv => ⟨by omega, x + 1, ⟨h1, by omega, by omega, all_snoc hx' h4 ⟨he, hv.symm⟩⟩, by omega, hv.symm, by omega⟩⟩⟩
  · obtain ⟨h1, h2, h3, h4⟩ := hx
    rw [List.take_of_length_le (by omega)] at h4
    exact hg ⟨h1, h4⟩
theorem cod_none {l : FL} (h : allF l teN = []) : (!decide (allF l teN = [])) = codT l ∧ 0 = codS l := by
  simp [codT, codS, h]
theorem cod_bad {l : FL} (h : ¬ allF l teN = []) (h2 : ¬ ((listF l teN).length = 1 ∧ lower ((listF l teN).getD 0 []) = lower chN')) : (!decide (allF l teN = [])) = codT l ∧ 501 = codS l := by
  have : codOk (listF l teN) = false := decide_eq_false h2
  simp [codT, codS, h, this]
theorem cod_good {l : FL} (h : ¬ allF l teN = []) (h2 : (listF l teN).length = 1 ∧ lower ((listF l teN).getD 0 []) = lower chN') : (!decide (allF l teN = [])) = codT l ∧ 0 = codS l := by
  have : codOk (listF l teN) = true := decide_eq_true h2
  simp [codT, codS, h, this]
theorem coded_vc (l r : FL) (e : Nat) (ro : Bool) (c : Nat) (ex : Bool) (te : Nat) (hl : totL l ≤ 274877906944) : vCoded l r e ro c ex te := by
  rw [vCoded_eq]
  simp only [ic, cond_F, sameB_self, Nat.beq_refl]
  simp only [cond_P, leI_t, leI_f, ltI_t, ltI_f, eqI_t, eqI_f, and_t, not_t, not_f, dec_t, dec_f, Nat.zero_add, Nat.mul_one, List.drop_zero]
  simp only [cells_tsr, cells_fld, take_ts, ts_length, and_true, true_and, and_false, false_and, or_false, false_or, exists_false, Nat.le_refl, exists_const, false_implies, not_false_eq_true, true_implies, fldT_at, fldOk_at, getS_ts]
  simp only [show ([84, 114, 97, 110, 115, 102, 101, 114, 45, 69, 110, 99, 111, 100, 105, 110, 103] : List UInt8) = teN from rfl, show ([99, 104, 117, 110, 107, 101, 100] : List UInt8) = chN' from rfl]
  refine ⟨hl, cod_none, fun ha => ?_⟩
  have hle : ∀ x, x < (listF l teN).length → le40 ((listF l teN).getD x []) = true := fun x hx => list_le hl teN hx
  have hb := cod_bad ha
  have hg := cod_good ha
  refine ⟨hl, fun h0 => hb (by simp [h0]), fun h0 => ⟨fun h1 => hb (by omega), fun h1 => ⟨by omega, ts_get (by omega), hle 0 (by omega), fun h2 => hb fun h => h2 h.2, fun h2 => hg ⟨by omega, h2⟩⟩⟩⟩
theorem lengthN_vc (te : Nat) : vLengthN te := by
  rw [vLengthN_eq]; simp [lenN, lenT, lenS, allF]
theorem lengthZ_vc (te : Nat) : vLengthZ te := by
  rw [vLengthZ_eq]; simp [lenN, lenT, lenS, allF]
theorem codedN_vc (te : Nat) : vCodedN te := by
  rw [vCodedN_eq]; simp [codT, codS, allF]
theorem codedZ_vc (te : Nat) : vCodedZ te := by
  rw [vCodedZ_eq]; simp [codT, codS, allF]
theorem TF_ok : SpecOk Tryd.prog (tabS TF noS) := by
  refine tabS_ok (fun p hp => ?_) noS_ok
  simp only [TF, List.mem_cons, List.mem_nil_iff, or_false] at hp
  rcases hp with rfl | rfl | rfl | rfl
  · exact eGet_ok
  · exact eList_ok
  · exact eNum_ok
  · exact gSame_ok
/-- A slice of fields is read in a memory that begins with the known variable. -/
theorem fldsG {f : FuncId} {mk : AV → List AV} (hmk : ∀ (ρ : Nat → Nat) (y : AV), AV.rens ρ (mk y) = mk (y.ren ρ)) {v : AV} (hv : v.flat = true) {x : AV} {H : AH} {p : Prop} {l : FL} {te : Nat} (hg : H[0]? = some (gErr te)) (hx : fldsAt x H = some (p, l)) (hp : p)
    (hN : l = [] → SC Tryd.prog f (mk .nilsl) [gErr te] (fun v' H' => v' = v ∧ H' = [gErr te]))
    (hZ : l = [] → SC Tryd.prog f (mk .slz) [gErr te] (fun v' H' => v' = v ∧ H' = [gErr te]))
    (hA : ∀ (r : FL) (e : Nat) (ro : Bool) (c : Nat) (ex : Bool), totL l ≤ 274877906944 → SC Tryd.prog f (mk (.sl 1 0 l.length c ex)) [gErr te, .cells (fieldC (l ++ r)) e ro] (fun v' H' => v' = v ∧ H' = [gErr te, .cells (fieldC (l ++ r)) e ro])) :
    SC Tryd.prog f (mk x) H (fun v' H' => v' = v ∧ H' = H) := by
  have go : ∀ {y y' : AV} {H0 : AH} {σ : List Nat}, SC Tryd.prog f (mk y) H0 (fun v' H' => v' = v ∧ H' = H0) → (∀ k ∈ H0, k ≠ .dead ∧ ∀ ρ, k.ren ρ = k) → σ.Nodup → H0.length = σ.length → (∀ (i b : Nat), σ[i]? = some b → H[b]? = H0[i]?) → y.ren (rn σ H.length) = y' → SC Tryd.prog f (mk y') H (fun v' H' => v' = v ∧ H' = H) := by
    intro y y' H0 σ h h1 h2 h3 h4 h5
    have := SC.reads (K := fun v' H' => v' = v ∧ H' = H) h h1 h2 h3 h4 (by
      rintro v0 H0' ⟨rfl, rfl⟩
      exact ⟨[], by simp, (fun t ht => by cases ht), AV.ren_flat hv, by simp⟩)
    rw [hmk, h5] at this
    exact this
  have gd : gErr te ≠ .dead ∧ ∀ ρ, (gErr te).ren ρ = gErr te := ⟨by simp [gErr], fun _ => rfl⟩
  have h0 : ∀ (i b : Nat), [0][i]? = some b → H[b]? = [gErr te][i]? := fun i b h => by
    cases i with
    | zero => simp at h; subst h; rw [hg]; rfl
    | succ i => simp at h
  unfold fldsAt at hx
  split at hx
  · cases hx; exact go (σ := [0]) (hN rfl) (fun k hk => by simp at hk; subst hk; exact gd) (by simp) rfl h0 rfl
  · cases hx; exact go (σ := [0]) (hZ rfl) (fun k hk => by simp at hk; subst hk; exact gd) (by simp) rfl h0 rfl
  · rename_i b n c ex
    split at hx
    · rename_i vs e ro hb
      cases hx
      obtain ⟨r, h1, h2, h3⟩ := fldOk_ex hp
      have hb0 : 0 ≠ b := by rintro rfl; rw [hg] at hb; cases hb
      refine go (σ := [0, b]) (hA r e ro c ex h3) (fun k hk => ?_) (by simpa using hb0) rfl (fun i b' h => ?_) ?_
      · simp at hk
        rcases hk with rfl | rfl
        · exact gd
        · exact ⟨by simp, cells_ren (fieldC_flat _) e ro⟩
      · match i, h with
        | 0, h => simp at h; subst h; rw [hg]; rfl
        | 1, h => simp at h; subst h; rw [hb, ← h1]; rfl
        | i + 2, h => simp at h
      · rw [← h2]; rfl
    · cases hx
  · cases hx
theorem outG1 {f : FuncId} {args : List AV} {H : AH} {v : AV} {g : Option (List Nat)} (h : SC Tryd.prog f args H (outE [⟨Unit, fun _ => v, fun _ => H, fun _ => True, g⟩])) : SC Tryd.prog f args H (fun v' H' => v' = v ∧ H' = H) := out1 h
/-- A function of a slice of fields with a flat answer. -/
noncomputable def eFl (g : List AV → Option (AV × (FL → Option (Bool × AV)))) : SpecE := fun args H =>
  match g args with
  | some (x, F) => match H[0]? with
    | some (ABlk.glob 1 [AV.iface _ .bad]) => match fldsAt x H with
      | some (p, l) => match F l with
        | some (b, v) => some (.needP (p ∧ b = true) (.ok v none))
        | none => none
      | none => none
    | _ => none
  | none => none
theorem eFl_ok {f : FuncId} {g : List AV → Option (AV × (FL → Option (Bool × AV)))}
    (h : ∀ args x F, g args = some (x, F) → ∃ mk : AV → List AV, args = mk x ∧ (∀ (ρ : Nat → Nat) (y : AV), AV.rens ρ (mk y) = mk (y.ren ρ)) ∧ ∀ l b v, F l = some (b, v) → b = true → ∀ te : Nat, v.flat = true ∧
      (l = [] → SC Tryd.prog f (mk .nilsl) [gErr te] (fun v' H' => v' = v ∧ H' = [gErr te])) ∧
      (l = [] → SC Tryd.prog f (mk .slz) [gErr te] (fun v' H' => v' = v ∧ H' = [gErr te])) ∧
      (∀ (r : FL) (e : Nat) (ro : Bool) (c : Nat) (ex : Bool), totL l ≤ 274877906944 → SC Tryd.prog f (mk (.sl 1 0 l.length c ex)) [gErr te, .cells (fieldC (l ++ r)) e ro] (fun v' H' => v' = v ∧ H' = [gErr te, .cells (fieldC (l ++ r)) e ro]))) : EntryOk Tryd.prog f (eFl g) := by
  intro args H sr hs K hk
  unfold eFl at hs
  split at hs
  · rename_i x F hg
    split at hs
    · rename_i te h0
      split at hs
      · rename_i p l hx
        split at hs
        · rename_i b v hF
          cases hs
          obtain ⟨⟨hp, hb⟩, h2⟩ := hk
          obtain ⟨mk, rfl, hmk, hh⟩ := h args x F hg
          obtain ⟨hv, hN, hZ, hA⟩ := hh l b v hF hb te
          exact (fldsG hmk hv h0 hx hp hN hZ hA).mono (by rintro v H' ⟨rfl, rfl⟩; exact ⟨none, h2, rfl⟩)
        · cases hs
      · cases hs
    · cases hs
  · cases hs
def gOne (F : FL → AV) (args : List AV) : Option (AV × (FL → Option (Bool × AV))) := match args with | [x] => some (x, fun l => some (true, F l)) | _ => none
noncomputable def eLength : SpecE := eFl (gOne lenV)
noncomputable def eCoded : SpecE := eFl (gOne codV)
theorem eLength_ok : EntryOk Tryd.prog 13 eLength := by
  refine eFl_ok fun args x F hg => ?_
  unfold gOne at hg
  split at hg
  · cases hg
    refine ⟨fun y => [y], rfl, fun _ _ => rfl, fun l b v hF hb te => ?_⟩
    cases hF
    refine ⟨rfl, fun h => ?_, fun h => ?_, fun r e ro c ex ht => ?_⟩
    · subst h; exact out1 (SC.ofF (V := VF) names0 mixed0 TF_ok noO_ok (lengthN_vc te))
    · subst h; exact out1 (SC.ofF (V := VF) names0 mixed0 TF_ok noO_ok (lengthZ_vc te))
    · exact out1 (SC.ofF (V := VF) names0 mixed0 TF_ok noO_ok (length_vc l r e ro c ex te ht))
  · cases hg
theorem eCoded_ok : EntryOk Tryd.prog 15 eCoded := by
  refine eFl_ok fun args x F hg => ?_
  unfold gOne at hg
  split at hg
  · cases hg
    refine ⟨fun y => [y], rfl, fun _ _ => rfl, fun l b v hF hb te => ?_⟩
    cases hF
    refine ⟨rfl, fun h => ?_, fun h => ?_, fun r e ro c ex ht => ?_⟩
    · subst h; exact out1 (SC.ofF (V := VF) names0 mixed0 TF_ok noO_ok (codedN_vc te))
    · subst h; exact out1 (SC.ofF (V := VF) names0 mixed0 TF_ok noO_ok (codedZ_vc te))
    · exact out1 (SC.ofF (V := VF) names0 mixed0 TF_ok noO_ok (coded_vc l r e ro c ex te ht))
  · cases hg
end Go.Proofs.YtciciemaldbidaaDoor

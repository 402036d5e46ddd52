/- Sums, the least and the greatest place: the program's and the document's. -/
import Derived.Test.YtainjcpocodehaaScN
set_option linter.unusedSimpArgs false
set_option linter.unusedVariables false
namespace Go.Proofs.Ytainjcpocodehaa
open Go Go.Ve
set_option maxRecDepth 20000
abbrev FL := List Nat
def fC (l : FL) : List AV := l.map (AV.float .f64)
def getF : List AV → FL
  | .float .f64 a :: r => a :: getF r
  | _ => []
def fk (l : FL) (i : Nat) : Nat := l.getD i 0
def sumF : FL → Nat → Option Nat
  | _, 0 => some 0
  | l, i + 1 => (sumF l i).bind fun s => flR .add s (fk l i)
/-- Is the i-th one before the one at a? -/
def nearer (g : Bool) (l : FL) (i a : Nat) : Bool := cond g (ltI (rk (fk l a)) (rk (fk l i))) (ltI (rk (fk l i)) (rk (fk l a)))
def bi (g : Bool) (l : FL) : Nat → Nat
  | 0 => 0
  | i + 1 => cond (nearer g l i (bi g l i)) i (bi g l i)
def bestV (g : Bool) (l : FL) : Int := if l.length = 0 then -1 else (bi g l l.length : Nat)
def ok64 (l : FL) : Prop := ∀ x ∈ l, in64 x = true
noncomputable def TCp : List (Nat × SpecE) := [(14, flatE gCmpF), (24, flatE gCmpF)]
noncomputable def VCp : VE := ⟨Try.prog, tabS TCp noS, noO, fun _ => none⟩
noncomputable def mF (l r : FL) (e : Nat) (ro : Bool) : AH := [.cells (fC (l ++ r)) e ro]
noncomputable def aSu (kl ki kh : Nat) (l : FL) : Anns := [(kl, [
  .mk Nat (fun i => [(ki, .int .i64 i), (3, .float .f64 ((sumF l i).getD 0))]) (fun _ => none) (fun i => i ≤ l.length ∧ (sumF l i).isSome = true) (fun i => l.length - i) gcB gcB (fun i => [(kh, .float .f64 (fk l i))]) (fun _ => []),
  .mk Nat (fun i => [(ki, .int .i64 i), (3, .nan .f64)]) (fun _ => none) (fun i => i ≤ l.length ∧ (sumF l i).isSome = false) (fun i => l.length - i) gcB gcB (fun i => [(kh, .float .f64 (fk l i))]) (fun _ => [])])]
noncomputable def oSu (l r : FL) (e : Nat) (ro : Bool) : List Out := [⟨Unit, fun _ => .float .f64 ((sumF l l.length).getD 0), fun _ => mF l r e ro, fun _ => (sumF l l.length).isSome = true, gcB⟩, ⟨Unit, fun _ => .nan .f64, fun _ => mF l r e ro, fun _ => (sumF l l.length).isSome = false, gcB⟩]
noncomputable def aBe (ki ka : Nat) (h : Nat → Nat → List (Nat × AV)) (g : Bool) (l : FL) : Anns := [(3, [
  .mk Unit (fun _ => [(ki, .int .i64 0), (ka, .int .i64 (-1))]) (fun _ => none) (fun _ => True) (fun _ => l.length) gcB gcB (fun _ => h 0 0) (fun _ => []),
  .mk Nat (fun i => [(ki, .int .i64 i), (ka, .int .i64 (bi g l i))]) (fun _ => none) (fun i => 1 ≤ i ∧ i ≤ l.length) (fun i => l.length - i) gcB gcB (fun i => h i (bi g l i)) (fun _ => [])])]
noncomputable def hB (l : FL) (i a : Nat) : List (Nat × AV) := [(14, .float .f64 (fk l i)), (23, .float .f64 (fk l a))]
noncomputable def hL (l : FL) (i a : Nat) : List (Nat × AV) := [(17, .float .f64 (fk l i)), (21, .float .f64 (fk l a))]

noncomputable def vSu  (l r : FL) (e : Nat) (ro : Bool) (c : Nat) (ex : Bool) : Prop := vcF V0 [] 60 (aSu 3 8 11 l) [] 12 [.sl 0 0 l.length c ex] (mF l r e ro) (oSu l r e ro)
noncomputable def vRSu  (l r : FL) (e : Nat) (ro : Bool) (c : Nat) (ex : Bool) : Prop := vcF V0 [] 60 (aSu 3 4 15 l) [] 28 [.sl 0 0 l.length c ex] (mF l r e ro) (oSu l r e ro)
noncomputable def vBeL  (l r : FL) (e : Nat) (ro : Bool) (c : Nat) (ex : Bool) : Prop := vcF VCp [] 60 (aBe 10 5 (hB l) false l) [] 58 [.sl 0 0 l.length c ex, .int .i64 (-1)] (mF l r e ro) [⟨Unit, fun _ => .int .i64 (bestV false l), fun _ => mF l r e ro, fun _ => True, gcB⟩]
noncomputable def vBeG  (l r : FL) (e : Nat) (ro : Bool) (c : Nat) (ex : Bool) : Prop := vcF VCp [] 60 (aBe 10 5 (hB l) true l) [] 58 [.sl 0 0 l.length c ex, .int .i64 1] (mF l r e ro) [⟨Unit, fun _ => .int .i64 (bestV true l), fun _ => mF l r e ro, fun _ => True, gcB⟩]
noncomputable def vRLe  (l r : FL) (e : Nat) (ro : Bool) (c : Nat) (ex : Bool) : Prop := vcF VCp [] 60 (aBe 4 3 (hL l) false l) [] 26 [.sl 0 0 l.length c ex] (mF l r e ro) [⟨Unit, fun _ => .int .i64 (bestV false l), fun _ => mF l r e ro, fun _ => True, gcB⟩]
noncomputable def vRGr  (l r : FL) (e : Nat) (ro : Bool) (c : Nat) (ex : Bool) : Prop := vcF VCp [] 60 (aBe 4 3 (hL l) true l) [] 27 [.sl 0 0 l.length c ex] (mF l r e ro) [⟨Unit, fun _ => .int .i64 (bestV true l), fun _ => mF l r e ro, fun _ => True, gcB⟩]
def gqScS0 : Nat → Nat := (fun (b : Nat) => [(0 : Nat)].getD b (1 : Nat))
theorem vSu_eq  (l r : FL) (e : Nat) (ro : Bool) (c : Nat) (ex : Bool) : vSu l r e ro c ex = (((∃ (x : Nat), (x ≤ List.length l ∧ (sumF l x).isSome = true) ∧ ((bif e.beq e && sameB ro ro then cellsP gqScS0 (fC (l ++ r)) (fC (l ++ r)) ∧ True else False) ∧ True) ∧ (0 : Int) = ic x ∧ AV.float FloatKind.f64 (0 : Nat) = AV.float FloatKind.f64 ((sumF l x).getD (0 : Nat)) ∧ True) ∨ ∃ (x : Nat), (x ≤ List.length l ∧ (sumF l x).isSome = false) ∧ ((bif e.beq e && sameB ro ro then cellsP gqScS0 (fC (l ++ r)) (fC (l ++ r)) ∧ True else False) ∧ True) ∧ (0 : Int) = ic x ∧ AV.float FloatKind.f64 (0 : Nat) = AV.nan FloatKind.f64 ∧ True) ∧ (∀ (x : Nat), x ≤ List.length l ∧ (sumF l x).isSome = true → bif ltI (ic x) (ic (List.length l)) then bif ltI (ic x) (ic (List.length l)) then (fC (l ++ r))[(0 : Nat) + x * (1 : Nat)]? = some (AV.float FloatKind.f64 (fk l x)) ∧ bif (flR BinOp.add ((sumF l x).getD (0 : Nat)) (fk l x)).isSome then bif leI (ic x + (1 : Int)) (9223372036854775807 : Int) then (∃ (y : Nat), (y ≤ List.length l ∧ (sumF l y).isSome = true) ∧ List.length l - y < List.length l - x ∧ ((bif e.beq e && sameB ro ro then cellsP gqScS0 (fC (l ++ r)) (fC (l ++ r)) ∧ True else False) ∧ True) ∧ ic x + (1 : Int) = ic y ∧ AV.float FloatKind.f64 (flV BinOp.add ((sumF l x).getD (0 : Nat)) (fk l x)) = AV.float FloatKind.f64 ((sumF l y).getD (0 : Nat)) ∧ True) ∨ ∃ (y : Nat), (y ≤ List.length l ∧ (sumF l y).isSome = false) ∧ List.length l - y < List.length l - x ∧ ((bif e.beq e && sameB ro ro then cellsP gqScS0 (fC (l ++ r)) (fC (l ++ r)) ∧ True else False) ∧ True) ∧ ic x + (1 : Int) = ic y ∧ AV.float FloatKind.f64 (flV BinOp.add ((sumF l x).getD (0 : Nat)) (fk l x)) = AV.nan FloatKind.f64 ∧ True else False else bif leI (ic x + (1 : Int)) (9223372036854775807 : Int) then (∃ (y : Nat), (y ≤ List.length l ∧ (sumF l y).isSome = true) ∧ List.length l - y < List.length l - x ∧ ((bif e.beq e && sameB ro ro then cellsP gqScS0 (fC (l ++ r)) (fC (l ++ r)) ∧ True else False) ∧ True) ∧ ic x + (1 : Int) = ic y ∧ AV.nan FloatKind.f64 = AV.float FloatKind.f64 ((sumF l y).getD (0 : Nat)) ∧ True) ∨ ∃ (y : Nat), (y ≤ List.length l ∧ (sumF l y).isSome = false) ∧ List.length l - y < List.length l - x ∧ ((bif e.beq e && sameB ro ro then cellsP gqScS0 (fC (l ++ r)) (fC (l ++ r)) ∧ True else False) ∧ True) ∧ ic x + (1 : Int) = ic y ∧ AV.nan FloatKind.f64 = AV.nan FloatKind.f64 ∧ True else False else False else (∃ (_x : Unit), (sumF l (List.length l)).isSome = true ∧ ((bif e.beq e && sameB ro ro then cellsP gqScS0 (fC (l ++ r)) (fC (l ++ r)) ∧ True else False) ∧ True) ∧ AV.float FloatKind.f64 ((sumF l x).getD (0 : Nat)) = AV.float FloatKind.f64 ((sumF l (List.length l)).getD (0 : Nat)) ∧ True) ∨ ∃ (_x : Unit), (sumF l (List.length l)).isSome = false ∧ ((bif e.beq e && sameB ro ro then cellsP gqScS0 (fC (l ++ r)) (fC (l ++ r)) ∧ True else False) ∧ True) ∧ AV.float FloatKind.f64 ((sumF l x).getD (0 : Nat)) = AV.nan FloatKind.f64 ∧ True) ∧ ∀ (x : Nat), x ≤ List.length l ∧ (sumF l x).isSome = false → bif ltI (ic x) (ic (List.length l)) then bif ltI (ic x) (ic (List.length l)) then (fC (l ++ r))[(0 : Nat) + x * (1 : Nat)]? = some (AV.float FloatKind.f64 (fk l x)) ∧ bif leI (ic x + (1 : Int)) (9223372036854775807 : Int) then (∃ (y : Nat), (y ≤ List.length l ∧ (sumF l y).isSome = true) ∧ List.length l - y < List.length l - x ∧ ((bif e.beq e && sameB ro ro then cellsP gqScS0 (fC (l ++ r)) (fC (l ++ r)) ∧ True else False) ∧ True) ∧ ic x + (1 : Int) = ic y ∧ AV.nan FloatKind.f64 = AV.float FloatKind.f64 ((sumF l y).getD (0 : Nat)) ∧ True) ∨ ∃ (y : Nat), (y ≤ List.length l ∧ (sumF l y).isSome = false) ∧ List.length l - y < List.length l - x ∧ ((bif e.beq e && sameB ro ro then cellsP gqScS0 (fC (l ++ r)) (fC (l ++ r)) ∧ True else False) ∧ True) ∧ ic x + (1 : Int) = ic y ∧ AV.nan FloatKind.f64 = AV.nan FloatKind.f64 ∧ True else False else False else (∃ (_x : Unit), (sumF l (List.length l)).isSome = true ∧ ((bif e.beq e && sameB ro ro then cellsP gqScS0 (fC (l ++ r)) (fC (l ++ r)) ∧ True else False) ∧ True) ∧ AV.nan FloatKind.f64 = AV.float FloatKind.f64 ((sumF l (List.length l)).getD (0 : Nat)) ∧ True) ∨ ∃ (_x : Unit), (sumF l (List.length l)).isSome = false ∧ ((bif e.beq e && sameB ro ro then cellsP gqScS0 (fC (l ++ r)) (fC (l ++ r)) ∧ True else False) ∧ True) ∧ AV.nan FloatKind.f64 = AV.nan FloatKind.f64 ∧ True) := by kernel_rfl
theorem vRSu_eq  (l r : FL) (e : Nat) (ro : Bool) (c : Nat) (ex : Bool) : vRSu l r e ro c ex = (((∃ (x : Nat), (x ≤ List.length l ∧ (sumF l x).isSome = true) ∧ ((bif e.beq e && sameB ro ro then cellsP gqScS0 (fC (l ++ r)) (fC (l ++ r)) ∧ True else False) ∧ True) ∧ (0 : Int) = ic x ∧ AV.float FloatKind.f64 (0 : Nat) = AV.float FloatKind.f64 ((sumF l x).getD (0 : Nat)) ∧ True) ∨ ∃ (x : Nat), (x ≤ List.length l ∧ (sumF l x).isSome = false) ∧ ((bif e.beq e && sameB ro ro then cellsP gqScS0 (fC (l ++ r)) (fC (l ++ r)) ∧ True else False) ∧ True) ∧ (0 : Int) = ic x ∧ AV.float FloatKind.f64 (0 : Nat) = AV.nan FloatKind.f64 ∧ True) ∧ (∀ (x : Nat), x ≤ List.length l ∧ (sumF l x).isSome = true → bif ltI (ic x) (ic (List.length l)) then bif ltI (ic x) (ic (List.length l)) then (fC (l ++ r))[(0 : Nat) + x * (1 : Nat)]? = some (AV.float FloatKind.f64 (fk l x)) ∧ bif (flR BinOp.add ((sumF l x).getD (0 : Nat)) (fk l x)).isSome then bif leI (ic x + (1 : Int)) (9223372036854775807 : Int) then (∃ (y : Nat), (y ≤ List.length l ∧ (sumF l y).isSome = true) ∧ List.length l - y < List.length l - x ∧ ((bif e.beq e && sameB ro ro then cellsP gqScS0 (fC (l ++ r)) (fC (l ++ r)) ∧ True else False) ∧ True) ∧ ic x + (1 : Int) = ic y ∧ AV.float FloatKind.f64 (flV BinOp.add ((sumF l x).getD (0 : Nat)) (fk l x)) = AV.float FloatKind.f64 ((sumF l y).getD (0 : Nat)) ∧ True) ∨ ∃ (y : Nat), (y ≤ List.length l ∧ (sumF l y).isSome = false) ∧ List.length l - y < List.length l - x ∧ ((bif e.beq e && sameB ro ro then cellsP gqScS0 (fC (l ++ r)) (fC (l ++ r)) ∧ True else False) ∧ True) ∧ ic x + (1 : Int) = ic y ∧ AV.float FloatKind.f64 (flV BinOp.add ((sumF l x).getD (0 : Nat)) (fk l x)) = AV.nan FloatKind.f64 ∧ True else False else bif leI (ic x + (1 : Int)) (9223372036854775807 : Int) then (∃ (y : Nat), (y ≤ List.length l ∧ (sumF l y).isSome = true) ∧ List.length l - y < List.length l - x ∧ ((bif e.beq e && sameB ro ro then cellsP gqScS0 (fC (l ++ r)) (fC (l ++ r)) ∧ True else False) ∧ True) ∧ ic x + (1 : Int) = ic y ∧ AV.nan FloatKind.f64 = AV.float FloatKind.f64 ((sumF l y).getD (0 : Nat)) ∧ True) ∨ ∃ (y : Nat), (y ≤ List.length l ∧ (sumF l y).isSome = false) ∧ List.length l - y < List.length l - x ∧ ((bif e.beq e && sameB ro ro then cellsP gqScS0 (fC (l ++ r)) (fC (l ++ r)) ∧ True else False) ∧ True) ∧ ic x + (1 : Int) = ic y ∧ AV.nan FloatKind.f64 = AV.nan FloatKind.f64 ∧ True else False else False else (∃ (_x : Unit), (sumF l (List.length l)).isSome = true ∧ ((bif e.beq e && sameB ro ro then cellsP gqScS0 (fC (l ++ r)) (fC (l ++ r)) ∧ True else False) ∧ True) ∧ AV.float FloatKind.f64 ((sumF l x).getD (0 : Nat)) = AV.float FloatKind.f64 ((sumF l (List.length l)).getD (0 : Nat)) ∧ True) ∨ ∃ (_x : Unit), (sumF l (List.length l)).isSome = false ∧ ((bif e.beq e && sameB ro ro then cellsP gqScS0 (fC (l ++ r)) (fC (l ++ r)) ∧ True else False) ∧ True) ∧ AV.float FloatKind.f64 ((sumF l x).getD (0 : Nat)) = AV.nan FloatKind.f64 ∧ True) ∧ ∀ (x : Nat), x ≤ List.length l ∧ (sumF l x).isSome = false → bif ltI (ic x) (ic (List.length l)) then bif ltI (ic x) (ic (List.length l)) then (fC (l ++ r))[(0 : Nat) + x * (1 : Nat)]? = some (AV.float FloatKind.f64 (fk l x)) ∧ bif leI (ic x + (1 : Int)) (9223372036854775807 : Int) then (∃ (y : Nat), (y ≤ List.length l ∧ (sumF l y).isSome = true) ∧ List.length l - y < List.length l - x ∧ ((bif e.beq e && sameB ro ro then cellsP gqScS0 (fC (l ++ r)) (fC (l ++ r)) ∧ True else False) ∧ True) ∧ ic x + (1 : Int) = ic y ∧ AV.nan FloatKind.f64 = AV.float FloatKind.f64 ((sumF l y).getD (0 : Nat)) ∧ True) ∨ ∃ (y : Nat), (y ≤ List.length l ∧ (sumF l y).isSome = false) ∧ List.length l - y < List.length l - x ∧ ((bif e.beq e && sameB ro ro then cellsP gqScS0 (fC (l ++ r)) (fC (l ++ r)) ∧ True else False) ∧ True) ∧ ic x + (1 : Int) = ic y ∧ AV.nan FloatKind.f64 = AV.nan FloatKind.f64 ∧ True else False else False else (∃ (_x : Unit), (sumF l (List.length l)).isSome = true ∧ ((bif e.beq e && sameB ro ro then cellsP gqScS0 (fC (l ++ r)) (fC (l ++ r)) ∧ True else False) ∧ True) ∧ AV.nan FloatKind.f64 = AV.float FloatKind.f64 ((sumF l (List.length l)).getD (0 : Nat)) ∧ True) ∨ ∃ (_x : Unit), (sumF l (List.length l)).isSome = false ∧ ((bif e.beq e && sameB ro ro then cellsP gqScS0 (fC (l ++ r)) (fC (l ++ r)) ∧ True else False) ∧ True) ∧ AV.nan FloatKind.f64 = AV.nan FloatKind.f64 ∧ True) := by kernel_rfl
theorem vBeL_eq  (l r : FL) (e : Nat) (ro : Bool) (c : Nat) (ex : Bool) : vBeL l r e ro c ex = (((∃ (_x : Unit), True ∧ ((bif e.beq e && sameB ro ro then cellsP gqScS0 (fC (l ++ r)) (fC (l ++ r)) ∧ True else False) ∧ True) ∧ (0 : Int) = (0 : Int) ∧ (-1 : Int) = (-1 : Int) ∧ True) ∨ ∃ (x : Nat), ((1 : Nat) ≤ x ∧ x ≤ List.length l) ∧ ((bif e.beq e && sameB ro ro then cellsP gqScS0 (fC (l ++ r)) (fC (l ++ r)) ∧ True else False) ∧ True) ∧ (0 : Int) = ic x ∧ (-1 : Int) = ic (bi false l x) ∧ True) ∧ (∀ (x : Unit), True → bif ltI (0 : Int) (ic (List.length l)) then bif ltI (0 : Int) (ic (List.length l)) then (fC (l ++ r))[(0 : Nat)]? = some (AV.float FloatKind.f64 (fk l (0 : Nat))) ∧ ((∃ (_x : Unit), True ∧ List.length l < List.length l ∧ ((bif e.beq e && sameB ro ro then cellsP gqScS0 (fC (l ++ r)) (fC (l ++ r)) ∧ True else False) ∧ True) ∧ (1 : Int) = (0 : Int) ∧ (0 : Int) = (-1 : Int) ∧ True) ∨ ∃ (y : Nat), ((1 : Nat) ≤ y ∧ y ≤ List.length l) ∧ List.length l - y < List.length l ∧ ((bif e.beq e && sameB ro ro then cellsP gqScS0 (fC (l ++ r)) (fC (l ++ r)) ∧ True else False) ∧ True) ∧ (1 : Int) = ic y ∧ (0 : Int) = ic (bi false l y) ∧ True) else False else ∃ (_x : Unit), True ∧ ((bif e.beq e && sameB ro ro then cellsP gqScS0 (fC (l ++ r)) (fC (l ++ r)) ∧ True else False) ∧ True) ∧ (-1 : Int) = bestV false l ∧ True) ∧ ∀ (x : Nat), (1 : Nat) ≤ x ∧ x ≤ List.length l → bif ltI (ic x) (ic (List.length l)) then bif ltI (ic x) (ic (List.length l)) then (fC (l ++ r))[(0 : Nat) + x * (1 : Nat)]? = some (AV.float FloatKind.f64 (fk l x)) ∧ bif ltI (ic (bi false l x)) (ic (List.length l)) then (fC (l ++ r))[(0 : Nat) + bi false l x * (1 : Nat)]? = some (AV.float FloatKind.f64 (fk l (bi false l x))) ∧ bif in64 (fk l x) && in64 (fk l (bi false l x)) then bif leI (-9223372036854775808 : Int) ((-1 : Int) * cmpv (rk (fk l x)) (rk (fk l (bi false l x)))) && leI ((-1 : Int) * cmpv (rk (fk l x)) (rk (fk l (bi false l x)))) (9223372036854775807 : Int) then bif ltI (0 : Int) ((-1 : Int) * cmpv (rk (fk l x)) (rk (fk l (bi false l x)))) then bif leI (ic x + (1 : Int)) (9223372036854775807 : Int) then (∃ (_x : Unit), True ∧ List.length l < List.length l - x ∧ ((bif e.beq e && sameB ro ro then cellsP gqScS0 (fC (l ++ r)) (fC (l ++ r)) ∧ True else False) ∧ True) ∧ ic x + (1 : Int) = (0 : Int) ∧ ic x = (-1 : Int) ∧ True) ∨ ∃ (y : Nat), ((1 : Nat) ≤ y ∧ y ≤ List.length l) ∧ List.length l - y < List.length l - x ∧ ((bif e.beq e && sameB ro ro then cellsP gqScS0 (fC (l ++ r)) (fC (l ++ r)) ∧ True else False) ∧ True) ∧ ic x + (1 : Int) = ic y ∧ ic x = ic (bi false l y) ∧ True else False else bif leI (ic x + (1 : Int)) (9223372036854775807 : Int) then (∃ (_x : Unit), True ∧ List.length l < List.length l - x ∧ ((bif e.beq e && sameB ro ro then cellsP gqScS0 (fC (l ++ r)) (fC (l ++ r)) ∧ True else False) ∧ True) ∧ ic x + (1 : Int) = (0 : Int) ∧ ic (bi false l x) = (-1 : Int) ∧ True) ∨ ∃ (y : Nat), ((1 : Nat) ≤ y ∧ y ≤ List.length l) ∧ List.length l - y < List.length l - x ∧ ((bif e.beq e && sameB ro ro then cellsP gqScS0 (fC (l ++ r)) (fC (l ++ r)) ∧ True else False) ∧ True) ∧ ic x + (1 : Int) = ic y ∧ ic (bi false l x) = ic (bi false l y) ∧ True else False else False else False else False else False else ∃ (_x : Unit), True ∧ ((bif e.beq e && sameB ro ro then cellsP gqScS0 (fC (l ++ r)) (fC (l ++ r)) ∧ True else False) ∧ True) ∧ ic (bi false l x) = bestV false l ∧ True) := by kernel_rfl
theorem vBeG_eq  (l r : FL) (e : Nat) (ro : Bool) (c : Nat) (ex : Bool) : vBeG l r e ro c ex = (((∃ (_x : Unit), True ∧ ((bif e.beq e && sameB ro ro then cellsP gqScS0 (fC (l ++ r)) (fC (l ++ r)) ∧ True else False) ∧ True) ∧ (0 : Int) = (0 : Int) ∧ (-1 : Int) = (-1 : Int) ∧ True) ∨ ∃ (x : Nat), ((1 : Nat) ≤ x ∧ x ≤ List.length l) ∧ ((bif e.beq e && sameB ro ro then cellsP gqScS0 (fC (l ++ r)) (fC (l ++ r)) ∧ True else False) ∧ True) ∧ (0 : Int) = ic x ∧ (-1 : Int) = ic (bi true l x) ∧ True) ∧ (∀ (x : Unit), True → bif ltI (0 : Int) (ic (List.length l)) then bif ltI (0 : Int) (ic (List.length l)) then (fC (l ++ r))[(0 : Nat)]? = some (AV.float FloatKind.f64 (fk l (0 : Nat))) ∧ ((∃ (_x : Unit), True ∧ List.length l < List.length l ∧ ((bif e.beq e && sameB ro ro then cellsP gqScS0 (fC (l ++ r)) (fC (l ++ r)) ∧ True else False) ∧ True) ∧ (1 : Int) = (0 : Int) ∧ (0 : Int) = (-1 : Int) ∧ True) ∨ ∃ (y : Nat), ((1 : Nat) ≤ y ∧ y ≤ List.length l) ∧ List.length l - y < List.length l ∧ ((bif e.beq e && sameB ro ro then cellsP gqScS0 (fC (l ++ r)) (fC (l ++ r)) ∧ True else False) ∧ True) ∧ (1 : Int) = ic y ∧ (0 : Int) = ic (bi true l y) ∧ True) else False else ∃ (_x : Unit), True ∧ ((bif e.beq e && sameB ro ro then cellsP gqScS0 (fC (l ++ r)) (fC (l ++ r)) ∧ True else False) ∧ True) ∧ (-1 : Int) = bestV true l ∧ True) ∧ ∀ (x : Nat), (1 : Nat) ≤ x ∧ x ≤ List.length l → bif ltI (ic x) (ic (List.length l)) then bif ltI (ic x) (ic (List.length l)) then (fC (l ++ r))[(0 : Nat) + x * (1 : Nat)]? = some (AV.float FloatKind.f64 (fk l x)) ∧ bif ltI (ic (bi true l x)) (ic (List.length l)) then (fC (l ++ r))[(0 : Nat) + bi true l x * (1 : Nat)]? = some (AV.float FloatKind.f64 (fk l (bi true l x))) ∧ bif in64 (fk l x) && in64 (fk l (bi true l x)) then bif leI (-9223372036854775808 : Int) ((1 : Int) * cmpv (rk (fk l x)) (rk (fk l (bi true l x)))) && leI ((1 : Int) * cmpv (rk (fk l x)) (rk (fk l (bi true l x)))) (9223372036854775807 : Int) then bif ltI (0 : Int) ((1 : Int) * cmpv (rk (fk l x)) (rk (fk l (bi true l x)))) then bif leI (ic x + (1 : Int)) (9223372036854775807 : Int) then (∃ (_x : Unit), True ∧ List.length l < List.length l - x ∧ ((bif e.beq e && sameB ro ro then cellsP gqScS0 (fC (l ++ r)) (fC (l ++ r)) ∧ True else False) ∧ True) ∧ ic x + (1 : Int) = (0 : Int) ∧ ic x = (-1 : Int) ∧ True) ∨ ∃ (y : Nat), ((1 : Nat) ≤ y ∧ y ≤ List.length l) ∧ List.length l - y < List.length l - x ∧ ((bif e.beq e && sameB ro ro then cellsP gqScS0 (fC (l ++ r)) (fC (l ++ r)) ∧ True else False) ∧ True) ∧ ic x + (1 : Int) = ic y ∧ ic x = ic (bi true l y) ∧ True else False else bif leI (ic x + (1 : Int)) (9223372036854775807 : Int) then (∃ (_x : Unit), True ∧ List.length l < List.length l - x ∧ ((bif e.beq e && sameB ro ro then cellsP gqScS0 (fC (l ++ r)) (fC (l ++ r)) ∧ True else False) ∧ True) ∧ ic x + (1 : Int) = (0 : Int) ∧ ic (bi true l x) = (-1 : Int) ∧ True) ∨ ∃ (y : Nat), ((1 : Nat) ≤ y ∧ y ≤ List.length l) ∧ List.length l - y < List.length l - x ∧ ((bif e.beq e && sameB ro ro then cellsP gqScS0 (fC (l ++ r)) (fC (l ++ r)) ∧ True else False) ∧ True) ∧ ic x + (1 : Int) = ic y ∧ ic (bi true l x) = ic (bi true l y) ∧ True else False else False else False else False else False else ∃ (_x : Unit), True ∧ ((bif e.beq e && sameB ro ro then cellsP gqScS0 (fC (l ++ r)) (fC (l ++ r)) ∧ True else False) ∧ True) ∧ ic (bi true l x) = bestV true l ∧ True) := by kernel_rfl
theorem vRLe_eq  (l r : FL) (e : Nat) (ro : Bool) (c : Nat) (ex : Bool) : vRLe l r e ro c ex = (((∃ (_x : Unit), True ∧ ((bif e.beq e && sameB ro ro then cellsP gqScS0 (fC (l ++ r)) (fC (l ++ r)) ∧ True else False) ∧ True) ∧ (0 : Int) = (0 : Int) ∧ (-1 : Int) = (-1 : Int) ∧ True) ∨ ∃ (x : Nat), ((1 : Nat) ≤ x ∧ x ≤ List.length l) ∧ ((bif e.beq e && sameB ro ro then cellsP gqScS0 (fC (l ++ r)) (fC (l ++ r)) ∧ True else False) ∧ True) ∧ (0 : Int) = ic x ∧ (-1 : Int) = ic (bi false l x) ∧ True) ∧ (∀ (x : Unit), True → bif ltI (0 : Int) (ic (List.length l)) then (∃ (_x : Unit), True ∧ List.length l < List.length l ∧ ((bif e.beq e && sameB ro ro then cellsP gqScS0 (fC (l ++ r)) (fC (l ++ r)) ∧ True else False) ∧ True) ∧ (1 : Int) = (0 : Int) ∧ (0 : Int) = (-1 : Int) ∧ True) ∨ ∃ (y : Nat), ((1 : Nat) ≤ y ∧ y ≤ List.length l) ∧ List.length l - y < List.length l ∧ ((bif e.beq e && sameB ro ro then cellsP gqScS0 (fC (l ++ r)) (fC (l ++ r)) ∧ True else False) ∧ True) ∧ (1 : Int) = ic y ∧ (0 : Int) = ic (bi false l y) ∧ True else ∃ (_x : Unit), True ∧ ((bif e.beq e && sameB ro ro then cellsP gqScS0 (fC (l ++ r)) (fC (l ++ r)) ∧ True else False) ∧ True) ∧ (-1 : Int) = bestV false l ∧ True) ∧ ∀ (x : Nat), (1 : Nat) ≤ x ∧ x ≤ List.length l → bif ltI (ic x) (ic (List.length l)) then bif ltI (ic x) (ic (List.length l)) then (fC (l ++ r))[(0 : Nat) + x * (1 : Nat)]? = some (AV.float FloatKind.f64 (fk l x)) ∧ bif ltI (ic (bi false l x)) (ic (List.length l)) then (fC (l ++ r))[(0 : Nat) + bi false l x * (1 : Nat)]? = some (AV.float FloatKind.f64 (fk l (bi false l x))) ∧ bif in64 (fk l x) && in64 (fk l (bi false l x)) then bif ltI (cmpv (rk (fk l x)) (rk (fk l (bi false l x)))) (0 : Int) then bif leI (ic x + (1 : Int)) (9223372036854775807 : Int) then (∃ (_x : Unit), True ∧ List.length l < List.length l - x ∧ ((bif e.beq e && sameB ro ro then cellsP gqScS0 (fC (l ++ r)) (fC (l ++ r)) ∧ True else False) ∧ True) ∧ ic x + (1 : Int) = (0 : Int) ∧ ic x = (-1 : Int) ∧ True) ∨ ∃ (y : Nat), ((1 : Nat) ≤ y ∧ y ≤ List.length l) ∧ List.length l - y < List.length l - x ∧ ((bif e.beq e && sameB ro ro then cellsP gqScS0 (fC (l ++ r)) (fC (l ++ r)) ∧ True else False) ∧ True) ∧ ic x + (1 : Int) = ic y ∧ ic x = ic (bi false l y) ∧ True else False else bif leI (ic x + (1 : Int)) (9223372036854775807 : Int) then (∃ (_x : Unit), True ∧ List.length l < List.length l - x ∧ ((bif e.beq e && sameB ro ro then cellsP gqScS0 (fC (l ++ r)) (fC (l ++ r)) ∧ True else False) ∧ True) ∧ ic x + (1 : Int) = (0 : Int) ∧ ic (bi false l x) = (-1 : Int) ∧ True) ∨ ∃ (y : Nat), ((1 : Nat) ≤ y ∧ y ≤ List.length l) ∧ List.length l - y < List.length l - x ∧ ((bif e.beq e && sameB ro ro then cellsP gqScS0 (fC (l ++ r)) (fC (l ++ r)) ∧ True else False) ∧ True) ∧ ic x + (1 : Int) = ic y ∧ ic (bi false l x) = ic (bi false l y) ∧ True else False else False else False else False else ∃ (_x : Unit), True ∧ ((bif e.beq e && sameB ro ro then cellsP gqScS0 (fC (l ++ r)) (fC (l ++ r)) ∧ True else False) ∧ True) ∧ ic (bi false l x) = bestV false l ∧ True) := by kernel_rfl
theorem vRGr_eq  (l r : FL) (e : Nat) (ro : Bool) (c : Nat) (ex : Bool) : vRGr l r e ro c ex = (((∃ (_x : Unit), True ∧ ((bif e.beq e && sameB ro ro then cellsP gqScS0 (fC (l ++ r)) (fC (l ++ r)) ∧ True else False) ∧ True) ∧ (0 : Int) = (0 : Int) ∧ (-1 : Int) = (-1 : Int) ∧ True) ∨ ∃ (x : Nat), ((1 : Nat) ≤ x ∧ x ≤ List.length l) ∧ ((bif e.beq e && sameB ro ro then cellsP gqScS0 (fC (l ++ r)) (fC (l ++ r)) ∧ True else False) ∧ True) ∧ (0 : Int) = ic x ∧ (-1 : Int) = ic (bi true l x) ∧ True) ∧ (∀ (x : Unit), True → bif ltI (0 : Int) (ic (List.length l)) then (∃ (_x : Unit), True ∧ List.length l < List.length l ∧ ((bif e.beq e && sameB ro ro then cellsP gqScS0 (fC (l ++ r)) (fC (l ++ r)) ∧ True else False) ∧ True) ∧ (1 : Int) = (0 : Int) ∧ (0 : Int) = (-1 : Int) ∧ True) ∨ ∃ (y : Nat), ((1 : Nat) ≤ y ∧ y ≤ List.length l) ∧ List.length l - y < List.length l ∧ ((bif e.beq e && sameB ro ro then cellsP gqScS0 (fC (l ++ r)) (fC (l ++ r)) ∧ True else False) ∧ True) ∧ (1 : Int) = ic y ∧ (0 : Int) = ic (bi true l y) ∧ True else ∃ (_x : Unit), True ∧ ((bif e.beq e && sameB ro ro then cellsP gqScS0 (fC (l ++ r)) (fC (l ++ r)) ∧ True else False) ∧ True) ∧ (-1 : Int) = bestV true l ∧ True) ∧ ∀ (x : Nat), (1 : Nat) ≤ x ∧ x ≤ List.length l → bif ltI (ic x) (ic (List.length l)) then bif ltI (ic x) (ic (List.length l)) then (fC (l ++ r))[(0 : Nat) + x * (1 : Nat)]? = some (AV.float FloatKind.f64 (fk l x)) ∧ bif ltI (ic (bi true l x)) (ic (List.length l)) then (fC (l ++ r))[(0 : Nat) + bi true l x * (1 : Nat)]? = some (AV.float FloatKind.f64 (fk l (bi true l x))) ∧ bif in64 (fk l x) && in64 (fk l (bi true l x)) then bif ltI (0 : Int) (cmpv (rk (fk l x)) (rk (fk l (bi true l x)))) then bif leI (ic x + (1 : Int)) (9223372036854775807 : Int) then (∃ (_x : Unit), True ∧ List.length l < List.length l - x ∧ ((bif e.beq e && sameB ro ro then cellsP gqScS0 (fC (l ++ r)) (fC (l ++ r)) ∧ True else False) ∧ True) ∧ ic x + (1 : Int) = (0 : Int) ∧ ic x = (-1 : Int) ∧ True) ∨ ∃ (y : Nat), ((1 : Nat) ≤ y ∧ y ≤ List.length l) ∧ List.length l - y < List.length l - x ∧ ((bif e.beq e && sameB ro ro then cellsP gqScS0 (fC (l ++ r)) (fC (l ++ r)) ∧ True else False) ∧ True) ∧ ic x + (1 : Int) = ic y ∧ ic x = ic (bi true l y) ∧ True else False else bif leI (ic x + (1 : Int)) (9223372036854775807 : Int) then (∃ (_x : Unit), True ∧ List.length l < List.length l - x ∧ ((bif e.beq e && sameB ro ro then cellsP gqScS0 (fC (l ++ r)) (fC (l ++ r)) ∧ True else False) ∧ True) ∧ ic x + (1 : Int) = (0 : Int) ∧ ic (bi true l x) = (-1 : Int) ∧ True) ∨ ∃ (y : Nat), ((1 : Nat) ≤ y ∧ y ≤ List.length l) ∧ List.length l - y < List.length l - x ∧ ((bif e.beq e && sameB ro ro then cellsP gqScS0 (fC (l ++ r)) (fC (l ++ r)) ∧ True else False) ∧ True) ∧ ic x + (1 : Int) = ic y ∧ ic (bi true l x) = ic (bi true l y) ∧ True else False else False else False else False else ∃ (_x : Unit), True ∧ ((bif e.beq e && sameB ro ro then cellsP gqScS0 (fC (l ++ r)) (fC (l ++ r)) ∧ True else False) ∧ True) ∧ ic (bi true l x) = bestV true l ∧ True) := by kernel_rfl
theorem fC_flat (l : FL) : AV.flats (fC l) = true := flats_map _ _ fun _ => rfl
theorem getF_fC : ∀ l : FL, getF (fC l) = l
  | [] => rfl
  | a :: r => by
    show getF (.float .f64 a :: fC r) = _
    rw [getF, getF_fC r]
theorem fsame (b : Bool) : sameB b b = true := by cases b <;> rfl
theorem F_ok (σ : Nat → Nat) (l : FL) (e : Nat) (ro : Bool) : (bif e.beq e && sameB ro ro then cellsP σ (fC l) (fC l) ∧ True else False) := by
  rw [Nat.beq_refl, fsame]
  exact ⟨cellsP_flat (fC_flat _) rfl, trivial⟩
theorem fC_get (l r : FL) {i : Nat} (h : i < l.length) : (fC (l ++ r))[0 + i * 1]? = some (.float .f64 (fk l i)) := by
  unfold fC fk
  rw [Nat.zero_add, Nat.mul_one, List.getElem?_map, List.getElem?_append_left h, List.getD_eq_getElem?_getD, List.getElem?_eq_getElem h]
  rfl
theorem sum_1 {l : FL} {i : Nat} (h : (sumF l i).isSome = true) (k : (flR .add ((sumF l i).getD 0) (fk l i)).isSome = true) : (sumF l (i + 1)).isSome = true ∧ flV .add ((sumF l i).getD 0) (fk l i) = (sumF l (i + 1)).getD 0 := by
  obtain ⟨t, ht⟩ := Option.isSome_iff_exists.1 h
  rw [ht] at k ⊢
  have e : sumF l (i + 1) = flR .add t (fk l i) := by show (sumF l i).bind _ = _; rw [ht]; rfl
  rw [e]
  exact ⟨k, rfl⟩
theorem sum_2 {l : FL} {i : Nat} (h : (sumF l i).isSome = true) (k : (flR .add ((sumF l i).getD 0) (fk l i)).isSome = false) : (sumF l (i + 1)).isSome = false := by
  obtain ⟨t, ht⟩ := Option.isSome_iff_exists.1 h
  rw [ht] at k
  have e : sumF l (i + 1) = flR .add t (fk l i) := by show (sumF l i).bind _ = _; rw [ht]; rfl
  rw [e]
  exact k
theorem sum_3 {l : FL} {i : Nat} (h : (sumF l i).isSome = false) : (sumF l (i + 1)).isSome = false := by
  have e : sumF l i = none := by cases hs : sumF l i with
    | none => rfl
    | some t => rw [hs] at h; cases h
  show ((sumF l i).bind _).isSome = false
  rw [e]; rfl
theorem bi_lt (g : Bool) (l : FL) : ∀ {i : Nat}, 1 ≤ i → bi g l i < i
  | 1, _ => by
    show cond (nearer g l 0 0) 0 0 < 1
    cases nearer g l 0 0 <;> decide
  | i + 2, _ => by
    have h := bi_lt g l (i := i + 1) (by omega)
    show cond (nearer g l (i + 1) (bi g l (i + 1))) (i + 1) (bi g l (i + 1)) < i + 2
    cases nearer g l (i + 1) (bi g l (i + 1))
    · show bi g l (i + 1) < i + 2
      omega
    · show i + 1 < i + 2
      omega
theorem bi_yes {g : Bool} {l : FL} {i : Nat} (h : nearer g l i (bi g l i) = true) : bi g l (i + 1) = i := by
  show cond (nearer g l i (bi g l i)) i (bi g l i) = i
  rw [h]; rfl
theorem bi_no {g : Bool} {l : FL} {i : Nat} (h : nearer g l i (bi g l i) = false) : bi g l (i + 1) = bi g l i := by
  show cond (nearer g l i (bi g l i)) i (bi g l i) = _
  rw [h]; rfl
theorem bi_one (g : Bool) (l : FL) : bi g l 1 = 0 := by have := bi_lt g l (i := 1) (Nat.le_refl _); omega
theorem cmp_r (x y : Int) : -1 ≤ cmpv x y ∧ cmpv x y ≤ 1 := by
  unfold cmpv
  split
  · decide
  · split <;> decide
theorem cmp_m {x y : Int} : ltI 0 (-1 * cmpv x y) = ltI x y := by
  refine Eq.trans ?_ (cmp_lt (x := x) (y := y))
  have := cmp_r x y
  cases h : ltI (cmpv x y) 0 with
  | true => rw [ltI_t] at h; exact ltI_y (by omega)
  | false => rw [ltI_f] at h; exact ltI_n (by omega)
theorem cmp_p {x y : Int} : ltI 0 (1 * cmpv x y) = ltI y x := by rw [Int.one_mul, cmp_gt]
theorem ok64_at {l : FL} (h : ok64 l) {i : Nat} (hi : i < l.length) : in64 (fk l i) = true := by
  unfold fk
  rw [List.getD_eq_getElem?_getD, List.getElem?_eq_getElem hi]
  exact h _ (List.getElem_mem hi)
theorem su_vc (l r : FL) (e : Nat) (ro : Bool) (c : Nat) (ex : Bool) (hl : l.length ≤ 1048576) : vSu l r e ro c ex := by
  rw [vSu_eq]
  refine ⟨.inl ⟨0, ⟨Nat.zero_le _, rfl⟩, ⟨F_ok _ _ _ _, trivial⟩, rfl, rfl, trivial⟩, fun x hx => ?_, fun x hx => ?_⟩
  · refine cond_intro (fun k => ?_) fun k => ?_
    · have k1 : x < l.length := by rw [ltI_t] at k; exact Int.ofNat_lt.1 k
      have b2 : leI (ic x + 1) 9223372036854775807 = true := by rw [leI_t]; show (x : Int) + 1 ≤ _; omega
      refine need_intro k ⟨fC_get l r k1, cond_intro (fun s => need_intro b2 (.inl ⟨x + 1, ⟨k1, (sum_1 hx.2 s).1⟩, by omega, ⟨F_ok _ _ _ _, trivial⟩, rfl, ?_, trivial⟩)) fun s => need_intro b2 (.inr ⟨x + 1, ⟨k1, sum_2 hx.2 s⟩, by omega, ⟨F_ok _ _ _ _, trivial⟩, rfl, rfl, trivial⟩)⟩
      rw [(sum_1 hx.2 s).2]
    · have k1 : x = l.length := by
        rw [ltI_f] at k
        have k : l.length ≤ x := Int.ofNat_le.1 k
        omega
      subst k1
      exact .inl ⟨(), hx.2, ⟨F_ok _ _ _ _, trivial⟩, rfl, trivial⟩
  · refine cond_intro (fun k => ?_) fun k => ?_
    · have k1 : x < l.length := by rw [ltI_t] at k; exact Int.ofNat_lt.1 k
      have b2 : leI (ic x + 1) 9223372036854775807 = true := by rw [leI_t]; show (x : Int) + 1 ≤ _; omega
      exact need_intro k ⟨fC_get l r k1, need_intro b2 (.inr ⟨x + 1, ⟨k1, sum_3 hx.2⟩, by omega, ⟨F_ok _ _ _ _, trivial⟩, rfl, rfl, trivial⟩)⟩
    · have k1 : x = l.length := by
        rw [ltI_f] at k
        have k : l.length ≤ x := Int.ofNat_le.1 k
        omega
      subst k1
      exact .inr ⟨(), hx.2, ⟨F_ok _ _ _ _, trivial⟩, rfl, trivial⟩
theorem rsu_vc (l r : FL) (e : Nat) (ro : Bool) (c : Nat) (ex : Bool) (hl : l.length ≤ 1048576) : vRSu l r e ro c ex := by
  rw [vRSu_eq]
  refine ⟨.inl ⟨0, ⟨Nat.zero_le _, rfl⟩, ⟨F_ok _ _ _ _, trivial⟩, rfl, rfl, trivial⟩, fun x hx => ?_, fun x hx => ?_⟩
  · refine cond_intro (fun k => ?_) fun k => ?_
    · have k1 : x < l.length := by rw [ltI_t] at k; exact Int.ofNat_lt.1 k
      have b2 : leI (ic x + 1) 9223372036854775807 = true := by rw [leI_t]; show (x : Int) + 1 ≤ _; omega
      refine need_intro k ⟨fC_get l r k1, cond_intro (fun s => need_intro b2 (.inl ⟨x + 1, ⟨k1, (sum_1 hx.2 s).1⟩, by omega, ⟨F_ok _ _ _ _, trivial⟩, rfl, ?_, trivial⟩)) fun s => need_intro b2 (.inr ⟨x + 1, ⟨k1, sum_2 hx.2 s⟩, by omega, ⟨F_ok _ _ _ _, trivial⟩, rfl, rfl, trivial⟩)⟩
      rw [(sum_1 hx.2 s).2]
    · have k1 : x = l.length := by
        rw [ltI_f] at k
        have k : l.length ≤ x := Int.ofNat_le.1 k
        omega
      subst k1
      exact .inl ⟨(), hx.2, ⟨F_ok _ _ _ _, trivial⟩, rfl, trivial⟩
  · refine cond_intro (fun k => ?_) fun k => ?_
    · have k1 : x < l.length := by rw [ltI_t] at k; exact Int.ofNat_lt.1 k
      have b2 : leI (ic x + 1) 9223372036854775807 = true := by rw [leI_t]; show (x : Int) + 1 ≤ _; omega
      exact need_intro k ⟨fC_get l r k1, need_intro b2 (.inr ⟨x + 1, ⟨k1, sum_3 hx.2⟩, by omega, ⟨F_ok _ _ _ _, trivial⟩, rfl, rfl, trivial⟩)⟩
    · have k1 : x = l.length := by
        rw [ltI_f] at k
        have k : l.length ≤ x := Int.ofNat_le.1 k
        omega
      subst k1
      exact .inr ⟨(), hx.2, ⟨F_ok _ _ _ _, trivial⟩, rfl, trivial⟩
theorem beL_vc (l r : FL) (e : Nat) (ro : Bool) (c : Nat) (ex : Bool) (hl : l.length ≤ 1048576) (ho : ok64 l) : vBeL l r e ro c ex := by
  rw [vBeL_eq]
  refine ⟨.inl ⟨(), trivial, ⟨F_ok _ _ _ _, trivial⟩, rfl, rfl, trivial⟩, fun _ _ => ?_, fun x hx => ?_⟩
  · refine cond_intro (fun k => ?_) fun k => ⟨(), trivial, ⟨F_ok _ _ _ _, trivial⟩, ?_, trivial⟩
    · have k1 : 0 < l.length := by
        rw [ltI_t] at k
        have k : (0 : Int) < (l.length : Int) := k
        omega
      refine need_intro k ⟨fC_get l r k1, .inr ⟨1, ⟨Nat.le_refl _, k1⟩, by omega, ⟨F_ok _ _ _ _, trivial⟩, rfl, ?_, trivial⟩⟩
      rw [bi_one]; rfl
    · rw [ltI_f] at k
      have k : (l.length : Int) ≤ 0 := k
      unfold bestV
      rw [if_pos (by omega)]
  · refine cond_intro (fun k => ?_) fun k => ⟨(), trivial, ⟨F_ok _ _ _ _, trivial⟩, ?_, trivial⟩
    · have k1 : x < l.length := by rw [ltI_t] at k; exact Int.ofNat_lt.1 k
      have b2 : leI (ic x + 1) 9223372036854775807 = true := by rw [leI_t]; show (x : Int) + 1 ≤ _; omega
      have hb : bi false l x < l.length := Nat.lt_trans (bi_lt _ l hx.1) k1
      have bd : (leI (-9223372036854775808) (-1 * cmpv (rk (fk l x)) (rk (fk l (bi false l x)))) && leI (-1 * cmpv (rk (fk l x)) (rk (fk l (bi false l x)))) 9223372036854775807) = true := by
        have := cmp_r (rk (fk l x)) (rk (fk l (bi false l x)))
        rw [and_t, leI_t, leI_t]; omega
      refine need_intro k ⟨fC_get l r k1, need_intro (ltI_y (Int.ofNat_lt.2 hb)) ⟨fC_get l r hb, need_intro (by rw [and_t]; exact ⟨ok64_at ho k1, ok64_at ho hb⟩) (need_intro bd (cond_intro (fun n => need_intro b2 (.inr ⟨x + 1, ⟨by omega, k1⟩, by omega, ⟨F_ok _ _ _ _, trivial⟩, rfl, ?_, trivial⟩)) fun n => need_intro b2 (.inr ⟨x + 1, ⟨by omega, k1⟩, by omega, ⟨F_ok _ _ _ _, trivial⟩, rfl, ?_, trivial⟩)))⟩⟩
      · rw [cmp_m] at n
        rw [bi_yes (g := false) n]
      · rw [cmp_m] at n
        rw [bi_no (g := false) n]
    · have k1 : x = l.length := by
        rw [ltI_f] at k
        have k : l.length ≤ x := Int.ofNat_le.1 k
        omega
      subst k1
      unfold bestV
      rw [if_neg (by omega)]
theorem beG_vc (l r : FL) (e : Nat) (ro : Bool) (c : Nat) (ex : Bool) (hl : l.length ≤ 1048576) (ho : ok64 l) : vBeG l r e ro c ex := by
  rw [vBeG_eq]
  refine ⟨.inl ⟨(), trivial, ⟨F_ok _ _ _ _, trivial⟩, rfl, rfl, trivial⟩, fun _ _ => ?_, fun x hx => ?_⟩
  · refine cond_intro (fun k => ?_) fun k => ⟨(), trivial, ⟨F_ok _ _ _ _, trivial⟩, ?_, trivial⟩
    · have k1 : 0 < l.length := by
        rw [ltI_t] at k
        have k : (0 : Int) < (l.length : Int) := k
        omega
      refine need_intro k ⟨fC_get l r k1, .inr ⟨1, ⟨Nat.le_refl _, k1⟩, by omega, ⟨F_ok _ _ _ _, trivial⟩, rfl, ?_, trivial⟩⟩
      rw [bi_one]; rfl
    · rw [ltI_f] at k
      have k : (l.length : Int) ≤ 0 := k
      unfold bestV
      rw [if_pos (by omega)]
  · refine cond_intro (fun k => ?_) fun k => ⟨(), trivial, ⟨F_ok _ _ _ _, trivial⟩, ?_, trivial⟩
    · have k1 : x < l.length := by rw [ltI_t] at k; exact Int.ofNat_lt.1 k
      have b2 : leI (ic x + 1) 9223372036854775807 = true := by rw [leI_t]; show (x : Int) + 1 ≤ _; omega
      have hb : bi true l x < l.length := Nat.lt_trans (bi_lt _ l hx.1) k1
      have bd : (leI (-9223372036854775808) (1 * cmpv (rk (fk l x)) (rk (fk l (bi true l x)))) && leI (1 * cmpv (rk (fk l x)) (rk (fk l (bi true l x)))) 9223372036854775807) = true := by
        have := cmp_r (rk (fk l x)) (rk (fk l (bi true l x)))
        rw [and_t, leI_t, leI_t]; omega
      refine need_intro k ⟨fC_get l r k1, need_intro (ltI_y (Int.ofNat_lt.2 hb)) ⟨fC_get l r hb, need_intro (by rw [and_t]; exact ⟨ok64_at ho k1, ok64_at ho hb⟩) (need_intro bd (cond_intro (fun n => need_intro b2 (.inr ⟨x + 1, ⟨by omega, k1⟩, by omega, ⟨F_ok _ _ _ _, trivial⟩, rfl, ?_, trivial⟩)) fun n => need_intro b2 (.inr ⟨x + 1, ⟨by omega, k1⟩, by omega, ⟨F_ok _ _ _ _, trivial⟩, rfl, ?_, trivial⟩)))⟩⟩
      · rw [cmp_p] at n
        rw [bi_yes (g := true) n]
      · rw [cmp_p] at n
        rw [bi_no (g := true) n]
    · have k1 : x = l.length := by
        rw [ltI_f] at k
        have k : l.length ≤ x := Int.ofNat_le.1 k
        omega
      subst k1
      unfold bestV
      rw [if_neg (by omega)]
theorem rLe_vc (l r : FL) (e : Nat) (ro : Bool) (c : Nat) (ex : Bool) (hl : l.length ≤ 1048576) (ho : ok64 l) : vRLe l r e ro c ex := by
  rw [vRLe_eq]
  refine ⟨.inl ⟨(), trivial, ⟨F_ok _ _ _ _, trivial⟩, rfl, rfl, trivial⟩, fun _ _ => ?_, fun x hx => ?_⟩
  · refine cond_intro (fun k => ?_) fun k => ⟨(), trivial, ⟨F_ok _ _ _ _, trivial⟩, ?_, trivial⟩
    · have k1 : 0 < l.length := by
        rw [ltI_t] at k
        have k : (0 : Int) < (l.length : Int) := k
        omega
      refine .inr ⟨1, ⟨Nat.le_refl _, k1⟩, by omega, ⟨F_ok _ _ _ _, trivial⟩, rfl, ?_, trivial⟩
      rw [bi_one]; rfl
    · rw [ltI_f] at k
      have k : (l.length : Int) ≤ 0 := k
      unfold bestV
      rw [if_pos (by omega)]
  · refine cond_intro (fun k => ?_) fun k => ⟨(), trivial, ⟨F_ok _ _ _ _, trivial⟩, ?_, trivial⟩
    · have k1 : x < l.length := by rw [ltI_t] at k; exact Int.ofNat_lt.1 k
      have b2 : leI (ic x + 1) 9223372036854775807 = true := by rw [leI_t]; show (x : Int) + 1 ≤ _; omega
      have hb : bi false l x < l.length := Nat.lt_trans (bi_lt _ l hx.1) k1
      refine need_intro k ⟨fC_get l r k1, need_intro (ltI_y (Int.ofNat_lt.2 hb)) ⟨fC_get l r hb, need_intro (by rw [and_t]; exact ⟨ok64_at ho k1, ok64_at ho hb⟩) (cond_intro (fun n => need_intro b2 (.inr ⟨x + 1, ⟨by omega, k1⟩, by omega, ⟨F_ok _ _ _ _, trivial⟩, rfl, ?_, trivial⟩)) fun n => need_intro b2 (.inr ⟨x + 1, ⟨by omega, k1⟩, by omega, ⟨F_ok _ _ _ _, trivial⟩, rfl, ?_, trivial⟩))⟩⟩
      · rw [cmp_lt] at n
        rw [bi_yes (g := false) n]
      · rw [cmp_lt] at n
        rw [bi_no (g := false) n]
    · have k1 : x = l.length := by
        rw [ltI_f] at k
        have k : l.length ≤ x := Int.ofNat_le.1 k
        omega
      subst k1
      unfold bestV
      rw [if_neg (by omega)]
theorem rGr_vc (l r : FL) (e : Nat) (ro : Bool) (c : Nat) (ex : Bool) (hl : l.length ≤ 1048576) (ho : ok64 l) : vRGr l r e ro c ex := by
  rw [vRGr_eq]
  refine ⟨.inl ⟨(), trivial, ⟨F_ok _ _ _ _, trivial⟩, rfl, rfl, trivial⟩, fun _ _ => ?_, fun x hx => ?_⟩
  · refine cond_intro (fun k => ?_) fun k => ⟨(), trivial, ⟨F_ok _ _ _ _, trivial⟩, ?_, trivial⟩
    · have k1 : 0 < l.length := by
        rw [ltI_t] at k
        have k : (0 : Int) < (l.length : Int) := k
        omega
      refine .inr ⟨1, ⟨Nat.le_refl _, k1⟩, by omega, ⟨F_ok _ _ _ _, trivial⟩, rfl, ?_, trivial⟩
      rw [bi_one]; rfl
    · rw [ltI_f] at k
      have k : (l.length : Int) ≤ 0 := k
      unfold bestV
      rw [if_pos (by omega)]
  · refine cond_intro (fun k => ?_) fun k => ⟨(), trivial, ⟨F_ok _ _ _ _, trivial⟩, ?_, trivial⟩
    · have k1 : x < l.length := by rw [ltI_t] at k; exact Int.ofNat_lt.1 k
      have b2 : leI (ic x + 1) 9223372036854775807 = true := by rw [leI_t]; show (x : Int) + 1 ≤ _; omega
      have hb : bi true l x < l.length := Nat.lt_trans (bi_lt _ l hx.1) k1
      refine need_intro k ⟨fC_get l r k1, need_intro (ltI_y (Int.ofNat_lt.2 hb)) ⟨fC_get l r hb, need_intro (by rw [and_t]; exact ⟨ok64_at ho k1, ok64_at ho hb⟩) (cond_intro (fun n => need_intro b2 (.inr ⟨x + 1, ⟨by omega, k1⟩, by omega, ⟨F_ok _ _ _ _, trivial⟩, rfl, ?_, trivial⟩)) fun n => need_intro b2 (.inr ⟨x + 1, ⟨by omega, k1⟩, by omega, ⟨F_ok _ _ _ _, trivial⟩, rfl, ?_, trivial⟩))⟩⟩
      · rw [cmp_gt] at n
        rw [bi_yes (g := true) n]
      · rw [cmp_gt] at n
        rw [bi_no (g := true) n]
    · have k1 : x = l.length := by
        rw [ltI_f] at k
        have k : l.length ≤ x := Int.ofNat_le.1 k
        omega
      subst k1
      unfold bestV
      rw [if_neg (by omega)]

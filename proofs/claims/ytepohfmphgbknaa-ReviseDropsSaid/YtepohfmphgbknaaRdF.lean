/- What the layer of fields answers: the values of a name; small letters in the document; few fields. -/
import Derived.Test.YtepohfmphgbknaaLow
import Derived.Test.YtepohfmphgbknaaSe
set_option linter.unusedSimpArgs false
set_option linter.unusedVariables false
namespace Go.Proofs.Ytepohfmphgbknaa
open Go Go.Ve
set_option maxRecDepth 20000
def ts (l : List (List UInt8)) : List AV := l.map .str
noncomputable def eT : Nat := btag Try.prog 9 1
def g1 (h : List UInt8 → Bool) (F : List UInt8 → AV) (args : List AV) : Option (Bool × AV) :=
  match args with
  | [.str s] => some (h s, F s)
  | _ => none
abbrev LL := List (List UInt8)
abbrev FL := List (List UInt8 × List UInt8)
/-- Fields, as cells. -/
def fieldC (l : FL) : List AV := l.flatMap fun f => [.str f.1, .str f.2]
def getF : List AV → FL
  | .str a :: .str b :: r => (a, b) :: getF r
  | _ => []
def getS : List AV → LL
  | .str a :: r => a :: getS r
  | _ => []
def fld (l : FL) (i : Nat) : List UInt8 × List UInt8 := l.getD i ([], [])
/-- The values of a name. -/
def allF (l : FL) (nm : List UInt8) : LL := (l.filter fun f => decide (lower f.1 = lower nm)).map (·.2)
def le40 (s : List UInt8) : Bool := decide (s.length ≤ 1099511627776)
def totL (l : FL) : Nat := (l.map fun f => f.1.length + f.2.length + 1).sum
noncomputable def TL0 : List (Nat × SpecE) := [(18, flatE (g1 le40 fun s => .str (lower s)))]
noncomputable def VL0 : VE := ⟨Try.prog, tabS TL0 noS, noO, fun _ => none⟩
def gSame (args : List AV) : Option (Bool × AV) := match args with | [.str a, .str b] => some (Bool.and (le40 a) (le40 b), .bool (decide (lower a = lower b))) | _ => none
noncomputable def TL1 : List (Nat × SpecE) := [(14, flatE gSame)]
noncomputable def VL1 : VE := ⟨Try.prog, tabS TL1 noS, noO, fun _ => none⟩
noncomputable def aAll (l r : FL) (nm : List UInt8) (e : Nat) (ro : Bool) : Anns := [(2, [
  .mk Nat (fun i => [(9, .int .i64 i), (4, .nilsl)]) (fun _ => some [.cells (fieldC (l ++ r)) e ro]) (fun i => i ≤ l.length ∧ allF (l.take i) nm = []) (fun i => l.length - i) gcB gcB (fun i => [(12, .agg [.str (fld l i).1, .str (fld l i).2])]) (fun _ => []),
  .mk Nat (fun i => [(9, .int .i64 i), (4, .sl 1 0 (allF (l.take i) nm).length (allF (l.take i) nm).length false)]) (fun i => some [.cells (fieldC (l ++ r)) e ro, .cells (ts (allF (l.take i) nm)) eT false]) (fun i => i ≤ l.length ∧ allF (l.take i) nm ≠ []) (fun i => l.length - i) gcB gcB (fun i => [(12, .agg [.str (fld l i).1, .str (fld l i).2])]) (fun _ => [])])]
noncomputable def outA (l r : FL) (nm : List UInt8) (e : Nat) (ro : Bool) : List Out := [
  ⟨Unit, fun _ => .nilsl, fun _ => [.cells (fieldC (l ++ r)) e ro], fun _ => allF l nm = [], gcB⟩,
  ⟨Unit, fun _ => .sl 1 0 (allF l nm).length (allF l nm).length false, fun _ => [.cells (fieldC (l ++ r)) e ro, .cells (ts (allF l nm)) eT false], fun _ => allF l nm ≠ [], gcB⟩]
noncomputable def aLowR (s : List UInt8) : Anns := [(3, [.mk Nat (fun i => [(4, .int .i64 i)]) (fun i => some [.cells (bs (lower (s.take i) ++ s.drop i)) (btag Try.prog 5 1) false]) (fun i => i ≤ s.length) (fun i => s.length - i) none none (fun i => [(16, .int .u8 (byteAt s i)), (22, .int .u8 (byteAt s i)), (30, .int .u8 (byteAt s i))]) (fun _ => [])])]
def safeB (m : List UInt8) : Bool := decide (m = [71, 69, 84]) || decide (m = [72, 69, 65, 68]) || decide (m = [79, 80, 84, 73, 79, 78, 83]) || decide (m = [84, 82, 65, 67, 69])
noncomputable def VPl : VE := ⟨Try.prog, noS, noO, fun _ => some ⟨[], [], []⟩⟩
def fewB (l : FL) : Bool := decide (l.length ≤ 30) && l.all fun f => decide (f.1.length ≤ 300) && decide (f.2.length ≤ 300)
noncomputable def aFew (l r : FL) (e : Nat) (ro : Bool) : Anns := [(2, [.mk Nat (fun i => [(3, .int .i64 i)]) (fun _ => some [.cells (fieldC (l ++ r)) e ro]) (fun i => i ≤ l.length ∧ ∀ j, j < i → (fld l j).1.length ≤ 300 ∧ (fld l j).2.length ≤ 300) (fun i => l.length - i) gcB gcB (fun i => [(14, .str (fld l i).1), (22, .str (fld l i).2)]) (fun _ => [])])]

noncomputable def vLowR  (s : List UInt8) : Prop := vcF V0 [] 300 (aLowR s) [(34, .str (lower s))] 16 [.str s] [] (one (.str (lower s)))
noncomputable def vSame  (a b : List UInt8) : Prop := vcF VL0 [] 300 [] [] 14 [.str a, .str b] [] (one (.bool (decide (lower a = lower b))))
noncomputable def vAllN  (nm : List UInt8) : Prop := vcF VL1 [] 300 [] [] 12 [.nilsl, .str nm] [] (one .nilsl)
noncomputable def vAllZ  (nm : List UInt8) : Prop := vcF VL1 [] 300 [] [] 12 [.slz, .str nm] [] (one .nilsl)
noncomputable def vAll  (l r : FL) (nm : List UInt8) (e : Nat) (ro : Bool) (c : Nat) (ex : Bool) : Prop := vcF VL1 [] 300 (aAll l r nm e ro) [] 12 [.sl 0 0 l.length c ex, .str nm] [.cells (fieldC (l ++ r)) e ro] (outA l r nm e ro)
noncomputable def vFewN  : Prop := vcF V0 [] 300 [] [] 5 [.nilsl] [] (one (.bool true))
noncomputable def vFewZ  : Prop := vcF V0 [] 300 [] [] 5 [.slz] [] (one (.bool true))
noncomputable def vFew  (l r : FL) (e : Nat) (ro : Bool) (c : Nat) (ex : Bool) : Prop := vcF V0 [] 300 (aFew l r e ro) [] 5 [.sl 0 0 l.length c ex] [.cells (fieldC (l ++ r)) e ro] [⟨Unit, fun _ => .bool (fewB l), fun _ => [.cells (fieldC (l ++ r)) e ro], fun _ => True, gcB⟩]
noncomputable def vSafe  (m : List UInt8) : Prop := vcF VPl [] 300 [] [] 10 [.str m] [] [⟨Unit, fun _ => .bool (safeB m), fun _ => [], fun _ => True, gcB⟩]
def gqRdF0 : Nat → Nat := (fun (b : Nat) => [(0 : Nat)].getD b (1 : Nat))
theorem vLowR_eq  (s : List UInt8) : vLowR s = ((∃ (x : Nat), x ≤ s.length ∧ ((cellsP gqRdF0 (bs (lower (List.take x s) ++ List.drop x s)) (List.map (fun (c : UInt8) => AV.int IntKind.u8 (ic c.toNat)) s) ∧ True) ∧ True) ∧ (0 : Int) = ic x ∧ True) ∧ ∀ (x : Nat), x ≤ s.length → bif ltI (ic x) (ic s.length) then bif ltI (ic x) (ic s.length) then (bs (lower (List.take x s) ++ List.drop x s))[(0 : Nat) + x * (1 : Nat)]? = some (AV.int IntKind.u8 (byteAt s x)) ∧ bif leI (65 : Int) (byteAt s x) then bif ltI (ic x) (ic s.length) then (bs (lower (List.take x s) ++ List.drop x s))[(0 : Nat) + x * (1 : Nat)]? = some (AV.int IntKind.u8 (byteAt s x)) ∧ bif leI (byteAt s x) (90 : Int) then bif ltI (ic x) (ic s.length) then (bs (lower (List.take x s) ++ List.drop x s))[(0 : Nat) + x * (1 : Nat)]? = some (AV.int IntKind.u8 (byteAt s x)) ∧ bif leI (byteAt s x + (32 : Int)) (255 : Int) then bif ltI (ic x) (ic s.length) then bif decide ((0 : Nat) + x * (1 : Nat) + (1 : Nat) ≤ (bs (lower (List.take x s) ++ List.drop x s)).length) then bif leI (ic x + (1 : Int)) (9223372036854775807 : Int) then ∃ (y : Nat), y ≤ s.length ∧ s.length - y < s.length - x ∧ ((cellsP gqRdF0 (bs (lower (List.take y s) ++ List.drop y s)) (setManyF (bs (lower (List.take x s) ++ List.drop x s)) ((0 : Nat) + x * (1 : Nat)) [AV.int IntKind.u8 (byteAt s x + (32 : Int))]) ∧ True) ∧ True) ∧ ic x + (1 : Int) = ic y ∧ True else False else False else False else False else False else bif leI (ic x + (1 : Int)) (9223372036854775807 : Int) then ∃ (y : Nat), y ≤ s.length ∧ s.length - y < s.length - x ∧ ((cellsP gqRdF0 (bs (lower (List.take y s) ++ List.drop y s)) (bs (lower (List.take x s) ++ List.drop x s)) ∧ True) ∧ True) ∧ ic x + (1 : Int) = ic y ∧ True else False else False else bif leI (ic x + (1 : Int)) (9223372036854775807 : Int) then ∃ (y : Nat), y ≤ s.length ∧ s.length - y < s.length - x ∧ ((cellsP gqRdF0 (bs (lower (List.take y s) ++ List.drop y s)) (bs (lower (List.take x s) ++ List.drop x s)) ∧ True) ∧ True) ∧ ic x + (1 : Int) = ic y ∧ True else False else False else bif decide ((0 : Nat) + s.length ≤ (bs (lower (List.take x s) ++ List.drop x s)).length) then abytes (List.take s.length (List.drop (0 : Nat) (bs (lower (List.take x s) ++ List.drop x s)))) = some (lower s) ∧ ∃ (_x : Unit), True ∧ True ∧ lower s = lower s ∧ True else False) := by kernel_rfl
theorem vSame_eq  (a b : List UInt8) : vSame a b = (bif le40 a then bif le40 b then ∃ (_x : Unit), True ∧ True ∧ decide (lower a = lower b) = decide (lower a = lower b) ∧ True else False else False) := by kernel_rfl
theorem vAllN_eq  (nm : List UInt8) : vAllN nm = (∃ (_x : Unit), True ∧ True ∧ True ∧ True) := by kernel_rfl
theorem vAllZ_eq  (nm : List UInt8) : vAllZ nm = (∃ (_x : Unit), True ∧ True ∧ True ∧ True) := by kernel_rfl
theorem vAll_eq  (l r : FL) (nm : List UInt8) (e : Nat) (ro : Bool) (c : Nat) (ex : Bool) : vAll l r nm e ro c ex = (((∃ (x : Nat), (x ≤ List.length l ∧ allF (List.take x l) nm = []) ∧ ((bif e.beq e && sameB ro ro then cellsP gqRdF0 (fieldC (l ++ r)) (fieldC (l ++ r)) ∧ True else False) ∧ True) ∧ (0 : Int) = ic x ∧ True ∧ True) ∨ ∃ (x : Nat), (x ≤ List.length l ∧ allF (List.take x l) nm ≠ []) ∧ False) ∧ (∀ (x : Nat), x ≤ List.length l ∧ allF (List.take x l) nm = [] → bif ltI (ic x) (ic (List.length l)) then bif ltI (ic x) (ic (List.length l)) then bif decide ((0 : Nat) + x * (2 : Nat) + (2 : Nat) ≤ (fieldC (l ++ r)).length) then List.take (2 : Nat) (List.drop ((0 : Nat) + x * (2 : Nat)) (fieldC (l ++ r))) = [AV.str (fld l x).fst, AV.str (fld l x).snd] ∧ bif le40 (fld l x).fst && le40 nm then bif decide (lower (fld l x).fst = lower nm) then bif leI (ic x + (1 : Int)) (9223372036854775807 : Int) then (∃ (y : Nat), (y ≤ List.length l ∧ allF (List.take y l) nm = []) ∧ List.length l - y < List.length l - x ∧ ((bif e.beq e && sameB ro ro then cellsP (fun (b : Nat) => [(0 : Nat)].getD b (4 : Nat)) (fieldC (l ++ r)) (fieldC (l ++ r)) ∧ True else False) ∧ True) ∧ ic x + (1 : Int) = ic y ∧ False ∧ True) ∨ ∃ (y : Nat), (y ≤ List.length l ∧ allF (List.take y l) nm ≠ []) ∧ List.length l - y < List.length l - x ∧ ((bif e.beq e && sameB ro ro then cellsP (fun (b : Nat) => [(0 : Nat), (3 : Nat)].getD b (4 : Nat)) (fieldC (l ++ r)) (fieldC (l ++ r)) ∧ True else False) ∧ (cellsP (fun (b : Nat) => [(0 : Nat), (3 : Nat)].getD b (4 : Nat)) (ts (allF (List.take y l) nm)) [AV.str (fld l x).snd] ∧ True) ∧ True) ∧ ic x + (1 : Int) = ic y ∧ ((0 : Nat) = (0 : Nat) ∧ (1 : Nat) = List.length (allF (List.take y l) nm) ∧ (1 : Nat) = List.length (allF (List.take y l) nm) ∧ false = false) ∧ True else False else bif leI (ic x + (1 : Int)) (9223372036854775807 : Int) then (∃ (y : Nat), (y ≤ List.length l ∧ allF (List.take y l) nm = []) ∧ List.length l - y < List.length l - x ∧ ((bif e.beq e && sameB ro ro then cellsP (fun (b : Nat) => [(0 : Nat)].getD b (2 : Nat)) (fieldC (l ++ r)) (fieldC (l ++ r)) ∧ True else False) ∧ True) ∧ ic x + (1 : Int) = ic y ∧ True ∧ True) ∨ ∃ (y : Nat), (y ≤ List.length l ∧ allF (List.take y l) nm ≠ []) ∧ List.length l - y < List.length l - x ∧ ((bif e.beq e && sameB ro ro then cellsP (fun (b : Nat) => [(0 : Nat), (1 : Nat)].getD b (2 : Nat)) (fieldC (l ++ r)) (fieldC (l ++ r)) ∧ True else False) ∧ False ∧ True) ∧ ic x + (1 : Int) = ic y ∧ False ∧ True else False else False else False else False else (∃ (_x : Unit), allF l nm = [] ∧ ((bif e.beq e && sameB ro ro then cellsP gqRdF0 (fieldC (l ++ r)) (fieldC (l ++ r)) ∧ True else False) ∧ True) ∧ True ∧ True) ∨ ∃ (_x : Unit), allF l nm ≠ [] ∧ False) ∧ ∀ (x : Nat), x ≤ List.length l ∧ allF (List.take x l) nm ≠ [] → bif ltI (ic x) (ic (List.length l)) then bif ltI (ic x) (ic (List.length l)) then bif decide ((0 : Nat) + x * (2 : Nat) + (2 : Nat) ≤ (fieldC (l ++ r)).length) then List.take (2 : Nat) (List.drop ((0 : Nat) + x * (2 : Nat)) (fieldC (l ++ r))) = [AV.str (fld l x).fst, AV.str (fld l x).snd] ∧ bif le40 (fld l x).fst && le40 nm then bif decide (lower (fld l x).fst = lower nm) then bif decide (List.length (allF (List.take x l) nm) ≤ List.length (allF (List.take x l) nm)) && decide ((0 : Nat) + List.length (allF (List.take x l) nm) * (1 : Nat) ≤ (ts (allF (List.take x l) nm)).length) then bif decide (List.length (allF (List.take x l) nm) + (1 : Nat) ≤ List.length (allF (List.take x l) nm)) then bif decide ((0 : Nat) + (List.length (allF (List.take x l) nm) + (1 : Nat)) * (1 : Nat) ≤ (ts (allF (List.take x l) nm)).length) && true then bif leI (ic x + (1 : Int)) (9223372036854775807 : Int) then (∃ (y : Nat), (y ≤ List.length l ∧ allF (List.take y l) nm = []) ∧ List.length l - y < List.length l - x ∧ ((bif e.beq e && sameB ro ro then cellsP (fun (b : Nat) => [(0 : Nat)].getD b (4 : Nat)) (fieldC (l ++ r)) (fieldC (l ++ r)) ∧ True else False) ∧ True) ∧ ic x + (1 : Int) = ic y ∧ False ∧ True) ∨ ∃ (y : Nat), (y ≤ List.length l ∧ allF (List.take y l) nm ≠ []) ∧ List.length l - y < List.length l - x ∧ ((bif e.beq e && sameB ro ro then cellsP (fun (b : Nat) => [(0 : Nat), (1 : Nat)].getD b (4 : Nat)) (fieldC (l ++ r)) (fieldC (l ++ r)) ∧ True else False) ∧ (cellsP (fun (b : Nat) => [(0 : Nat), (1 : Nat)].getD b (4 : Nat)) (ts (allF (List.take y l) nm)) (setManyF (ts (allF (List.take x l) nm)) ((0 : Nat) + List.length (allF (List.take x l) nm) * (1 : Nat)) [AV.str (fld l x).snd]) ∧ True) ∧ True) ∧ ic x + (1 : Int) = ic y ∧ ((0 : Nat) = (0 : Nat) ∧ List.length (allF (List.take x l) nm) + (1 : Nat) = List.length (allF (List.take y l) nm) ∧ List.length (allF (List.take x l) nm) = List.length (allF (List.take y l) nm) ∧ false = false) ∧ True else False else False else bif decide (List.length (allF (List.take x l) nm) + (1 : Nat) ≤ (9223372036854775807 : Nat)) && decide ((List.length (allF (List.take x l) nm) + (1 : Nat)) * (16 : Nat) ≤ (140737488355328 : Nat)) then bif decide (List.length (allF (List.take x l) nm) = List.length (allF (List.take x l) nm)) && (decide ((0 : Nat) + List.length (allF (List.take x l) nm) * (1 : Nat) = (ts (allF (List.take x l) nm)).length) && true) then bif leI (ic x + (1 : Int)) (9223372036854775807 : Int) then (∃ (y : Nat), (y ≤ List.length l ∧ allF (List.take y l) nm = []) ∧ List.length l - y < List.length l - x ∧ ((bif e.beq e && sameB ro ro then cellsP (fun (b : Nat) => [(0 : Nat)].getD b (5 : Nat)) (fieldC (l ++ r)) (fieldC (l ++ r)) ∧ True else False) ∧ True) ∧ ic x + (1 : Int) = ic y ∧ False ∧ True) ∨ ∃ (y : Nat), (y ≤ List.length l ∧ allF (List.take y l) nm ≠ []) ∧ List.length l - y < List.length l - x ∧ ((bif e.beq e && sameB ro ro then cellsP (fun (b : Nat) => [(0 : Nat), (4 : Nat)].getD b (5 : Nat)) (fieldC (l ++ r)) (fieldC (l ++ r)) ∧ True else False) ∧ (cellsP (fun (b : Nat) => [(0 : Nat), (4 : Nat)].getD b (5 : Nat)) (ts (allF (List.take y l) nm)) (List.drop (0 : Nat) (ts (allF (List.take x l) nm)) ++ [AV.str (fld l x).snd]) ∧ True) ∧ True) ∧ ic x + (1 : Int) = ic y ∧ ((0 : Nat) = (0 : Nat) ∧ List.length (allF (List.take x l) nm) + (1 : Nat) = List.length (allF (List.take y l) nm) ∧ List.length (allF (List.take x l) nm) + (1 : Nat) = List.length (allF (List.take y l) nm) ∧ false = false) ∧ True else False else False else False else False else bif leI (ic x + (1 : Int)) (9223372036854775807 : Int) then (∃ (y : Nat), (y ≤ List.length l ∧ allF (List.take y l) nm = []) ∧ List.length l - y < List.length l - x ∧ ((bif e.beq e && sameB ro ro then cellsP (fun (b : Nat) => [(0 : Nat)].getD b (3 : Nat)) (fieldC (l ++ r)) (fieldC (l ++ r)) ∧ True else False) ∧ True) ∧ ic x + (1 : Int) = ic y ∧ False ∧ True) ∨ ∃ (y : Nat), (y ≤ List.length l ∧ allF (List.take y l) nm ≠ []) ∧ List.length l - y < List.length l - x ∧ ((bif e.beq e && sameB ro ro then cellsP (fun (b : Nat) => [(0 : Nat), (1 : Nat)].getD b (3 : Nat)) (fieldC (l ++ r)) (fieldC (l ++ r)) ∧ True else False) ∧ (cellsP (fun (b : Nat) => [(0 : Nat), (1 : Nat)].getD b (3 : Nat)) (ts (allF (List.take y l) nm)) (ts (allF (List.take x l) nm)) ∧ True) ∧ True) ∧ ic x + (1 : Int) = ic y ∧ ((0 : Nat) = (0 : Nat) ∧ List.length (allF (List.take x l) nm) = List.length (allF (List.take y l) nm) ∧ List.length (allF (List.take x l) nm) = List.length (allF (List.take y l) nm) ∧ false = false) ∧ True else False else False else False else False else (∃ (_x : Unit), allF l nm = [] ∧ ((bif e.beq e && sameB ro ro then cellsP (fun (b : Nat) => [(0 : Nat)].getD b (2 : Nat)) (fieldC (l ++ r)) (fieldC (l ++ r)) ∧ True else False) ∧ True) ∧ False ∧ True) ∨ ∃ (_x : Unit), allF l nm ≠ [] ∧ ((bif e.beq e && sameB ro ro then cellsP (fun (b : Nat) => [(0 : Nat), (1 : Nat)].getD b (2 : Nat)) (fieldC (l ++ r)) (fieldC (l ++ r)) ∧ True else False) ∧ (cellsP (fun (b : Nat) => [(0 : Nat), (1 : Nat)].getD b (2 : Nat)) (ts (allF l nm)) (ts (allF (List.take x l) nm)) ∧ True) ∧ True) ∧ ((0 : Nat) = (0 : Nat) ∧ List.length (allF (List.take x l) nm) = List.length (allF l nm) ∧ List.length (allF (List.take x l) nm) = List.length (allF l nm) ∧ false = false) ∧ True) := by kernel_rfl
theorem vFewN_eq  : vFewN  = (∃ (_x : Unit), True ∧ True ∧ true = true ∧ True) := by kernel_rfl
theorem vFewZ_eq  : vFewZ  = (∃ (_x : Unit), True ∧ True ∧ true = true ∧ True) := by kernel_rfl
theorem vFew_eq  (l r : FL) (e : Nat) (ro : Bool) (c : Nat) (ex : Bool) : vFew l r e ro c ex = ((∃ (x : Nat), (x ≤ List.length l ∧ ∀ (j : Nat), j < x → (fld l j).fst.length ≤ (300 : Nat) ∧ (fld l j).snd.length ≤ (300 : Nat)) ∧ ((bif e.beq e && sameB ro ro then cellsP gqRdF0 (fieldC (l ++ r)) (fieldC (l ++ r)) ∧ True else False) ∧ True) ∧ (0 : Int) = ic x ∧ True) ∧ ∀ (x : Nat), (x ≤ List.length l ∧ ∀ (j : Nat), j < x → (fld l j).fst.length ≤ (300 : Nat) ∧ (fld l j).snd.length ≤ (300 : Nat)) → bif ltI (ic x) (ic (List.length l)) then bif ltI (ic x) (ic (List.length l)) then (fieldC (l ++ r))[(0 : Nat) + x * (2 : Nat) + (0 : Nat)]? = some (AV.str (fld l x).fst) ∧ bif ltI (300 : Int) (ic (fld l x).fst.length) then ∃ (_x : Unit), True ∧ ((bif e.beq e && sameB ro ro then cellsP gqRdF0 (fieldC (l ++ r)) (fieldC (l ++ r)) ∧ True else False) ∧ True) ∧ false = fewB l ∧ True else bif ltI (ic x) (ic (List.length l)) then (fieldC (l ++ r))[(0 : Nat) + x * (2 : Nat) + (1 : Nat)]? = some (AV.str (fld l x).snd) ∧ bif ltI (300 : Int) (ic (fld l x).snd.length) then ∃ (_x : Unit), True ∧ ((bif e.beq e && sameB ro ro then cellsP gqRdF0 (fieldC (l ++ r)) (fieldC (l ++ r)) ∧ True else False) ∧ True) ∧ false = fewB l ∧ True else bif leI (ic x + (1 : Int)) (9223372036854775807 : Int) then ∃ (y : Nat), (y ≤ List.length l ∧ ∀ (j : Nat), j < y → (fld l j).fst.length ≤ (300 : Nat) ∧ (fld l j).snd.length ≤ (300 : Nat)) ∧ List.length l - y < List.length l - x ∧ ((bif e.beq e && sameB ro ro then cellsP gqRdF0 (fieldC (l ++ r)) (fieldC (l ++ r)) ∧ True else False) ∧ True) ∧ ic x + (1 : Int) = ic y ∧ True else False else False else False else ∃ (_x : Unit), True ∧ ((bif e.beq e && sameB ro ro then cellsP gqRdF0 (fieldC (l ++ r)) (fieldC (l ++ r)) ∧ True else False) ∧ True) ∧ leI (ic (List.length l)) (30 : Int) = fewB l ∧ True) := by kernel_rfl
theorem vSafe_eq  (m : List UInt8) : vSafe m = (bif decide (m = [(71 : UInt8), (69 : UInt8), (84 : UInt8)]) then ∃ (_x : Unit), True ∧ True ∧ true = safeB m ∧ True else bif decide (m = [(72 : UInt8), (69 : UInt8), (65 : UInt8), (68 : UInt8)]) then ∃ (_x : Unit), True ∧ True ∧ true = safeB m ∧ True else bif decide (m = [(79 : UInt8), (80 : UInt8), (84 : UInt8), (73 : UInt8), (79 : UInt8), (78 : UInt8), (83 : UInt8)]) then ∃ (_x : Unit), True ∧ True ∧ true = safeB m ∧ True else bif decide (m = [(84 : UInt8), (82 : UInt8), (65 : UInt8), (67 : UInt8), (69 : UInt8)]) then ∃ (_x : Unit), True ∧ True ∧ true = safeB m ∧ True else ∃ (_x : Unit), True ∧ True ∧ false = safeB m ∧ True) := by kernel_rfl
theorem g1_ok {f : FuncId} {h : List UInt8 → Bool} {F : List UInt8 → AV} (hF : ∀ s, (F s).flat = true) (hc : ∀ s, h s = true → SC Try.prog f [.str s] [] (fun v H => v = F s ∧ H = [])) : EntryOk Try.prog f (flatE (g1 h F)) := by
  refine flatE_ok fun args b v hg hb => ?_
  unfold g1 at hg
  split at hg
  · cases hg
    exact ⟨rfl, hF _, hc _ hb⟩
  · cases hg
theorem ts_length (l : List (List UInt8)) : (ts l).length = l.length := by simp [ts]
theorem ts_flat (l : List (List UInt8)) : AV.flats (ts l) = true := flats_map _ _ fun _ => rfl
theorem ts_snoc (l : List (List UInt8)) (x : List UInt8) : ts l ++ [.str x] = ts (l ++ [x]) := by simp [ts]
theorem sameB_self (b : Bool) : sameB b b = true := by cases b <;> rfl
theorem cells_refl {σ : Nat → Nat} {vs : List AV} (hf : AV.flats vs = true) : cellsP σ vs vs := cellsP_flat hf rfl
theorem cells_tsr (σ : Nat → Nat) (a : LL) : cellsP σ (ts a) (ts a) = True := eq_true (cells_refl (ts_flat _))
theorem take_ts (a : LL) : (ts a).take a.length = ts a := by rw [← ts_length a]; exact List.take_length
theorem ts_one : ∀ l : LL, AV.allOne (ts l) = true
  | [] => rfl
  | a :: r => by
    have := ts_one r
    simp only [ts, List.map_cons, AV.allOne] at this ⊢
    rw [this]; rfl
theorem ts_app (a b : LL) : ts (a ++ b) = ts a ++ ts b := by simp [ts]
theorem fieldC_flat : ∀ l : FL, AV.flats (fieldC l) = true
  | [] => rfl
  | a :: r => by
    have := fieldC_flat r
    show AV.flats (.str a.1 :: .str a.2 :: fieldC r) = true
    simp only [AV.flats, this, AV.flat, Bool.and_true]
theorem fieldC_length (l : FL) : (fieldC l).length = 2 * l.length := by
  induction l with
  | nil => rfl
  | cons a r ih => simp only [fieldC, List.flatMap_cons, List.length_append, List.length_cons, List.length_nil] at ih ⊢; omega
theorem cells_fld (σ : Nat → Nat) (a : FL) : cellsP σ (fieldC a) (fieldC a) = True := eq_true (cells_refl (fieldC_flat _))
theorem fieldC_drop : ∀ (l : FL) (i : Nat), i < l.length → ((fieldC l).drop (i * 2)).take 2 = [AV.str (fld l i).1, AV.str (fld l i).2]
  | [], i, h => by simp at h
  | a :: l, 0, _ => rfl
  | a :: l, i + 1, h => by
    have := fieldC_drop l i (by simpa using h)
    rw [show (i + 1) * 2 = i * 2 + 2 by omega]
    exact this
theorem fld_app (b r : FL) (i : Nat) (h : i < b.length) : fld (b ++ r) i = fld b i := by
  simp [fld, List.getD_eq_getElem?_getD, List.getElem?_append_left h]
theorem fld_take {l : FL} {i : Nat} (h : i < l.length) : l.take (i + 1) = l.take i ++ [fld l i] := by
  rw [List.take_succ_eq_append_getElem h]
  simp [fld, List.getD_eq_getElem?_getD, List.getElem?_eq_getElem h]
theorem fld_mem {l : FL} {i : Nat} (h : i < l.length) : fld l i ∈ l := by
  rw [fld, List.getD_eq_getElem?_getD, List.getElem?_eq_getElem h]
  exact List.getElem_mem h
theorem allF_app (a b : FL) (nm : List UInt8) : allF (a ++ b) nm = allF a nm ++ allF b nm := by simp [allF]
theorem allF_yes {l : FL} {i : Nat} {nm : List UInt8} (h : i < l.length) (hs : lower (fld l i).1 = lower nm) : allF (l.take (i + 1)) nm = allF (l.take i) nm ++ [(fld l i).2] := by
  rw [fld_take h, allF_app]; simp [allF, hs]
theorem allF_no {l : FL} {i : Nat} {nm : List UInt8} (h : i < l.length) (hs : ¬ lower (fld l i).1 = lower nm) : allF (l.take (i + 1)) nm = allF (l.take i) nm := by
  rw [fld_take h, allF_app]; simp [allF, hs]
theorem allF_len (l : FL) (nm : List UInt8) : (allF l nm).length ≤ l.length := by
  unfold allF; rw [List.length_map]; exact List.length_filter_le _ _
theorem tot_fld {l : FL} {f : List UInt8 × List UInt8} (h : f ∈ l) : f.1.length + f.2.length + 1 ≤ totL l := by
  induction l with
  | nil => cases h
  | cons a r ih =>
    simp only [totL, List.map_cons, List.sum_cons] at ih ⊢
    rcases List.mem_cons.1 h with rfl | h
    · omega
    · have := ih h; omega
theorem tot_flen : ∀ l : FL, l.length ≤ totL l
  | [] => Nat.zero_le _
  | a :: r => by
    have := tot_flen r
    simp only [totL, List.length_cons, List.map_cons, List.sum_cons] at this ⊢
    omega
theorem TL0_ok : SpecOk Try.prog (tabS TL0 noS) := by
  refine tabS_ok (fun p hp => ?_) noS_ok
  simp only [TL0, List.mem_cons, List.mem_nil_iff, or_false] at hp
  subst hp
  exact g1_ok (fun _ => rfl) fun s hs => lower_sc s (by have := of_decide_eq_true hs; omega)
theorem same_vc (a b : List UInt8) (ha : le40 a = true) (hb : le40 b = true) : vSame a b := by
  rw [vSame_eq]
  simp only [cond_F]
  exact ⟨ha, hb, (), trivial, trivial, trivial, trivial⟩
theorem gSame_ok : EntryOk Try.prog 14 (flatE gSame) := by
  refine flatE_ok fun args b v hg hb => ?_
  unfold gSame at hg
  split at hg
  · rename_i s t
    cases hg
    rw [and_t] at hb
    exact ⟨rfl, rfl, SC.one (V := VL0) names0 mixed0 TL0_ok noO_ok (same_vc s t hb.1 hb.2)⟩
  · cases hg
theorem TL1_ok : SpecOk Try.prog (tabS TL1 noS) := by
  refine tabS_ok (fun p hp => ?_) noS_ok
  simp only [TL1, List.mem_cons, List.mem_nil_iff, or_false] at hp
  subst hp
  exact gSame_ok
theorem allN_vc (nm : List UInt8) : vAllN nm := by
  rw [vAllN_eq]; simp
theorem allZ_vc (nm : List UInt8) : vAllZ nm := by
  rw [vAllZ_eq]; simp
theorem all_vc (l r : FL) (nm : List UInt8) (e : Nat) (ro : Bool) (c : Nat) (ex : Bool) (hl : totL l ≤ 274877906944) (hn : le40 nm = true) : vAll l r nm e ro c ex := by
  rw [vAll_eq]
  simp only [ic, cond_F, sameB_self, Nat.beq_refl]
  simp only [cond_P, leI_t, leI_f, ltI_t, ltI_f, eqI_t, eqI_f, and_t, not_t, not_f, dec_t, dec_f, Nat.zero_add, Nat.mul_one, List.drop_zero]
  have hlen := tot_flen l
  simp only [cells_tsr, cells_fld, take_ts, ts_length, and_true, true_and, and_false, false_and, or_false, false_or, exists_false, Nat.le_refl, exists_const, Nat.succ_ne_self, Nat.not_succ_le_self, false_implies, not_false_eq_true, true_implies]
  have h1 : ∀ x, x < l.length → x * 2 + 2 ≤ (fieldC (l ++ r)).length := fun x hx => by rw [fieldC_length, List.length_append]; omega
  have h2 : ∀ x, x < l.length → List.take 2 (List.drop (x * 2) (fieldC (l ++ r))) = [AV.str (fld l x).fst, AV.str (fld l x).snd] := fun x hx => by
    rw [fieldC_drop _ _ (by rw [List.length_append]; omega), fld_app _ _ _ hx]
  have h3 : ∀ x, x < l.length → le40 (fld l x).1 = true := fun x hx => decide_eq_true (by have := tot_fld (fld_mem hx); omega)
  have h4 : ∀ x, (allF (l.take x) nm).length ≤ l.length := fun x => Nat.le_trans (allF_len _ _) (by rw [List.length_take]; omega)
  refine ⟨⟨0, ⟨Nat.zero_le _, rfl⟩, rfl⟩, fun x hx => ⟨fun hlt => ?_, fun hge => ?_⟩, fun x hx => ⟨fun hlt => ?_, fun hge => ?_⟩⟩
  · have hx' : x < l.length := by omega
    refine ⟨hlt, h1 x hx', h2 x hx', ⟨h3 x hx', hn⟩, fun hs => ⟨by omega, x + 1, ⟨by omega, ?_⟩, by omega, ?_, by omega, ?_⟩, fun hs => ⟨by omega, x + 1, ⟨by omega, ?_⟩, by omega, by omega⟩⟩
    · rw [allF_yes hx' hs]; simp
    · rw [allF_yes hx' hs, hx.2]; exact cells_refl rfl
    · rw [allF_yes hx' hs, hx.2]; simp
    · rw [allF_no hx' hs]; exact hx.2
  · have h := hx.2
    rwa [List.take_of_length_le (by omega)] at h
  · have hx' : x < l.length := by omega
    have h5 := h4 x
    refine ⟨hlt, h1 x hx', h2 x hx', ⟨h3 x hx', hn⟩, fun hs => ⟨⟨by omega, by omega⟩, by omega, x + 1, ⟨by omega, ?_⟩, by omega, ?_, by omega, ?_⟩, fun hs => ⟨by omega, x + 1, ⟨by omega, ?_⟩, by omega, ?_, by omega, ?_⟩⟩
    · rw [allF_yes hx' hs]; simp
    · rw [allF_yes hx' hs, ts_snoc, cells_tsr]; trivial
    · rw [allF_yes hx' hs]; simp
    · rw [allF_no hx' hs]; exact hx.2
    · rw [allF_no hx' hs, cells_tsr]; trivial
    · rw [allF_no hx' hs]; exact ⟨rfl, rfl⟩
  · have h := hx.2
    have e : l.take x = l := List.take_of_length_le (by omega)
    rw [e] at h ⊢
    rw [cells_tsr]
    exact ⟨h, trivial, rfl, rfl⟩
theorem lowR_vc (s : List UInt8) (hs : s.length ≤ 9223372036854775806) : vLowR s := by
  rw [vLowR_eq]
  simp only [ic, cond_F]
  simp only [cond_P, leI_t, leI_f, ltI_t, ltI_f, eqI_t, eqI_f, and_t, not_t, not_f, dec_t, dec_f, Nat.zero_add, Nat.mul_one, List.drop_zero]
  simp only [bs_length, setManyF]
  refine ⟨⟨0, Nat.zero_le _, ⟨⟨?_, trivial⟩, trivial⟩, rfl, trivial⟩, fun i hi => ?_⟩
  · exact cellsP_flat (bs_flat _) (by simp [lower, bs])
  have hlen : (lower (s.take i) ++ s.drop i).length = s.length := by simp [lower]; omega
  refine ⟨fun hlt => ?_, fun hge => ?_⟩
  · have hlt' : i < s.length := by omega
    have hb := byteAt_get s i hlt'
    have hk : ∀ y : List AV, y = bs (lower (s.take (i + 1)) ++ s.drop (i + 1)) → (∃ y_1 : Nat, y_1 ≤ s.length ∧ s.length - y_1 < s.length - i ∧ ((cellsP (fun b => [0].getD b 1) (bs (lower (s.take y_1) ++ s.drop y_1)) y ∧ True) ∧ True) ∧ (i : Int) + 1 = (y_1 : Int) ∧ True) := fun y hy =>
      ⟨i + 1, by omega, by omega, ⟨⟨cellsP_flat (bs_flat _) hy, trivial⟩, trivial⟩, by omega, trivial⟩
    refine ⟨hlt, mixed_get s i hlt', fun h65 => ⟨hlt, mixed_get s i hlt', fun h90 => ?_, fun h90 => ?_⟩, fun h65 => ?_⟩
    · have h65' : 65 ≤ s[i].toNat := by omega
      have h90' : s[i].toNat ≤ 90 := by omega
      refine ⟨hlt, mixed_get s i hlt', by omega, hlt, by omega, by omega, hk _ ?_⟩
      have hlow : low1 s[i] = s[i] + 32 := by
        unfold low1
        rw [if_pos]
        exact ⟨by rw [UInt8.le_iff_toNat_le]; exact h65', by rw [UInt8.le_iff_toNat_le]; exact h90'⟩
      have ht : ((s[i] + 32 : UInt8).toNat : Int) = byteAt s i + 32 := by
        rw [UInt8.toNat_add, hb]
        have : (32 : UInt8).toNat = 32 := rfl
        omega
      rw [← ht]
      exact mixed_set s i hlt' _ hlow
    · refine ⟨by omega, hk _ ?_⟩
      rw [mixed_keep s i hlt' ?_]
      unfold low1
      rw [if_neg]
      rintro ⟨_, h2⟩
      rw [UInt8.le_iff_toNat_le] at h2
      have : (90 : UInt8).toNat = 90 := rfl
      omega
    · refine ⟨by omega, hk _ ?_⟩
      rw [mixed_keep s i hlt' ?_]
      unfold low1
      rw [if_neg]
      rintro ⟨h2, _⟩
      rw [UInt8.le_iff_toNat_le] at h2
      have : (65 : UInt8).toNat = 65 := rfl
      omega
  · have hi2 : i = s.length := by omega
    subst hi2
    refine ⟨by omega, ?_, (), trivial, trivial, trivial, trivial⟩
    rw [List.take_length, List.drop_length, List.append_nil, List.take_of_length_le (by simp [bs, lower]), bs_bytes]
end Go.Proofs.Ytepohfmphgbknaa

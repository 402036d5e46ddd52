/- What the layer of fields answers: one text of a name's values, their parts. -/
import Derived.Test.YtciciemaldbidaaGreatDoorFieldE
set_option linter.unusedSimpArgs false
set_option linter.unusedVariables false
namespace Go.Proofs.YtciciemaldbidaaGreatDoor
open Go Go.Ve
set_option maxRecDepth 20000
def partsF (ls : LL) : LL := ls.flatMap split
def totF (ls : LL) : Nat := (ls.map fun s => s.length + 1).sum
def listF (l : FL) (nm : List UInt8) : LL := partsF (allF l nm)
def cs : List UInt8 := [44, 32]
noncomputable def TLi : List (Nat × SpecE) := [(26, eAll), (38, eSplit)]
noncomputable def VLi : VE := ⟨Tryz.prog, tabS TLi noS, noO, fun _ => none⟩
noncomputable def outF (l r : FL) (e : Nat) (ro : Bool) (v : AV) : List Out := [⟨Unit, fun _ => v, fun _ => [.cells (fieldC (l ++ r)) e ro], fun _ => True, gcB⟩]
noncomputable def aList (l r : FL) (vals : LL) (e : Nat) (ro : Bool) : Anns := [(2, [
  .mk Unit (fun _ => [(11, .int .i64 0), (4, .nilsl)]) (fun _ => some [.cells (fieldC (l ++ r)) e ro]) (fun _ => vals = []) (fun _ => 0) gcB gcB (fun _ => []) (fun _ => []),
  .mk Nat (fun i => [(11, .int .i64 i), (4, .nilsl)]) (fun _ => some [.cells (fieldC (l ++ r)) e ro, .cells (ts vals) eT false]) (fun i => vals ≠ [] ∧ i ≤ vals.length ∧ partsF (vals.take i) = []) (fun i => vals.length - i) gcB gcB (fun i => [(14, .str (vals.getD i []))]) (fun _ => []),
  .mk Nat (fun i => [(11, .int .i64 i), (4, .sl 2 0 (partsF (vals.take i)).length (partsF (vals.take i)).length false)]) (fun i => some [.cells (fieldC (l ++ r)) e ro, .cells (ts vals) eT false, .cells (ts (partsF (vals.take i))) eT false]) (fun i => vals ≠ [] ∧ i ≤ vals.length ∧ partsF (vals.take i) ≠ []) (fun i => vals.length - i) gcB gcB (fun i => [(14, .str (vals.getD i []))]) (fun _ => [])])]
noncomputable def outL (l r : FL) (ps : LL) (e : Nat) (ro : Bool) : List Out := [
  ⟨Unit, fun _ => .nilsl, fun _ => [.cells (fieldC (l ++ r)) e ro], fun _ => ps = [], gcB⟩,
  ⟨Unit, fun _ => .sl 1 0 ps.length ps.length false, fun _ => [.cells (fieldC (l ++ r)) e ro, .cells (ts ps) eT false], fun _ => ps ≠ [], gcB⟩]

noncomputable def vListN  (nm : List UInt8) : Prop := vcF VLi [] 300 [] [] 20 [.nilsl, .str nm] [] (one .nilsl)
noncomputable def vListZ  (nm : List UInt8) : Prop := vcF VLi [] 300 [] [] 20 [.slz, .str nm] [] (one .nilsl)
noncomputable def vList  (l r : FL) (nm : List UInt8) (e : Nat) (ro : Bool) (c : Nat) (ex : Bool) : Prop := vcF VLi [] 300 (aList l r (allF l nm) e ro) [] 20 [.sl 0 0 l.length c ex, .str nm] [.cells (fieldC (l ++ r)) e ro] (outL l r (partsF (allF l nm)) e ro)
def gqFr10 : Nat → Nat := (fun (b : Nat) => [0, 1].getD b 2)
def gqFr11 : Nat → Nat := (fun (b : Nat) => [0, 2].getD b 3)
def gqFr12 : Nat → Nat := (fun (b : Nat) => [0, 1].getD b 3)
def gqFr13 : Nat → Nat := (fun (b : Nat) => [0, 1, 2].getD b 3)
def gqFr14 : Nat → Nat := (fun (b : Nat) => [0, 1].getD b 4)
def gqFr15 : Nat → Nat := (fun (b : Nat) => [0, 1, 2].getD b 4)
theorem vListN_eq  (nm : List UInt8) : vListN nm = (∃ (_x : Unit), True ∧ True ∧ True ∧ True) := by kernel_rfl
theorem vListZ_eq  (nm : List UInt8) : vListZ nm = (∃ (_x : Unit), True ∧ True ∧ True ∧ True) := by kernel_rfl
theorem vList_eq  (l r : FL) (nm : List UInt8) (e : Nat) (ro : Bool) (c : Nat) (ex : Bool) : vList l r nm e ro c ex = ((fldOk (fieldC (l ++ r)) (List.length l) ∧ le40 nm = true) ∧ bif decide (allF (fldT (fieldC (l ++ r)) (List.length l)) nm = []) then ((∃ (_x : Unit), allF l nm = [] ∧ ((bif e.beq e && sameB ro ro then cellsP (fun (b : Nat) => [0].getD b 1) (fieldC (l ++ r)) (fieldC (l ++ r)) ∧ True else False) ∧ True) ∧ (0 : Int) = (0 : Int) ∧ True ∧ True) ∨ (∃ (x : Nat), (allF l nm ≠ [] ∧ x ≤ List.length (allF l nm) ∧ partsF (List.take x (allF l nm)) = []) ∧ False) ∨ ∃ (x : Nat), (allF l nm ≠ [] ∧ x ≤ List.length (allF l nm) ∧ partsF (List.take x (allF l nm)) ≠ []) ∧ False) ∧ (∀ (x : Unit), allF l nm = [] → (∃ (_x : Unit), partsF (allF l nm) = [] ∧ ((bif e.beq e && sameB ro ro then cellsP (fun (b : Nat) => [0].getD b 1) (fieldC (l ++ r)) (fieldC (l ++ r)) ∧ True else False) ∧ True) ∧ True ∧ True) ∨ ∃ (_x : Unit), partsF (allF l nm) ≠ [] ∧ False) ∧ (∀ (x : Nat), allF l nm ≠ [] ∧ x ≤ List.length (allF l nm) ∧ partsF (List.take x (allF l nm)) = [] → (∃ (_x : Unit), partsF (allF l nm) = [] ∧ ((bif e.beq e && sameB ro ro then cellsP (fun (b : Nat) => [0].getD b 2) (fieldC (l ++ r)) (fieldC (l ++ r)) ∧ True else False) ∧ True) ∧ True ∧ True) ∨ ∃ (_x : Unit), partsF (allF l nm) ≠ [] ∧ ((bif e.beq e && sameB ro ro then cellsP gqFr10 (fieldC (l ++ r)) (fieldC (l ++ r)) ∧ True else False) ∧ (cellsP gqFr10 (ts (partsF (allF l nm))) (ts (allF l nm)) ∧ True) ∧ True) ∧ False ∧ True) ∧ ∀ (x : Nat), allF l nm ≠ [] ∧ x ≤ List.length (allF l nm) ∧ partsF (List.take x (allF l nm)) ≠ [] → (∃ (_x : Unit), partsF (allF l nm) = [] ∧ ((bif e.beq e && sameB ro ro then cellsP (fun (b : Nat) => [0].getD b 3) (fieldC (l ++ r)) (fieldC (l ++ r)) ∧ True else False) ∧ True) ∧ False ∧ True) ∨ ∃ (_x : Unit), partsF (allF l nm) ≠ [] ∧ ((bif e.beq e && sameB ro ro then cellsP gqFr11 (fieldC (l ++ r)) (fieldC (l ++ r)) ∧ True else False) ∧ (cellsP gqFr11 (ts (partsF (allF l nm))) (ts (partsF (List.take x (allF l nm)))) ∧ True) ∧ True) ∧ (0 = 0 ∧ List.length (partsF (List.take x (allF l nm))) = List.length (partsF (allF l nm)) ∧ List.length (partsF (List.take x (allF l nm))) = List.length (partsF (allF l nm)) ∧ false = false) ∧ True else ((∃ (_x : Unit), allF l nm = [] ∧ False) ∨ (∃ (x : Nat), (allF l nm ≠ [] ∧ x ≤ List.length (allF l nm) ∧ partsF (List.take x (allF l nm)) = []) ∧ ((bif e.beq e && sameB ro ro then cellsP gqFr10 (fieldC (l ++ r)) (fieldC (l ++ r)) ∧ True else False) ∧ (cellsP gqFr10 (ts (allF l nm)) (ts (allF (fldT (fieldC (l ++ r)) (List.length l)) nm)) ∧ True) ∧ True) ∧ (0 : Int) = ic x ∧ True ∧ True) ∨ ∃ (x : Nat), (allF l nm ≠ [] ∧ x ≤ List.length (allF l nm) ∧ partsF (List.take x (allF l nm)) ≠ []) ∧ False) ∧ (∀ (x : Unit), allF l nm = [] → bif ltI (0 : Int) (ic (List.length (allF (fldT (fieldC (l ++ r)) (List.length l)) nm))) then bif ltI (0 : Int) (ic (List.length (allF (fldT (fieldC (l ++ r)) (List.length l)) nm))) then Stuck 3 14 else False else (∃ (_x : Unit), partsF (allF l nm) = [] ∧ ((bif e.beq e && sameB ro ro then cellsP (fun (b : Nat) => [0].getD b 1) (fieldC (l ++ r)) (fieldC (l ++ r)) ∧ True else False) ∧ True) ∧ True ∧ True) ∨ ∃ (_x : Unit), partsF (allF l nm) ≠ [] ∧ False) ∧ (∀ (x : Nat), allF l nm ≠ [] ∧ x ≤ List.length (allF l nm) ∧ partsF (List.take x (allF l nm)) = [] → bif ltI (ic x) (ic (List.length (allF (fldT (fieldC (l ++ r)) (List.length l)) nm))) then bif ltI (ic x) (ic (List.length (allF (fldT (fieldC (l ++ r)) (List.length l)) nm))) then (ts (allF l nm))[0 + x * 1]? = some (AV.str (List.getD (allF l nm) x [])) ∧ bif le40 (List.getD (allF l nm) x []) then bif decide (split (List.getD (allF l nm) x []) = []) then bif leI (ic x + (1 : Int)) (9223372036854775807 : Int) then (∃ (_x : Unit), allF l nm = [] ∧ 0 < List.length (allF l nm) - x ∧ False) ∨ (∃ (y : Nat), (allF l nm ≠ [] ∧ y ≤ List.length (allF l nm) ∧ partsF (List.take y (allF l nm)) = []) ∧ List.length (allF l nm) - y < List.length (allF l nm) - x ∧ ((bif e.beq e && sameB ro ro then cellsP gqFr10 (fieldC (l ++ r)) (fieldC (l ++ r)) ∧ True else False) ∧ (cellsP gqFr10 (ts (allF l nm)) (ts (allF l nm)) ∧ True) ∧ True) ∧ ic x + (1 : Int) = ic y ∧ True ∧ True) ∨ ∃ (y : Nat), (allF l nm ≠ [] ∧ y ≤ List.length (allF l nm) ∧ partsF (List.take y (allF l nm)) ≠ []) ∧ List.length (allF l nm) - y < List.length (allF l nm) - x ∧ False else False else bif decide (0 + (split (List.getD (allF l nm) x [])).length * 1 ≤ (ts (split (List.getD (allF l nm) x []))).length) then bif decide ((split (List.getD (allF l nm) x [])).length = 0) then bif leI (ic x + (1 : Int)) (9223372036854775807 : Int) then (∃ (_x : Unit), allF l nm = [] ∧ 0 < List.length (allF l nm) - x ∧ False) ∨ (∃ (y : Nat), (allF l nm ≠ [] ∧ y ≤ List.length (allF l nm) ∧ partsF (List.take y (allF l nm)) = []) ∧ List.length (allF l nm) - y < List.length (allF l nm) - x ∧ ((bif e.beq e && sameB ro ro then cellsP gqFr12 (fieldC (l ++ r)) (fieldC (l ++ r)) ∧ True else False) ∧ (cellsP gqFr12 (ts (allF l nm)) (ts (allF l nm)) ∧ True) ∧ True) ∧ ic x + (1 : Int) = ic y ∧ True ∧ True) ∨ ∃ (y : Nat), (allF l nm ≠ [] ∧ y ≤ List.length (allF l nm) ∧ partsF (List.take y (allF l nm)) ≠ []) ∧ List.length (allF l nm) - y < List.length (allF l nm) - x ∧ ((bif e.beq e && sameB ro ro then cellsP gqFr13 (fieldC (l ++ r)) (fieldC (l ++ r)) ∧ True else False) ∧ (cellsP gqFr13 (ts (allF l nm)) (ts (allF l nm)) ∧ True) ∧ (cellsP gqFr13 (ts (partsF (List.take y (allF l nm)))) (ts (split (List.getD (allF l nm) x []))) ∧ True) ∧ True) ∧ ic x + (1 : Int) = ic y ∧ False ∧ True else False else bif decide ((split (List.getD (allF l nm) x [])).length ≤ 9223372036854775807) && decide ((split (List.getD (allF l nm) x [])).length * 16 ≤ 140737488355328) then bif leI (ic x + (1 : Int)) (9223372036854775807 : Int) then (∃ (_x : Unit), allF l nm = [] ∧ 0 < List.length (allF l nm) - x ∧ False) ∨ (∃ (y : Nat), (allF l nm ≠ [] ∧ y ≤ List.length (allF l nm) ∧ partsF (List.take y (allF l nm)) = []) ∧ List.length (allF l nm) - y < List.length (allF l nm) - x ∧ ((bif e.beq e && sameB ro ro then cellsP gqFr14 (fieldC (l ++ r)) (fieldC (l ++ r)) ∧ True else False) ∧ (cellsP gqFr14 (ts (allF l nm)) (ts (allF l nm)) ∧ True) ∧ True) ∧ ic x + (1 : Int) = ic y ∧ False ∧ True) ∨ ∃ (y : Nat), (allF l nm ≠ [] ∧ y ≤ List.length (allF l nm) ∧ partsF (List.take y (allF l nm)) ≠ []) ∧ List.length (allF l nm) - y < List.length (allF l nm) - x ∧ ((bif e.beq e && sameB ro ro then cellsP (fun (b : Nat) => [0, 1, 3].getD b 4) (fieldC (l ++ r)) (fieldC (l ++ r)) ∧ True else False) ∧ (cellsP (fun (b : Nat) => [0, 1, 3].getD b 4) (ts (allF l nm)) (ts (allF l nm)) ∧ True) ∧ (cellsP (fun (b : Nat) => [0, 1, 3].getD b 4) (ts (partsF (List.take y (allF l nm)))) (List.take ((split (List.getD (allF l nm) x [])).length * 1) (List.drop 0 (ts (split (List.getD (allF l nm) x []))))) ∧ True) ∧ True) ∧ ic x + (1 : Int) = ic y ∧ (0 = 0 ∧ (split (List.getD (allF l nm) x [])).length = List.length (partsF (List.take y (allF l nm))) ∧ (split (List.getD (allF l nm) x [])).length = List.length (partsF (List.take y (allF l nm))) ∧ false = false) ∧ True else False else False else False else False else False else (∃ (_x : Unit), partsF (allF l nm) = [] ∧ ((bif e.beq e && sameB ro ro then cellsP (fun (b : Nat) => [0].getD b 2) (fieldC (l ++ r)) (fieldC (l ++ r)) ∧ True else False) ∧ True) ∧ True ∧ True) ∨ ∃ (_x : Unit), partsF (allF l nm) ≠ [] ∧ ((bif e.beq e && sameB ro ro then cellsP gqFr10 (fieldC (l ++ r)) (fieldC (l ++ r)) ∧ True else False) ∧ (cellsP gqFr10 (ts (partsF (allF l nm))) (ts (allF l nm)) ∧ True) ∧ True) ∧ False ∧ True) ∧ ∀ (x : Nat), allF l nm ≠ [] ∧ x ≤ List.length (allF l nm) ∧ partsF (List.take x (allF l nm)) ≠ [] → bif ltI (ic x) (ic (List.length (allF (fldT (fieldC (l ++ r)) (List.length l)) nm))) then bif ltI (ic x) (ic (List.length (allF (fldT (fieldC (l ++ r)) (List.length l)) nm))) then (ts (allF l nm))[0 + x * 1]? = some (AV.str (List.getD (allF l nm) x [])) ∧ bif le40 (List.getD (allF l nm) x []) then bif decide (split (List.getD (allF l nm) x []) = []) then bif decide (List.length (partsF (List.take x (allF l nm))) ≤ List.length (partsF (List.take x (allF l nm)))) && decide (0 + List.length (partsF (List.take x (allF l nm))) * 1 ≤ (ts (partsF (List.take x (allF l nm)))).length) then bif leI (ic x + (1 : Int)) (9223372036854775807 : Int) then (∃ (_x : Unit), allF l nm = [] ∧ 0 < List.length (allF l nm) - x ∧ False) ∨ (∃ (y : Nat), (allF l nm ≠ [] ∧ y ≤ List.length (allF l nm) ∧ partsF (List.take y (allF l nm)) = []) ∧ List.length (allF l nm) - y < List.length (allF l nm) - x ∧ ((bif e.beq e && sameB ro ro then cellsP gqFr12 (fieldC (l ++ r)) (fieldC (l ++ r)) ∧ True else False) ∧ (cellsP gqFr12 (ts (allF l nm)) (ts (allF l nm)) ∧ True) ∧ True) ∧ ic x + (1 : Int) = ic y ∧ False ∧ True) ∨ ∃ (y : Nat), (allF l nm ≠ [] ∧ y ≤ List.length (allF l nm) ∧ partsF (List.take y (allF l nm)) ≠ []) ∧ List.length (allF l nm) - y < List.length (allF l nm) - x ∧ ((bif e.beq e && sameB ro ro then cellsP gqFr13 (fieldC (l ++ r)) (fieldC (l ++ r)) ∧ True else False) ∧ (cellsP gqFr13 (ts (allF l nm)) (ts (allF l nm)) ∧ True) ∧ (cellsP gqFr13 (ts (partsF (List.take y (allF l nm)))) (ts (partsF (List.take x (allF l nm)))) ∧ True) ∧ True) ∧ ic x + (1 : Int) = ic y ∧ (0 = 0 ∧ List.length (partsF (List.take x (allF l nm))) = List.length (partsF (List.take y (allF l nm))) ∧ List.length (partsF (List.take x (allF l nm))) = List.length (partsF (List.take y (allF l nm))) ∧ false = false) ∧ True else False else False else bif decide (0 + (split (List.getD (allF l nm) x [])).length * 1 ≤ (ts (split (List.getD (allF l nm) x []))).length) then bif decide (List.length (partsF (List.take x (allF l nm))) ≤ List.length (partsF (List.take x (allF l nm)))) && decide (0 + List.length (partsF (List.take x (allF l nm))) * 1 ≤ (ts (partsF (List.take x (allF l nm)))).length) then bif decide ((split (List.getD (allF l nm) x [])).length = 0) then bif leI (ic x + (1 : Int)) (9223372036854775807 : Int) then (∃ (_x : Unit), allF l nm = [] ∧ 0 < List.length (allF l nm) - x ∧ False) ∨ (∃ (y : Nat), (allF l nm ≠ [] ∧ y ≤ List.length (allF l nm) ∧ partsF (List.take y (allF l nm)) = []) ∧ List.length (allF l nm) - y < List.length (allF l nm) - x ∧ ((bif e.beq e && sameB ro ro then cellsP gqFr14 (fieldC (l ++ r)) (fieldC (l ++ r)) ∧ True else False) ∧ (cellsP gqFr14 (ts (allF l nm)) (ts (allF l nm)) ∧ True) ∧ True) ∧ ic x + (1 : Int) = ic y ∧ False ∧ True) ∨ ∃ (y : Nat), (allF l nm ≠ [] ∧ y ≤ List.length (allF l nm) ∧ partsF (List.take y (allF l nm)) ≠ []) ∧ List.length (allF l nm) - y < List.length (allF l nm) - x ∧ ((bif e.beq e && sameB ro ro then cellsP gqFr15 (fieldC (l ++ r)) (fieldC (l ++ r)) ∧ True else False) ∧ (cellsP gqFr15 (ts (allF l nm)) (ts (allF l nm)) ∧ True) ∧ (cellsP gqFr15 (ts (partsF (List.take y (allF l nm)))) (ts (partsF (List.take x (allF l nm)))) ∧ True) ∧ True) ∧ ic x + (1 : Int) = ic y ∧ (0 = 0 ∧ List.length (partsF (List.take x (allF l nm))) = List.length (partsF (List.take y (allF l nm))) ∧ List.length (partsF (List.take x (allF l nm))) = List.length (partsF (List.take y (allF l nm))) ∧ false = false) ∧ True else False else bif decide (List.length (partsF (List.take x (allF l nm))) + (split (List.getD (allF l nm) x [])).length ≤ List.length (partsF (List.take x (allF l nm)))) then bif decide (0 + (List.length (partsF (List.take x (allF l nm))) + (split (List.getD (allF l nm) x [])).length) * 1 ≤ (ts (partsF (List.take x (allF l nm)))).length) && AV.allOne (List.take ((split (List.getD (allF l nm) x [])).length * 1) (List.drop 0 (ts (split (List.getD (allF l nm) x []))))) then bif leI (ic x + (1 : Int)) (9223372036854775807 : Int) then (∃ (_x : Unit), allF l nm = [] ∧ 0 < List.length (allF l nm) - x ∧ False) ∨ (∃ (y : Nat), (allF l nm ≠ [] ∧ y ≤ List.length (allF l nm) ∧ partsF (List.take y (allF l nm)) = []) ∧ List.length (allF l nm) - y < List.length (allF l nm) - x ∧ ((bif e.beq e && sameB ro ro then cellsP gqFr14 (fieldC (l ++ r)) (fieldC (l ++ r)) ∧ True else False) ∧ (cellsP gqFr14 (ts (allF l nm)) (ts (allF l nm)) ∧ True) ∧ True) ∧ ic x + (1 : Int) = ic y ∧ False ∧ True) ∨ ∃ (y : Nat), (allF l nm ≠ [] ∧ y ≤ List.length (allF l nm) ∧ partsF (List.take y (allF l nm)) ≠ []) ∧ List.length (allF l nm) - y < List.length (allF l nm) - x ∧ ((bif e.beq e && sameB ro ro then cellsP gqFr15 (fieldC (l ++ r)) (fieldC (l ++ r)) ∧ True else False) ∧ (cellsP gqFr15 (ts (allF l nm)) (ts (allF l nm)) ∧ True) ∧ (cellsP gqFr15 (ts (partsF (List.take y (allF l nm)))) (setManyF (ts (partsF (List.take x (allF l nm)))) (0 + List.length (partsF (List.take x (allF l nm))) * 1) (List.take ((split (List.getD (allF l nm) x [])).length * 1) (List.drop 0 (ts (split (List.getD (allF l nm) x [])))))) ∧ True) ∧ True) ∧ ic x + (1 : Int) = ic y ∧ (0 = 0 ∧ List.length (partsF (List.take x (allF l nm))) + (split (List.getD (allF l nm) x [])).length = List.length (partsF (List.take y (allF l nm))) ∧ List.length (partsF (List.take x (allF l nm))) = List.length (partsF (List.take y (allF l nm))) ∧ false = false) ∧ True else False else False else bif decide (List.length (partsF (List.take x (allF l nm))) + (split (List.getD (allF l nm) x [])).length ≤ 9223372036854775807) && decide ((List.length (partsF (List.take x (allF l nm))) + (split (List.getD (allF l nm) x [])).length) * 16 ≤ 140737488355328) then bif decide (List.length (partsF (List.take x (allF l nm))) = List.length (partsF (List.take x (allF l nm)))) && (decide (0 + List.length (partsF (List.take x (allF l nm))) * 1 = (ts (partsF (List.take x (allF l nm)))).length) && AV.allOne (List.take ((split (List.getD (allF l nm) x [])).length * 1) (List.drop 0 (ts (split (List.getD (allF l nm) x [])))))) then bif leI (ic x + (1 : Int)) (9223372036854775807 : Int) then (∃ (_x : Unit), allF l nm = [] ∧ 0 < List.length (allF l nm) - x ∧ False) ∨ (∃ (y : Nat), (allF l nm ≠ [] ∧ y ≤ List.length (allF l nm) ∧ partsF (List.take y (allF l nm)) = []) ∧ List.length (allF l nm) - y < List.length (allF l nm) - x ∧ ((bif e.beq e && sameB ro ro then cellsP (fun (b : Nat) => [0, 1].getD b 5) (fieldC (l ++ r)) (fieldC (l ++ r)) ∧ True else False) ∧ (cellsP (fun (b : Nat) => [0, 1].getD b 5) (ts (allF l nm)) (ts (allF l nm)) ∧ True) ∧ True) ∧ ic x + (1 : Int) = ic y ∧ False ∧ True) ∨ ∃ (y : Nat), (allF l nm ≠ [] ∧ y ≤ List.length (allF l nm) ∧ partsF (List.take y (allF l nm)) ≠ []) ∧ List.length (allF l nm) - y < List.length (allF l nm) - x ∧ ((bif e.beq e && sameB ro ro then cellsP (fun (b : Nat) => [0, 1, 4].getD b 5) (fieldC (l ++ r)) (fieldC (l ++ r)) ∧ True else False) ∧ (cellsP (fun (b : Nat) => [0, 1, 4].getD b 5) (ts (allF l nm)) (ts (allF l nm)) ∧ True) ∧ (cellsP (fun (b : Nat) => [0, 1, 4].getD b 5) (ts (partsF (List.take y (allF l nm)))) (List.drop 0 (ts (partsF (List.take x (allF l nm)))) ++ List.take ((split (List.getD (allF l nm) x [])).length * 1) (List.drop 0 (ts (split (List.getD (allF l nm) x []))))) ∧ True) ∧ True) ∧ ic x + (1 : Int) = ic y ∧ (0 = 0 ∧ List.length (partsF (List.take x (allF l nm))) + (split (List.getD (allF l nm) x [])).length = List.length (partsF (List.take y (allF l nm))) ∧ List.length (partsF (List.take x (allF l nm))) + (split (List.getD (allF l nm) x [])).length = List.length (partsF (List.take y (allF l nm))) ∧ false = false) ∧ True else False else False else False else False else False else False else False else (∃ (_x : Unit), partsF (allF l nm) = [] ∧ ((bif e.beq e && sameB ro ro then cellsP (fun (b : Nat) => [0].getD b 3) (fieldC (l ++ r)) (fieldC (l ++ r)) ∧ True else False) ∧ True) ∧ False ∧ True) ∨ ∃ (_x : Unit), partsF (allF l nm) ≠ [] ∧ ((bif e.beq e && sameB ro ro then cellsP gqFr11 (fieldC (l ++ r)) (fieldC (l ++ r)) ∧ True else False) ∧ (cellsP gqFr11 (ts (partsF (allF l nm))) (ts (partsF (List.take x (allF l nm)))) ∧ True) ∧ True) ∧ (0 = 0 ∧ List.length (partsF (List.take x (allF l nm))) = List.length (partsF (allF l nm)) ∧ List.length (partsF (List.take x (allF l nm))) = List.length (partsF (allF l nm)) ∧ false = false) ∧ True) := by kernel_rfl
theorem splitF_len {s : List UInt8} {i fm : Nat} {q : Bool} {acc : List (List UInt8)} (hi : i ≤ s.length + 1) : (splitF s i fm q acc).length ≤ acc.length + (s.length + 1 - i) + 1 := by
  have hput : ∀ a b (c : List (List UInt8)), (putF s a b c).length ≤ c.length + 1 := fun a b c => by
    unfold putF
    split
    · omega
    · simp
  induction hk : s.length + 1 - i using Nat.strongRecOn generalizing i fm q acc with
  | _ k ih =>
    by_cases h : i < s.length
    · rw [splitF_in h]
      split
      · have := ih (s.length + 1 - (i + 2)) (by omega) (i := i + 2) (fm := fm) (q := q) (acc := acc) (by omega) rfl
        omega
      · split
        · have := ih (s.length + 1 - (i + 1)) (by omega) (i := i + 1) (fm := fm) (q := !q) (acc := acc) (by omega) rfl
          omega
        · split
          · have := ih (s.length + 1 - (i + 1)) (by omega) (i := i + 1) (fm := i + 1) (q := q) (acc := putF s fm i acc) (by omega) rfl
            have := hput fm i acc
            omega
          · have := ih (s.length + 1 - (i + 1)) (by omega) (i := i + 1) (fm := fm) (q := q) (acc := acc) (by omega) rfl
            omega
    · rw [splitF_end (by omega)]
      have := hput fm s.length acc
      omega
theorem split_len (s : List UInt8) : (split s).length ≤ 2 * s.length + 3 := by
  have := splitF_len (s := s) (i := 0) (fm := 0) (q := false) (acc := []) (by omega)
  unfold split
  simp only [List.length_nil] at this
  omega
theorem parts_len : ∀ ls : LL, (partsF ls).length ≤ 3 * totF ls
  | [] => Nat.zero_le _
  | a :: r => by
    have h1 := parts_len r
    have h2 := split_len a
    simp only [partsF, totF, List.flatMap_cons, List.length_append, List.map_cons, List.sum_cons] at h1 ⊢
    omega
theorem parts_app (a b : LL) : partsF (a ++ b) = partsF a ++ partsF b := by simp [partsF]
theorem parts_step {ls : LL} {i : Nat} (hi : i < ls.length) : partsF (ls.take (i + 1)) = partsF (ls.take i) ++ split (ls.getD i []) := by
  rw [List.take_succ_eq_append_getElem hi, parts_app]
  congr 1
  simp [partsF, List.getD_eq_getElem?_getD, List.getElem?_eq_getElem hi]
theorem tot_app (a b : LL) : totF (a ++ b) = totF a + totF b := by simp [totF]
theorem tot_mem {ls : LL} {s : List UInt8} (h : s ∈ ls) : s.length + 1 ≤ totF ls := by
  induction ls with
  | nil => cases h
  | cons a r ih =>
    simp only [totF, List.map_cons, List.sum_cons] at ih ⊢
    rcases List.mem_cons.1 h with rfl | h
    · omega
    · have := ih h; omega
theorem tot_len : ∀ ls : LL, ls.length ≤ totF ls
  | [] => Nat.zero_le _
  | a :: r => by
    have := tot_len r
    simp only [totF, List.length_cons, List.map_cons, List.sum_cons] at this ⊢
    omega
theorem getD_mem {ls : LL} {i : Nat} (hi : i < ls.length) : ls.getD i [] ∈ ls := by
  rw [List.getD_eq_getElem?_getD, List.getElem?_eq_getElem hi]; exact List.getElem_mem hi
theorem ts_get {ls : LL} {i : Nat} (hi : i < ls.length) : (ts ls)[i]? = some (.str (ls.getD i [])) := by
  simp [ts, List.getD_eq_getElem?_getD, List.getElem?_eq_getElem hi]
theorem splitF_mem {s : List UInt8} {i fm : Nat} {q : Bool} {acc : List (List UInt8)} (ha : ∀ t ∈ acc, t.length ≤ s.length) (hi : i ≤ s.length + 1) : ∀ t ∈ splitF s i fm q acc, t.length ≤ s.length := by
  have hput : ∀ a b (c : List (List UInt8)), (∀ t ∈ c, t.length ≤ s.length) → ∀ t ∈ putF s a b c, t.length ≤ s.length := fun a b c hc t ht => by
    unfold putF at ht
    split at ht
    · exact hc t ht
    · rcases List.mem_append.1 ht with h | h
      · exact hc t h
      · rw [List.mem_singleton.1 h]
        refine Nat.le_trans (trimP_length _ _) ?_
        simp; omega
  induction hk : s.length + 1 - i using Nat.strongRecOn generalizing i fm q acc with
  | _ k ih =>
    by_cases h : i < s.length
    · rw [splitF_in h]
      split
      · exact ih (s.length + 1 - (i + 2)) (by omega) (i := i + 2) ha (by omega) rfl
      · split
        · exact ih (s.length + 1 - (i + 1)) (by omega) (i := i + 1) ha (by omega) rfl
        · split
          · exact ih (s.length + 1 - (i + 1)) (by omega) (i := i + 1) (hput _ _ _ ha) (by omega) rfl
          · exact ih (s.length + 1 - (i + 1)) (by omega) (i := i + 1) ha (by omega) rfl
    · rw [splitF_end (by omega)]
      exact hput _ _ _ ha
theorem split_mem {s t : List UInt8} (h : t ∈ split s) : t.length ≤ s.length := splitF_mem (acc := []) (fun t ht => by cases ht) (by omega) t h
theorem parts_mem {ls : LL} {t : List UInt8} (h : t ∈ partsF ls) : t.length ≤ totF ls := by
  simp only [partsF, List.mem_flatMap] at h
  obtain ⟨s, h1, h2⟩ := h
  have := split_mem h2
  have := tot_mem h1
  omega
theorem joinT_len (sep : List UInt8) : ∀ r : LL, (Lib.joinTail sep r).length ≤ (sep.length + 1) * totF r
  | [] => Nat.zero_le _
  | a :: r => by
    have h := joinT_len sep r
    simp only [Lib.joinTail, List.map_cons, List.flatten_cons, List.length_append, totF, List.sum_cons] at h ⊢
    have : (sep.length + 1) * (a.length + 1 + (r.map fun s => s.length + 1).sum) = (sep.length + 1) * (a.length + 1) + (sep.length + 1) * (r.map fun s => s.length + 1).sum := Nat.mul_add _ _ _
    have h2 : sep.length + a.length ≤ (sep.length + 1) * (a.length + 1) := by
      rw [Nat.mul_add, Nat.add_mul]; omega
    omega
theorem joinF_len (ls : LL) (sep : List UInt8) : (joinF ls sep).length ≤ (sep.length + 1) * totF ls := by
  cases ls with
  | nil => exact Nat.zero_le _
  | cons a r =>
    unfold joinF
    rw [Lib.join_cons, List.length_append]
    have h := joinT_len sep r
    have : (sep.length + 1) * totF (a :: r) = (sep.length + 1) * (a.length + 1) + (sep.length + 1) * totF r := by
      show (sep.length + 1) * (a.length + 1 + totF r) = _
      exact Nat.mul_add _ _ _
    have h2 : a.length ≤ (sep.length + 1) * (a.length + 1) := by rw [Nat.add_mul]; omega
    omega
theorem totF_all (l : FL) (nm : List UInt8) : totF (allF l nm) ≤ totL l := by
  induction l with
  | nil => exact Nat.zero_le _
  | cons a r ih =>
    unfold allF at ih ⊢
    rw [List.filter_cons]
    split
    · simp only [List.map_cons, totF, totL, List.sum_cons] at ih ⊢; omega
    · simp only [totF, totL, List.map_cons, List.sum_cons] at ih ⊢; omega
theorem listN_vc (nm : List UInt8) : vListN nm := by
  rw [vListN_eq]; simp
theorem listZ_vc (nm : List UInt8) : vListZ nm := by
  rw [vListZ_eq]; simp
theorem list_vc (l r : FL) (nm : List UInt8) (e : Nat) (ro : Bool) (c : Nat) (ex : Bool) (hl : totL l ≤ 274877906944) (hn : le40 nm = true) : vList l r nm e ro c ex := by
  rw [vList_eq]
  simp only [ic, cond_F, sameB_self, Nat.beq_refl]
  simp only [cond_P, leI_t, leI_f, ltI_t, ltI_f, eqI_t, eqI_f, and_t, not_t, not_f, dec_t, dec_f, Nat.zero_add, Nat.mul_one, List.drop_zero]
  simp only [cells_tsr, cells_fld, take_ts, ts_length, and_true, true_and, and_false, false_and, or_false, false_or, exists_false, Nat.le_refl, exists_const, false_implies, not_false_eq_true, true_implies, fldT_at, fldOk_at, getS_ts]
  have h1 := totF_all l nm
  generalize allF l nm = vals at *
  have hlen := tot_len vals
  have hpl := parts_len vals
  have hle : ∀ x, x < vals.length → le40 (vals.getD x []) = true := fun x hx => decide_eq_true (by have := tot_mem (getD_mem hx); omega)
  have hsp : ∀ x, x < vals.length → (split (vals.getD x [])).length ≤ 3 * 274877906944 := fun x hx => by
    have := split_len (vals.getD x [])
    have := tot_mem (getD_mem hx)
    omega
  have hpt : ∀ x, (partsF (vals.take x)).length ≤ 3 * 274877906944 := fun x => by
    have h1 := parts_len (vals.take x)
    have h2 := tot_app (vals.take x) (vals.drop x)
    rw [List.take_append_drop] at h2
    omega
  refine ⟨⟨hl, hn⟩, fun h0 => ⟨h0, fun _ _ => by rw [h0]; rfl, fun x hx => absurd h0 hx.1, fun x hx => absurd h0 hx.1⟩, fun h0 => ⟨⟨0, ⟨h0, Nat.zero_le _, rfl⟩, rfl⟩, fun _ h => absurd h h0, ?_, ?_⟩⟩
  · rintro x ⟨_, hx1, hx2⟩
    refine ⟨fun hx => ?_, fun hx => ?_⟩
    · have hx' : x < vals.length := by omega
      have e := parts_step hx'
      rw [hx2, List.nil_append] at e
      have := hsp x hx'
      refine ⟨hx, ts_get hx', hle x hx', fun h0' => ⟨by omega, x + 1, ⟨h0, by omega, by rw [e, h0']⟩, by omega, by omega⟩, fun h0' => ⟨fun h1 => absurd (List.length_eq_zero_iff.1 h1) h0', fun h1 => ⟨⟨by omega, by omega⟩, by omega, x + 1, ⟨h0, by omega, by rw [e]; exact h0'⟩, by omega, ?_, by omega, ?_⟩⟩⟩
      · rw [e, cells_tsr]; trivial
      · rw [e]; exact ⟨rfl, rfl⟩
    · rw [List.take_of_length_le (by omega)] at hx2
      exact hx2
  · rintro x ⟨_, hx1, hx2⟩
    refine ⟨fun hx => ?_, fun hx => ?_⟩
    · have hx' : x < vals.length := by omega
      have e := parts_step hx'
      have h1 := hsp x hx'
      have h2 := hpt x
      have hne : partsF (vals.take (x + 1)) ≠ [] := by rw [e]; simp [hx2]
      refine ⟨hx, ts_get hx', hle x hx', fun h0' => ⟨by omega, x + 1, ⟨h0, by omega, hne⟩, by omega, ?_, by omega, ?_⟩, fun h0' => ⟨fun h1 => absurd (List.length_eq_zero_iff.1 h1) h0', fun h3 => ⟨fun h4 => absurd h4 (by omega), fun _ => ⟨⟨by omega, by omega⟩, ts_one _, by omega, x + 1, ⟨h0, by omega, hne⟩, by omega, ?_, by omega, ?_⟩⟩⟩⟩
      · rw [e, h0', List.append_nil, cells_tsr]; trivial
      · rw [e, h0', List.append_nil]; exact ⟨rfl, rfl⟩
      · rw [e, ← ts_app, cells_tsr]; trivial
      · rw [e, List.length_append]; exact ⟨rfl, rfl⟩
    · have e : vals.take x = vals := List.take_of_length_le (by omega)
      rw [e] at hx2 ⊢
      rw [cells_tsr]
      exact ⟨hx2, trivial, rfl, rfl⟩
theorem TLi_ok : SpecOk Tryz.prog (tabS TLi noS) := by
  refine tabS_ok (fun p hp => ?_) noS_ok
  simp only [TLi, List.mem_cons, List.mem_nil_iff, or_false] at hp
  rcases hp with rfl | rfl
  · exact eAll_ok
  · exact eSplit_ok
theorem out1 {f : FuncId} {args : List AV} {H : AH} {v : AV} {g : Option (List Nat)} (h : SC Tryz.prog f args H (outE [⟨Unit, fun _ => v, fun _ => H, fun _ => True, g⟩])) : SC Tryz.prog f args H (fun v' H' => v' = v ∧ H' = H) :=
  h.mono fun v' H' h => by
    obtain ⟨_, _, h1, h2⟩ := outE_one h
    exact ⟨h1, h2⟩
noncomputable def eList : SpecE := fun args H =>
  match args with
  | [.nilsl, .str _] => some (.ok .nilsl none)
  | [.slz, .str _] => some (.ok .nilsl none)
  | [.sl b 0 n _ _, .str nm] => match H[b]? with
    | some (.cells vs _ _) => some (.needP (fldOk vs n ∧ le40 nm = true)
        (.br (decide (listF (fldT vs n) nm = [])) (.ok .nilsl none) (.ok (.sl H.length 0 (listF (fldT vs n) nm).length (listF (fldT vs n) nm).length false) (some (H ++ [.cells (ts (listF (fldT vs n) nm)) eT false])))))
    | _ => none
  | _ => none
theorem eList_ok : EntryOk Tryz.prog 20 eList := by
  intro args H sr hs K hk
  unfold eList at hs
  split at hs
  · rename_i nm
    cases hs
    refine (SC.flat (K := fun v' H' => v' = .nilsl ∧ H' = H) (SC.one (V := VLi) names0 mixed0 TLi_ok noO_ok (listN_vc nm)) rfl ?_).mono ?_
    · rintro v0 T ⟨rfl, rfl⟩; exact ⟨(fun k hk => by cases hk), rfl, by simp⟩
    · rintro v H' ⟨rfl, rfl⟩; exact ⟨none, hk, rfl⟩
  · rename_i nm
    cases hs
    refine (SC.flat (K := fun v' H' => v' = .nilsl ∧ H' = H) (SC.one (V := VLi) names0 mixed0 TLi_ok noO_ok (listZ_vc nm)) rfl ?_).mono ?_
    · rintro v0 T ⟨rfl, rfl⟩; exact ⟨(fun k hk => by cases hk), rfl, by simp⟩
    · rintro v H' ⟨rfl, rfl⟩; exact ⟨none, hk, rfl⟩
  · rename_i b n c ex nm
    split at hs
    · rename_i vs e ro hb
      cases hs
      obtain ⟨⟨g1, g4⟩, h2⟩ := hk
      obtain ⟨q1, q2⟩ := cond_dec h2
      obtain ⟨r, h1, hl, h3⟩ := fldOk_ex g1
      generalize fldT vs n = l at *
      subst h1
      subst hl
      have hsc : SC Tryz.prog 20 [.sl 0 0 l.length c ex, .str nm] [.cells (fieldC (l ++ r)) e ro] (outE (outL l r (listF l nm) e ro)) := SC.ofF (V := VLi) names0 mixed0 TLi_ok noO_ok (list_vc l r nm e ro c ex h3 g4)
      refine SC.reads1 (b := b) (H := H) hsc (cells_ren (fieldC_flat _) e ro) (by simp) hb ?_
      rintro v0 H0' ⟨o, ho, x, hx, rfl, rfl⟩
      simp only [outL, List.mem_cons, List.mem_nil_iff, or_false] at ho
      rcases ho with rfl | rfl
      · exact ⟨[], rfl, (fun t ht => by cases ht), none, q1 hx, by simp [chN]⟩
      · refine ⟨[.cells (ts (listF l nm)) eT false], rfl, (fun t ht => by simp at ht; subst ht; exact .inl rfl), _, q2 hx, ?_⟩
        show H ++ [(ABlk.cells (ts (listF l nm)) eT false).ren _] = _
        rw [cells_ren (ts_flat _)]
        rfl
    · cases hs
  · cases hs
end Go.Proofs.YtciciemaldbidaaGreatDoor

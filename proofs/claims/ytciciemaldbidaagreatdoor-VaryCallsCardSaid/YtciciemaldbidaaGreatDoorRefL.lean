/- The document's lists of fields. -/
import Derived.Test.YtciciemaldbidaaGreatDoorRef
import Derived.Test.YtciciemaldbidaaGreatDoorRTok
set_option linter.unusedSimpArgs false
set_option linter.unusedVariables false
namespace Go.Proofs.YtciciemaldbidaaGreatDoor
open Go Go.Ve
set_option maxRecDepth 20000
noncomputable def TLr : List (Nat × SpecE) := [(29, eAll), (41, eSplit)]
noncomputable def VLr : VE := ⟨Tryz.prog, tabS TLr noS, noO, fun _ => none⟩
noncomputable def aListR (l r : FL) (vals : LL) (e : Nat) (ro : Bool) : Anns := [(4, [
  .mk Unit (fun _ => [(7, .int .i64 0), (6, .nilsl)]) (fun _ => some [.cells (fieldC (l ++ r)) e ro]) (fun _ => vals = []) (fun _ => 0) gcB gcB (fun _ => [(21, .str [])]) (fun _ => []),
  .mk Nat (fun i => [(7, .int .i64 i), (6, .nilsl)]) (fun _ => some [.cells (fieldC (l ++ r)) e ro, .cells (ts vals) eT false]) (fun i => vals ≠ [] ∧ i ≤ vals.length ∧ partsF (vals.take i) = []) (fun i => vals.length - i) gcB gcB (fun i => [(21, .str (vals.getD i []))]) (fun _ => []),
  .mk Nat (fun i => [(7, .int .i64 i), (6, .sl 2 0 (partsF (vals.take i)).length (partsF (vals.take i)).length false)]) (fun i => some [.cells (fieldC (l ++ r)) e ro, .cells (ts vals) eT false, .cells (ts (partsF (vals.take i))) eT false]) (fun i => vals ≠ [] ∧ i ≤ vals.length ∧ partsF (vals.take i) ≠ []) (fun i => vals.length - i) gcB gcB (fun i => [(21, .str (vals.getD i []))]) (fun _ => [])])]

noncomputable def vListRN  (nm : List UInt8) : Prop := vcF VLr [] 300 [] [] 24 [.nilsl, .str nm] [] (one .nilsl)
noncomputable def vListRZ  (nm : List UInt8) : Prop := vcF VLr [] 300 [] [] 24 [.slz, .str nm] [] (one .nilsl)
noncomputable def vListR  (l r : FL) (nm : List UInt8) (e : Nat) (ro : Bool) (c : Nat) (ex : Bool) : Prop := vcF VLr [] 300 (aListR l r (allF l nm) e ro) [] 24 [.sl 0 0 l.length c ex, .str nm] [.cells (fieldC (l ++ r)) e ro] (outL l r (partsF (allF l nm)) e ro)
def gqRefL0 : Nat → Nat := (fun (b : Nat) => [0].getD b 1)
def gqRefL1 : Nat → Nat := (fun (b : Nat) => [0, 1].getD b 2)
def gqRefL2 : Nat → Nat := (fun (b : Nat) => [0, 2].getD b 3)
def gqRefL3 : Nat → Nat := (fun (b : Nat) => [0, 1].getD b 3)
def gqRefL4 : Nat → Nat := (fun (b : Nat) => [0, 1, 2].getD b 3)
def gqRefL5 : Nat → Nat := (fun (b : Nat) => [0, 1].getD b 4)
def gqRefL6 : Nat → Nat := (fun (b : Nat) => [0, 1, 2].getD b 4)
theorem vListRN_eq  (nm : List UInt8) : vListRN nm = (∃ (_x : Unit), True ∧ True ∧ True ∧ True) := by kernel_rfl
theorem vListRZ_eq  (nm : List UInt8) : vListRZ nm = (∃ (_x : Unit), True ∧ True ∧ True ∧ True) := by kernel_rfl
theorem vListR_eq  (l r : FL) (nm : List UInt8) (e : Nat) (ro : Bool) (c : Nat) (ex : Bool) : vListR l r nm e ro c ex = ((fldOk (fieldC (l ++ r)) (List.length l) ∧ le40 nm = true) ∧ bif decide (allF (fldT (fieldC (l ++ r)) (List.length l)) nm = []) then ((∃ (_x : Unit), allF l nm = [] ∧ ((bif e.beq e && sameB ro ro then cellsP gqRefL0 (fieldC (l ++ r)) (fieldC (l ++ r)) ∧ True else False) ∧ True) ∧ (0 : Int) = (0 : Int) ∧ True ∧ True) ∨ (∃ (x : Nat), (allF l nm ≠ [] ∧ x ≤ List.length (allF l nm) ∧ partsF (List.take x (allF l nm)) = []) ∧ False) ∨ ∃ (x : Nat), (allF l nm ≠ [] ∧ x ≤ List.length (allF l nm) ∧ partsF (List.take x (allF l nm)) ≠ []) ∧ False) ∧ (∀ (x : Unit), allF l nm = [] → (∃ (_x : Unit), partsF (allF l nm) = [] ∧ ((bif e.beq e && sameB ro ro then cellsP gqRefL0 (fieldC (l ++ r)) (fieldC (l ++ r)) ∧ True else False) ∧ True) ∧ True ∧ True) ∨ ∃ (_x : Unit), partsF (allF l nm) ≠ [] ∧ False) ∧ (∀ (x : Nat), allF l nm ≠ [] ∧ x ≤ List.length (allF l nm) ∧ partsF (List.take x (allF l nm)) = [] → (∃ (_x : Unit), partsF (allF l nm) = [] ∧ ((bif e.beq e && sameB ro ro then cellsP (fun (b : Nat) => [0].getD b 2) (fieldC (l ++ r)) (fieldC (l ++ r)) ∧ True else False) ∧ True) ∧ True ∧ True) ∨ ∃ (_x : Unit), partsF (allF l nm) ≠ [] ∧ ((bif e.beq e && sameB ro ro then cellsP gqRefL1 (fieldC (l ++ r)) (fieldC (l ++ r)) ∧ True else False) ∧ (cellsP gqRefL1 (ts (partsF (allF l nm))) (ts (allF l nm)) ∧ True) ∧ True) ∧ False ∧ True) ∧ ∀ (x : Nat), allF l nm ≠ [] ∧ x ≤ List.length (allF l nm) ∧ partsF (List.take x (allF l nm)) ≠ [] → (∃ (_x : Unit), partsF (allF l nm) = [] ∧ ((bif e.beq e && sameB ro ro then cellsP (fun (b : Nat) => [0].getD b 3) (fieldC (l ++ r)) (fieldC (l ++ r)) ∧ True else False) ∧ True) ∧ False ∧ True) ∨ ∃ (_x : Unit), partsF (allF l nm) ≠ [] ∧ ((bif e.beq e && sameB ro ro then cellsP gqRefL2 (fieldC (l ++ r)) (fieldC (l ++ r)) ∧ True else False) ∧ (cellsP gqRefL2 (ts (partsF (allF l nm))) (ts (partsF (List.take x (allF l nm)))) ∧ True) ∧ True) ∧ (0 = 0 ∧ List.length (partsF (List.take x (allF l nm))) = List.length (partsF (allF l nm)) ∧ List.length (partsF (List.take x (allF l nm))) = List.length (partsF (allF l nm)) ∧ false = false) ∧ True else ((∃ (_x : Unit), allF l nm = [] ∧ False) ∨ (∃ (x : Nat), (allF l nm ≠ [] ∧ x ≤ List.length (allF l nm) ∧ partsF (List.take x (allF l nm)) = []) ∧ ((bif e.beq e && sameB ro ro then cellsP gqRefL1 (fieldC (l ++ r)) (fieldC (l ++ r)) ∧ True else False) ∧ (cellsP gqRefL1 (ts (allF l nm)) (ts (allF (fldT (fieldC (l ++ r)) (List.length l)) nm)) ∧ True) ∧ True) ∧ (0 : Int) = ic x ∧ True ∧ True) ∨ ∃ (x : Nat), (allF l nm ≠ [] ∧ x ≤ List.length (allF l nm) ∧ partsF (List.take x (allF l nm)) ≠ []) ∧ False) ∧ (∀ (x : Unit), allF l nm = [] → bif ltI (0 : Int) (ic (List.length (allF (fldT (fieldC (l ++ r)) (List.length l)) nm))) then bif ltI (0 : Int) (ic (List.length (allF (fldT (fieldC (l ++ r)) (List.length l)) nm))) then none = some (AO.val (AV.str []) none) ∧ ((∃ (_x : Unit), allF l nm = [] ∧ 0 < 0 ∧ ((bif e.beq e && sameB ro ro then cellsP gqRefL0 (fieldC (l ++ r)) (fieldC (l ++ r)) ∧ True else False) ∧ True) ∧ (1 : Int) = (0 : Int) ∧ True ∧ True) ∨ (∃ (y : Nat), (allF l nm ≠ [] ∧ y ≤ List.length (allF l nm) ∧ partsF (List.take y (allF l nm)) = []) ∧ List.length (allF l nm) - y < 0 ∧ False) ∨ ∃ (y : Nat), (allF l nm ≠ [] ∧ y ≤ List.length (allF l nm) ∧ partsF (List.take y (allF l nm)) ≠ []) ∧ List.length (allF l nm) - y < 0 ∧ False) else False else (∃ (_x : Unit), partsF (allF l nm) = [] ∧ ((bif e.beq e && sameB ro ro then cellsP gqRefL0 (fieldC (l ++ r)) (fieldC (l ++ r)) ∧ True else False) ∧ True) ∧ True ∧ True) ∨ ∃ (_x : Unit), partsF (allF l nm) ≠ [] ∧ False) ∧ (∀ (x : Nat), allF l nm ≠ [] ∧ x ≤ List.length (allF l nm) ∧ partsF (List.take x (allF l nm)) = [] → bif ltI (ic x) (ic (List.length (allF (fldT (fieldC (l ++ r)) (List.length l)) nm))) then bif ltI (ic x) (ic (List.length (allF (fldT (fieldC (l ++ r)) (List.length l)) nm))) then (ts (allF l nm))[0 + x * 1]? = some (AV.str (List.getD (allF l nm) x [])) ∧ bif le40 (List.getD (allF l nm) x []) then bif decide (split (List.getD (allF l nm) x []) = []) then bif leI (ic x + (1 : Int)) (9223372036854775807 : Int) then (∃ (_x : Unit), allF l nm = [] ∧ 0 < List.length (allF l nm) - x ∧ False) ∨ (∃ (y : Nat), (allF l nm ≠ [] ∧ y ≤ List.length (allF l nm) ∧ partsF (List.take y (allF l nm)) = []) ∧ List.length (allF l nm) - y < List.length (allF l nm) - x ∧ ((bif e.beq e && sameB ro ro then cellsP gqRefL1 (fieldC (l ++ r)) (fieldC (l ++ r)) ∧ True else False) ∧ (cellsP gqRefL1 (ts (allF l nm)) (ts (allF l nm)) ∧ True) ∧ True) ∧ ic x + (1 : Int) = ic y ∧ True ∧ True) ∨ ∃ (y : Nat), (allF l nm ≠ [] ∧ y ≤ List.length (allF l nm) ∧ partsF (List.take y (allF l nm)) ≠ []) ∧ List.length (allF l nm) - y < List.length (allF l nm) - x ∧ False else False else bif decide (0 + (split (List.getD (allF l nm) x [])).length * 1 ≤ (ts (split (List.getD (allF l nm) x []))).length) then bif decide ((split (List.getD (allF l nm) x [])).length = 0) then bif leI (ic x + (1 : Int)) (9223372036854775807 : Int) then (∃ (_x : Unit), allF l nm = [] ∧ 0 < List.length (allF l nm) - x ∧ False) ∨ (∃ (y : Nat), (allF l nm ≠ [] ∧ y ≤ List.length (allF l nm) ∧ partsF (List.take y (allF l nm)) = []) ∧ List.length (allF l nm) - y < List.length (allF l nm) - x ∧ ((bif e.beq e && sameB ro ro then cellsP gqRefL3 (fieldC (l ++ r)) (fieldC (l ++ r)) ∧ True else False) ∧ (cellsP gqRefL3 (ts (allF l nm)) (ts (allF l nm)) ∧ True) ∧ True) ∧ ic x + (1 : Int) = ic y ∧ True ∧ True) ∨ ∃ (y : Nat), (allF l nm ≠ [] ∧ y ≤ List.length (allF l nm) ∧ partsF (List.take y (allF l nm)) ≠ []) ∧ List.length (allF l nm) - y < List.length (allF l nm) - x ∧ ((bif e.beq e && sameB ro ro then cellsP gqRefL4 (fieldC (l ++ r)) (fieldC (l ++ r)) ∧ True else False) ∧ (cellsP gqRefL4 (ts (allF l nm)) (ts (allF l nm)) ∧ True) ∧ (cellsP gqRefL4 (ts (partsF (List.take y (allF l nm)))) (ts (split (List.getD (allF l nm) x []))) ∧ True) ∧ True) ∧ ic x + (1 : Int) = ic y ∧ False ∧ True else False else bif decide ((split (List.getD (allF l nm) x [])).length ≤ 9223372036854775807) && decide ((split (List.getD (allF l nm) x [])).length * 16 ≤ 140737488355328) then bif leI (ic x + (1 : Int)) (9223372036854775807 : Int) then (∃ (_x : Unit), allF l nm = [] ∧ 0 < List.length (allF l nm) - x ∧ False) ∨ (∃ (y : Nat), (allF l nm ≠ [] ∧ y ≤ List.length (allF l nm) ∧ partsF (List.take y (allF l nm)) = []) ∧ List.length (allF l nm) - y < List.length (allF l nm) - x ∧ ((bif e.beq e && sameB ro ro then cellsP gqRefL5 (fieldC (l ++ r)) (fieldC (l ++ r)) ∧ True else False) ∧ (cellsP gqRefL5 (ts (allF l nm)) (ts (allF l nm)) ∧ True) ∧ True) ∧ ic x + (1 : Int) = ic y ∧ False ∧ True) ∨ ∃ (y : Nat), (allF l nm ≠ [] ∧ y ≤ List.length (allF l nm) ∧ partsF (List.take y (allF l nm)) ≠ []) ∧ List.length (allF l nm) - y < List.length (allF l nm) - x ∧ ((bif e.beq e && sameB ro ro then cellsP (fun (b : Nat) => [0, 1, 3].getD b 4) (fieldC (l ++ r)) (fieldC (l ++ r)) ∧ True else False) ∧ (cellsP (fun (b : Nat) => [0, 1, 3].getD b 4) (ts (allF l nm)) (ts (allF l nm)) ∧ True) ∧ (cellsP (fun (b : Nat) => [0, 1, 3].getD b 4) (ts (partsF (List.take y (allF l nm)))) (List.take ((split (List.getD (allF l nm) x [])).length * 1) (List.drop 0 (ts (split (List.getD (allF l nm) x []))))) ∧ True) ∧ True) ∧ ic x + (1 : Int) = ic y ∧ (0 = 0 ∧ (split (List.getD (allF l nm) x [])).length = List.length (partsF (List.take y (allF l nm))) ∧ (split (List.getD (allF l nm) x [])).length = List.length (partsF (List.take y (allF l nm))) ∧ false = false) ∧ True else False else False else False else False else False else (∃ (_x : Unit), partsF (allF l nm) = [] ∧ ((bif e.beq e && sameB ro ro then cellsP (fun (b : Nat) => [0].getD b 2) (fieldC (l ++ r)) (fieldC (l ++ r)) ∧ True else False) ∧ True) ∧ True ∧ True) ∨ ∃ (_x : Unit), partsF (allF l nm) ≠ [] ∧ ((bif e.beq e && sameB ro ro then cellsP gqRefL1 (fieldC (l ++ r)) (fieldC (l ++ r)) ∧ True else False) ∧ (cellsP gqRefL1 (ts (partsF (allF l nm))) (ts (allF l nm)) ∧ True) ∧ True) ∧ False ∧ True) ∧ ∀ (x : Nat), allF l nm ≠ [] ∧ x ≤ List.length (allF l nm) ∧ partsF (List.take x (allF l nm)) ≠ [] → bif ltI (ic x) (ic (List.length (allF (fldT (fieldC (l ++ r)) (List.length l)) nm))) then bif ltI (ic x) (ic (List.length (allF (fldT (fieldC (l ++ r)) (List.length l)) nm))) then (ts (allF l nm))[0 + x * 1]? = some (AV.str (List.getD (allF l nm) x [])) ∧ bif le40 (List.getD (allF l nm) x []) then bif decide (split (List.getD (allF l nm) x []) = []) then bif decide (List.length (partsF (List.take x (allF l nm))) ≤ List.length (partsF (List.take x (allF l nm)))) && decide (0 + List.length (partsF (List.take x (allF l nm))) * 1 ≤ (ts (partsF (List.take x (allF l nm)))).length) then bif leI (ic x + (1 : Int)) (9223372036854775807 : Int) then (∃ (_x : Unit), allF l nm = [] ∧ 0 < List.length (allF l nm) - x ∧ False) ∨ (∃ (y : Nat), (allF l nm ≠ [] ∧ y ≤ List.length (allF l nm) ∧ partsF (List.take y (allF l nm)) = []) ∧ List.length (allF l nm) - y < List.length (allF l nm) - x ∧ ((bif e.beq e && sameB ro ro then cellsP gqRefL3 (fieldC (l ++ r)) (fieldC (l ++ r)) ∧ True else False) ∧ (cellsP gqRefL3 (ts (allF l nm)) (ts (allF l nm)) ∧ True) ∧ True) ∧ ic x + (1 : Int) = ic y ∧ False ∧ True) ∨ ∃ (y : Nat), (allF l nm ≠ [] ∧ y ≤ List.length (allF l nm) ∧ partsF (List.take y (allF l nm)) ≠ []) ∧ List.length (allF l nm) - y < List.length (allF l nm) - x ∧ ((bif e.beq e && sameB ro ro then cellsP gqRefL4 (fieldC (l ++ r)) (fieldC (l ++ r)) ∧ True else False) ∧ (cellsP gqRefL4 (ts (allF l nm)) (ts (allF l nm)) ∧ True) ∧ (cellsP gqRefL4 (ts (partsF (List.take y (allF l nm)))) (ts (partsF (List.take x (allF l nm)))) ∧ True) ∧ True) ∧ ic x + (1 : Int) = ic y ∧ (0 = 0 ∧ List.length (partsF (List.take x (allF l nm))) = List.length (partsF (List.take y (allF l nm))) ∧ List.length (partsF (List.take x (allF l nm))) = List.length (partsF (List.take y (allF l nm))) ∧ false = false) ∧ True else False else False else bif decide (0 + (split (List.getD (allF l nm) x [])).length * 1 ≤ (ts (split (List.getD (allF l nm) x []))).length) then bif decide (List.length (partsF (List.take x (allF l nm))) ≤ List.length (partsF (List.take x (allF l nm)))) && decide (0 + List.length (partsF (List.take x (allF l nm))) * 1 ≤ (ts (partsF (List.take x (allF l nm)))).length) then bif decide ((split (List.getD (allF l nm) x [])).length = 0) then bif leI (ic x + (1 : Int)) (9223372036854775807 : Int) then (∃ (_x : Unit), allF l nm = [] ∧ 0 < List.length (allF l nm) - x ∧ False) ∨ (∃ (y : Nat), (allF l nm ≠ [] ∧ y ≤ List.length (allF l nm) ∧ partsF (List.take y (allF l nm)) = []) ∧ List.length (allF l nm) - y < List.length (allF l nm) - x ∧ ((bif e.beq e && sameB ro ro then cellsP gqRefL5 (fieldC (l ++ r)) (fieldC (l ++ r)) ∧ True else False) ∧ (cellsP gqRefL5 (ts (allF l nm)) (ts (allF l nm)) ∧ True) ∧ True) ∧ ic x + (1 : Int) = ic y ∧ False ∧ True) ∨ ∃ (y : Nat), (allF l nm ≠ [] ∧ y ≤ List.length (allF l nm) ∧ partsF (List.take y (allF l nm)) ≠ []) ∧ List.length (allF l nm) - y < List.length (allF l nm) - x ∧ ((bif e.beq e && sameB ro ro then cellsP gqRefL6 (fieldC (l ++ r)) (fieldC (l ++ r)) ∧ True else False) ∧ (cellsP gqRefL6 (ts (allF l nm)) (ts (allF l nm)) ∧ True) ∧ (cellsP gqRefL6 (ts (partsF (List.take y (allF l nm)))) (ts (partsF (List.take x (allF l nm)))) ∧ True) ∧ True) ∧ ic x + (1 : Int) = ic y ∧ (0 = 0 ∧ List.length (partsF (List.take x (allF l nm))) = List.length (partsF (List.take y (allF l nm))) ∧ List.length (partsF (List.take x (allF l nm))) = List.length (partsF (List.take y (allF l nm))) ∧ false = false) ∧ True else False else bif decide (List.length (partsF (List.take x (allF l nm))) + (split (List.getD (allF l nm) x [])).length ≤ List.length (partsF (List.take x (allF l nm)))) then bif decide (0 + (List.length (partsF (List.take x (allF l nm))) + (split (List.getD (allF l nm) x [])).length) * 1 ≤ (ts (partsF (List.take x (allF l nm)))).length) && AV.allOne (List.take ((split (List.getD (allF l nm) x [])).length * 1) (List.drop 0 (ts (split (List.getD (allF l nm) x []))))) then bif leI (ic x + (1 : Int)) (9223372036854775807 : Int) then (∃ (_x : Unit), allF l nm = [] ∧ 0 < List.length (allF l nm) - x ∧ False) ∨ (∃ (y : Nat), (allF l nm ≠ [] ∧ y ≤ List.length (allF l nm) ∧ partsF (List.take y (allF l nm)) = []) ∧ List.length (allF l nm) - y < List.length (allF l nm) - x ∧ ((bif e.beq e && sameB ro ro then cellsP gqRefL5 (fieldC (l ++ r)) (fieldC (l ++ r)) ∧ True else False) ∧ (cellsP gqRefL5 (ts (allF l nm)) (ts (allF l nm)) ∧ True) ∧ True) ∧ ic x + (1 : Int) = ic y ∧ False ∧ True) ∨ ∃ (y : Nat), (allF l nm ≠ [] ∧ y ≤ List.length (allF l nm) ∧ partsF (List.take y (allF l nm)) ≠ []) ∧ List.length (allF l nm) - y < List.length (allF l nm) - x ∧ ((bif e.beq e && sameB ro ro then cellsP gqRefL6 (fieldC (l ++ r)) (fieldC (l ++ r)) ∧ True else False) ∧ (cellsP gqRefL6 (ts (allF l nm)) (ts (allF l nm)) ∧ True) ∧ (cellsP gqRefL6 (ts (partsF (List.take y (allF l nm)))) (setManyF (ts (partsF (List.take x (allF l nm)))) (0 + List.length (partsF (List.take x (allF l nm))) * 1) (List.take ((split (List.getD (allF l nm) x [])).length * 1) (List.drop 0 (ts (split (List.getD (allF l nm) x [])))))) ∧ True) ∧ True) ∧ ic x + (1 : Int) = ic y ∧ (0 = 0 ∧ List.length (partsF (List.take x (allF l nm))) + (split (List.getD (allF l nm) x [])).length = List.length (partsF (List.take y (allF l nm))) ∧ List.length (partsF (List.take x (allF l nm))) = List.length (partsF (List.take y (allF l nm))) ∧ false = false) ∧ True else False else False else bif decide (List.length (partsF (List.take x (allF l nm))) + (split (List.getD (allF l nm) x [])).length ≤ 9223372036854775807) && decide ((List.length (partsF (List.take x (allF l nm))) + (split (List.getD (allF l nm) x [])).length) * 16 ≤ 140737488355328) then bif decide (List.length (partsF (List.take x (allF l nm))) = List.length (partsF (List.take x (allF l nm)))) && (decide (0 + List.length (partsF (List.take x (allF l nm))) * 1 = (ts (partsF (List.take x (allF l nm)))).length) && AV.allOne (List.take ((split (List.getD (allF l nm) x [])).length * 1) (List.drop 0 (ts (split (List.getD (allF l nm) x [])))))) then bif leI (ic x + (1 : Int)) (9223372036854775807 : Int) then (∃ (_x : Unit), allF l nm = [] ∧ 0 < List.length (allF l nm) - x ∧ False) ∨ (∃ (y : Nat), (allF l nm ≠ [] ∧ y ≤ List.length (allF l nm) ∧ partsF (List.take y (allF l nm)) = []) ∧ List.length (allF l nm) - y < List.length (allF l nm) - x ∧ ((bif e.beq e && sameB ro ro then cellsP (fun (b : Nat) => [0, 1].getD b 5) (fieldC (l ++ r)) (fieldC (l ++ r)) ∧ True else False) ∧ (cellsP (fun (b : Nat) => [0, 1].getD b 5) (ts (allF l nm)) (ts (allF l nm)) ∧ True) ∧ True) ∧ ic x + (1 : Int) = ic y ∧ False ∧ True) ∨ ∃ (y : Nat), (allF l nm ≠ [] ∧ y ≤ List.length (allF l nm) ∧ partsF (List.take y (allF l nm)) ≠ []) ∧ List.length (allF l nm) - y < List.length (allF l nm) - x ∧ ((bif e.beq e && sameB ro ro then cellsP (fun (b : Nat) => [0, 1, 4].getD b 5) (fieldC (l ++ r)) (fieldC (l ++ r)) ∧ True else False) ∧ (cellsP (fun (b : Nat) => [0, 1, 4].getD b 5) (ts (allF l nm)) (ts (allF l nm)) ∧ True) ∧ (cellsP (fun (b : Nat) => [0, 1, 4].getD b 5) (ts (partsF (List.take y (allF l nm)))) (List.drop 0 (ts (partsF (List.take x (allF l nm)))) ++ List.take ((split (List.getD (allF l nm) x [])).length * 1) (List.drop 0 (ts (split (List.getD (allF l nm) x []))))) ∧ True) ∧ True) ∧ ic x + (1 : Int) = ic y ∧ (0 = 0 ∧ List.length (partsF (List.take x (allF l nm))) + (split (List.getD (allF l nm) x [])).length = List.length (partsF (List.take y (allF l nm))) ∧ List.length (partsF (List.take x (allF l nm))) + (split (List.getD (allF l nm) x [])).length = List.length (partsF (List.take y (allF l nm))) ∧ false = false) ∧ True else False else False else False else False else False else False else False else (∃ (_x : Unit), partsF (allF l nm) = [] ∧ ((bif e.beq e && sameB ro ro then cellsP (fun (b : Nat) => [0].getD b 3) (fieldC (l ++ r)) (fieldC (l ++ r)) ∧ True else False) ∧ True) ∧ False ∧ True) ∨ ∃ (_x : Unit), partsF (allF l nm) ≠ [] ∧ ((bif e.beq e && sameB ro ro then cellsP gqRefL2 (fieldC (l ++ r)) (fieldC (l ++ r)) ∧ True else False) ∧ (cellsP gqRefL2 (ts (partsF (allF l nm))) (ts (partsF (List.take x (allF l nm)))) ∧ True) ∧ True) ∧ (0 = 0 ∧ List.length (partsF (List.take x (allF l nm))) = List.length (partsF (allF l nm)) ∧ List.length (partsF (List.take x (allF l nm))) = List.length (partsF (allF l nm)) ∧ false = false) ∧ True) := by kernel_rfl
theorem listRN_vc (nm : List UInt8) : vListRN nm := by
  rw [vListRN_eq]; simp
theorem listRZ_vc (nm : List UInt8) : vListRZ nm := by
  rw [vListRZ_eq]; simp
theorem listR_vc (l r : FL) (nm : List UInt8) (e : Nat) (ro : Bool) (c : Nat) (ex : Bool) (hl : totL l ≤ 274877906944) (hn : le40 nm = true) : vListR l r nm e ro c ex := by
  rw [vListR_eq]
  simp only [ic, cond_F, sameB_self, Nat.beq_refl]
  simp only [cond_P, leI_t, leI_f, ltI_t, ltI_f, eqI_t, eqI_f, and_t, not_t, not_f, dec_t, dec_f, Nat.zero_add, Nat.mul_one, List.drop_zero]
  simp only [cells_tsr, cells_fld, take_ts, ts_length, and_true, true_and, and_false, false_and, or_false, false_or, exists_false, Nat.le_refl, exists_const, false_implies, not_false_eq_true, true_implies, fldT_at, fldOk_at, getS_ts]
  have h1 := totF_all l nm
  generalize allF l nm = vals at *
  have hlen := tot_len vals
  have hpl := parts_len vals
  have hle : ∀ x, x < vals.length → le40 (vals.getD x []) = true := fun x hx => decide_eq_true (by have := tot_mem (getD_mem hx); omega)
  have hsp : ∀ x, x < vals.length → (split (vals.getD x [])).length ≤ 3 * 274877906944 := fun x hx => by
    have := split_len (vals.getD x [])
    have := tot_mem (getD_mem hx)
    omega
  have hpt : ∀ x, (partsF (vals.take x)).length ≤ 3 * 274877906944 := fun x => by
    have h1 := parts_len (vals.take x)
    have h2 := tot_app (vals.take x) (vals.drop x)
    rw [List.take_append_drop] at h2
    omega
  refine ⟨⟨hl, hn⟩, fun h0 => ⟨h0, fun _ _ => by rw [h0]; rfl, fun x hx => absurd h0 hx.1, fun x hx => absurd h0 hx.1⟩, fun h0 => ⟨⟨0, ⟨h0, Nat.zero_le _, rfl⟩, rfl⟩, fun _ h => absurd h h0, ?_, ?_⟩⟩
  · rintro x ⟨_, hx1, hx2⟩
    refine ⟨fun hx => ?_, fun hx => ?_⟩
    · have hx' : x < vals.length := by omega
      have e := parts_step hx'
      rw [hx2, List.nil_append] at e
      have := hsp x hx'
      refine ⟨hx, ts_get hx', hle x hx', fun h0' => ⟨by omega, x + 1, ⟨h0, by omega, by rw [e, h0']⟩, by omega, by omega⟩, fun h0' => ⟨fun h1 => absurd (List.length_eq_zero_iff.1 h1) h0', fun h1 => ⟨⟨by omega, by omega⟩, by omega, x + 1, ⟨h0, by omega, by rw [e]; exact h0'⟩, by omega, ?_, by omega, ?_⟩⟩⟩
      · rw [e, cells_tsr]; trivial
      · rw [e]; exact ⟨rfl, rfl⟩
    · rw [List.take_of_length_le (by omega)] at hx2
      exact hx2
  · rintro x ⟨_, hx1, hx2⟩
    refine ⟨fun hx => ?_, fun hx => ?_⟩
    · have hx' : x < vals.length := by omega
      have e := parts_step hx'
      have h1 := hsp x hx'
      have h2 := hpt x
      have hne : partsF (vals.take (x + 1)) ≠ [] := by rw [e]; simp [hx2]
      refine ⟨hx, ts_get hx', hle x hx', fun h0' => ⟨by omega, x + 1, ⟨h0, by omega, hne⟩, by omega, ?_, by omega, ?_⟩, fun h0' => ⟨fun h1 => absurd (List.length_eq_zero_iff.1 h1) h0', fun h3 => ⟨fun h4 => absurd h4 (by omega), fun _ => ⟨⟨by omega, by omega⟩, ts_one _, by omega, x + 1, ⟨h0, by omega, hne⟩, by omega, ?_, by omega, ?_⟩⟩⟩⟩
      · rw [e, h0', List.append_nil, cells_tsr]; trivial
      · rw [e, h0', List.append_nil]; exact ⟨rfl, rfl⟩
      · rw [e, ← ts_app, cells_tsr]; trivial
      · rw [e, List.length_append]; exact ⟨rfl, rfl⟩
    · have e : vals.take x = vals := List.take_of_length_le (by omega)
      rw [e] at hx2 ⊢
      rw [cells_tsr]
      exact ⟨hx2, trivial, rfl, rfl⟩
theorem splR_sc (s : List UInt8) (hs : s.length ≤ 1099511627776) : SC Tryz.prog 41 [.str s] [] (outE (outT (split s))) :=
  SC.ofF (V := VSr) names0 mixed0 TSr_ok noO_ok (spR_vc s hs)
theorem eSplitR_ok : EntryOk Tryz.prog 41 eSplit := by
  intro args H sr hs K hk
  unfold eSplit at hs
  split at hs
  · rename_i s
    cases hs
    obtain ⟨h1, h2⟩ := cond_need hk
    obtain ⟨q1, q2⟩ := cond_dec h2
    refine SC.flat (splR_sc s (of_decide_eq_true h1)) rfl ?_
    rintro v0 T ⟨o, ho, x, hx, rfl, rfl⟩
    simp only [outT, List.mem_cons, List.mem_nil_iff, or_false] at ho
    rcases ho with rfl | rfl
    · exact ⟨(fun k hk => by cases hk), none, q1 hx, by simp [chN]⟩
    · refine ⟨(fun k hk => by simp at hk; subst hk; exact .inl rfl), _, q2 hx, ?_⟩
      show H ++ [(ABlk.cells (ts (split s)) eT false).ren _] = _
      rw [cells_ren (ts_flat _)]
      rfl
  · cases hs
theorem TLr_ok : SpecOk Tryz.prog (tabS TLr noS) := by
  refine tabS_ok (fun p hp => ?_) noS_ok
  simp only [TLr, List.mem_cons, List.mem_nil_iff, or_false] at hp
  rcases hp with rfl | rfl
  · exact eAllR_ok
  · exact eSplitR_ok
theorem eListR_ok : EntryOk Tryz.prog 24 eList := by
  intro args H sr hs K hk
  unfold eList at hs
  split at hs
  · rename_i nm
    cases hs
    refine (SC.flat (K := fun v' H' => v' = .nilsl ∧ H' = H) (SC.one (V := VLr) names0 mixed0 TLr_ok noO_ok (listRN_vc nm)) rfl ?_).mono ?_
    · rintro v0 T ⟨rfl, rfl⟩; exact ⟨(fun k hk => by cases hk), rfl, by simp⟩
    · rintro v H' ⟨rfl, rfl⟩; exact ⟨none, hk, rfl⟩
  · rename_i nm
    cases hs
    refine (SC.flat (K := fun v' H' => v' = .nilsl ∧ H' = H) (SC.one (V := VLr) names0 mixed0 TLr_ok noO_ok (listRZ_vc nm)) rfl ?_).mono ?_
    · rintro v0 T ⟨rfl, rfl⟩; exact ⟨(fun k hk => by cases hk), rfl, by simp⟩
    · rintro v H' ⟨rfl, rfl⟩; exact ⟨none, hk, rfl⟩
  · rename_i b n c ex nm
    split at hs
    · rename_i vs e ro hb
      cases hs
      obtain ⟨⟨g1, g4⟩, h2⟩ := hk
      obtain ⟨q1, q2⟩ := cond_dec h2
      obtain ⟨r, h1, hl, h3⟩ := fldOk_ex g1
      generalize fldT vs n = l at *
      subst h1
      subst hl
      have hsc : SC Tryz.prog 24 [.sl 0 0 l.length c ex, .str nm] [.cells (fieldC (l ++ r)) e ro] (outE (outL l r (listF l nm) e ro)) := SC.ofF (V := VLr) names0 mixed0 TLr_ok noO_ok (listR_vc l r nm e ro c ex h3 g4)
      refine SC.reads1 (b := b) (H := H) hsc (cells_ren (fieldC_flat _) e ro) (by simp) hb ?_
      rintro v0 H0' ⟨o, ho, x, hx, rfl, rfl⟩
      simp only [outL, List.mem_cons, List.mem_nil_iff, or_false] at ho
      rcases ho with rfl | rfl
      · exact ⟨[], rfl, (fun t ht => by cases ht), none, q1 hx, by simp [chN]⟩
      · refine ⟨[.cells (ts (listF l nm)) eT false], rfl, (fun t ht => by simp at ht; subst ht; exact .inl rfl), _, q2 hx, ?_⟩
        show H ++ [(ABlk.cells (ts (listF l nm)) eT false).ren _] = _
        rw [cells_ren (ts_flat _)]
        rfl
    · cases hs
  · cases hs
end Go.Proofs.YtciciemaldbidaaGreatDoor

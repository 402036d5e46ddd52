/- The document's answers on lists of fields, numbers, and the ends of messages. -/
import Derived.Test.YtciciemaldbidaaDoorFr2
import Derived.Test.YtciciemaldbidaaDoorRef
import Derived.Test.YtciciemaldbidaaDoorRTok
set_option linter.unusedSimpArgs false
set_option linter.unusedVariables false
namespace Go.Proofs.YtciciemaldbidaaDoor
open Go Go.Ve
set_option maxRecDepth 20000
noncomputable def faDg (f : FuncId) : Option FA := match Nat.beq f 63 with | true => some ⟨[], [], []⟩ | false => none
noncomputable def VNr : VE := ⟨Tryd.prog, noS, noO, faDg⟩
def dig (c : UInt8) : Prop := 48 ≤ c.toNat ∧ c.toNat ≤ 57
noncomputable def aNr (s : List UInt8) : Anns := [
  (4, [.mk Nat (fun i => [(4, .int .i64 i)]) (fun _ => none) (fun i => i ≤ s.length ∧ ∀ c ∈ s.take i, dig c) (fun i => s.length - i) none none (fun _ => []) (fun _ => [])]),
  (10, [.mk Nat (fun i => [(6, .int .i64 i), (5, .int .i64 (natV (s.take i)))]) (fun _ => none) (fun i => i ≤ s.length ∧ (∀ c ∈ s, dig c) ∧ natV (s.take i) ≤ 9007199254740991) (fun i => s.length - i) none none (fun _ => []) (fun _ => [])])]
noncomputable def TLr : List (Nat × SpecE) := [(41, eAll), (48, eSplit)]
noncomputable def VLr : VE := ⟨Tryd.prog, tabS TLr noS, noO, fun _ => none⟩
noncomputable def aListR (l r : FL) (vals : LL) (e : Nat) (ro : Bool) : Anns := [(4, [
  .mk Unit (fun _ => [(7, .int .i64 0), (6, .nilsl)]) (fun _ => some [.cells (fieldC (l ++ r)) e ro]) (fun _ => vals = []) (fun _ => 0) gcB gcB (fun _ => [(21, .str [])]) (fun _ => []),
  .mk Nat (fun i => [(7, .int .i64 i), (6, .nilsl)]) (fun _ => some [.cells (fieldC (l ++ r)) e ro, .cells (ts vals) eT false]) (fun i => vals ≠ [] ∧ i ≤ vals.length ∧ partsF (vals.take i) = []) (fun i => vals.length - i) gcB gcB (fun i => [(21, .str (vals.getD i []))]) (fun _ => []),
  .mk Nat (fun i => [(7, .int .i64 i), (6, .sl 2 0 (partsF (vals.take i)).length (partsF (vals.take i)).length false)]) (fun i => some [.cells (fieldC (l ++ r)) e ro, .cells (ts vals) eT false, .cells (ts (partsF (vals.take i))) eT false]) (fun i => vals ≠ [] ∧ i ≤ vals.length ∧ partsF (vals.take i) ≠ []) (fun i => vals.length - i) gcB gcB (fun i => [(21, .str (vals.getD i []))]) (fun _ => [])])]

noncomputable def vNr  (s : List UInt8) : Prop := vcF VNr [] 300 (aNr s) [] 42 [.str s] [] (one (.tuple [.int .i64 (numV s), .int .i64 (numE s)]))
noncomputable def vListRN  (nm : List UInt8) : Prop := vcF VLr [] 300 [] [] 22 [.nilsl, .str nm] [] (one .nilsl)
noncomputable def vListRZ  (nm : List UInt8) : Prop := vcF VLr [] 300 [] [] 22 [.slz, .str nm] [] (one .nilsl)
noncomputable def vListR  (l r : FL) (nm : List UInt8) (e : Nat) (ro : Bool) (c : Nat) (ex : Bool) : Prop := vcF VLr [] 300 (aListR l r (allF l nm) e ro) [] 22 [.sl 0 0 l.length c ex, .str nm] [.cells (fieldC (l ++ r)) e ro] (outL l r (partsF (allF l nm)) e ro)
def gqRef20 : Nat → Nat := (fun (b : Nat) => [(0 : Nat)].getD b (1 : Nat))
def gqRef21 : Nat → Nat := (fun (b : Nat) => [(0 : Nat), (1 : Nat)].getD b (2 : Nat))
def gqRef22 : Nat → Nat := (fun (b : Nat) => [(0 : Nat), (2 : Nat)].getD b (3 : Nat))
def gqRef23 : Nat → Nat := (fun (b : Nat) => [(0 : Nat), (1 : Nat)].getD b (3 : Nat))
def gqRef24 : Nat → Nat := (fun (b : Nat) => [(0 : Nat), (1 : Nat), (2 : Nat)].getD b (3 : Nat))
def gqRef25 : Nat → Nat := (fun (b : Nat) => [(0 : Nat), (1 : Nat)].getD b (4 : Nat))
def gqRef26 : Nat → Nat := (fun (b : Nat) => [(0 : Nat), (1 : Nat), (2 : Nat)].getD b (4 : Nat))
theorem vNr_eq  (s : List UInt8) : vNr s = (bif decide (s = []) then ∃ (_x : Unit), True ∧ True ∧ ((0 : Int) = numV s ∧ (4 : Int) = numE s ∧ True) ∧ True else (∃ (x : Nat), (x ≤ s.length ∧ ∀ (c : UInt8), c ∈ List.take x s → dig c) ∧ True ∧ (0 : Int) = ic x ∧ True) ∧ ∀ (x : Nat), (x ≤ s.length ∧ ∀ (c : UInt8), c ∈ List.take x s → dig c) → bif ltI (ic x) (ic s.length) then bif ltI (ic x) (ic s.length) then bif leI (48 : Int) (byteAt s x) then bif !leI (byteAt s x) (57 : Int) then ∃ (_x : Unit), True ∧ True ∧ ((0 : Int) = numV s ∧ (4 : Int) = numE s ∧ True) ∧ True else bif leI (ic x + (1 : Int)) (9223372036854775807 : Int) then ∃ (y : Nat), (y ≤ s.length ∧ ∀ (c : UInt8), c ∈ List.take y s → dig c) ∧ s.length - y < s.length - x ∧ True ∧ ic x + (1 : Int) = ic y ∧ True else False else ∃ (_x : Unit), True ∧ True ∧ ((0 : Int) = numV s ∧ (4 : Int) = numE s ∧ True) ∧ True else False else (∃ (x : Nat), (x ≤ s.length ∧ (∀ (c : UInt8), c ∈ s → dig c) ∧ natV (List.take x s) ≤ (9007199254740991 : Nat)) ∧ True ∧ (0 : Int) = ic x ∧ (0 : Int) = ic (natV (List.take x s)) ∧ True) ∧ ∀ (x : Nat), x ≤ s.length ∧ (∀ (c : UInt8), c ∈ s → dig c) ∧ natV (List.take x s) ≤ (9007199254740991 : Nat) → bif ltI (ic x) (ic s.length) then bif ltI (ic x) (ic s.length) then bif leI (0 : Int) (byteAt s x - (48 : Int)) && leI (byteAt s x - (48 : Int)) (255 : Int) then bif leI (-9223372036854775808 : Int) (byteAt s x - (48 : Int)) && leI (byteAt s x - (48 : Int)) (9223372036854775807 : Int) then bif leI (-9223372036854775808 : Int) ((9007199254740991 : Int) - (byteAt s x - (48 : Int))) && leI ((9007199254740991 : Int) - (byteAt s x - (48 : Int))) (9223372036854775807 : Int) then bif leI (0 : Int) ((9007199254740991 : Int) - (byteAt s x - (48 : Int))) && (leI (-9223372036854775808 : Int) ((9007199254740991 : Int) - (byteAt s x - (48 : Int))) && leI ((9007199254740991 : Int) - (byteAt s x - (48 : Int))) (9223372036854775807 : Int)) then bif ltI (((9007199254740991 : Int) - (byteAt s x - (48 : Int))) / (10 : Int)) (ic (natV (List.take x s))) then ∃ (_x : Unit), True ∧ True ∧ ((0 : Int) = numV s ∧ (3 : Int) = numE s ∧ True) ∧ True else bif leI ((10 : Int) * ic (natV (List.take x s))) (9223372036854775807 : Int) then bif leI (-9223372036854775808 : Int) ((10 : Int) * ic (natV (List.take x s)) + (byteAt s x - (48 : Int))) && leI ((10 : Int) * ic (natV (List.take x s)) + (byteAt s x - (48 : Int))) (9223372036854775807 : Int) then bif leI (ic x + (1 : Int)) (9223372036854775807 : Int) then ∃ (y : Nat), (y ≤ s.length ∧ (∀ (c : UInt8), c ∈ s → dig c) ∧ natV (List.take y s) ≤ (9007199254740991 : Nat)) ∧ s.length - y < s.length - x ∧ True ∧ ic x + (1 : Int) = ic y ∧ (10 : Int) * ic (natV (List.take x s)) + (byteAt s x - (48 : Int)) = ic (natV (List.take y s)) ∧ True else False else False else False else False else False else False else False else False else ∃ (_x : Unit), True ∧ True ∧ (ic (natV (List.take x s)) = numV s ∧ (0 : Int) = numE s ∧ True) ∧ True) := by kernel_rfl
theorem vListRN_eq  (nm : List UInt8) : vListRN nm = (∃ (_x : Unit), True ∧ True ∧ True ∧ True) := by kernel_rfl
theorem vListRZ_eq  (nm : List UInt8) : vListRZ nm = (∃ (_x : Unit), True ∧ True ∧ True ∧ True) := by kernel_rfl
theorem vListR_eq  (l r : FL) (nm : List UInt8) (e : Nat) (ro : Bool) (c : Nat) (ex : Bool) : vListR l r nm e ro c ex = ((fldOk (fieldC (l ++ r)) (List.length l) ∧ le40 nm = true) ∧ bif decide (allF (fldT (fieldC (l ++ r)) (List.length l)) nm = []) then ((∃ (_x : Unit), allF l nm = [] ∧ ((bif e.beq e && sameB ro ro then cellsP gqRef20 (fieldC (l ++ r)) (fieldC (l ++ r)) ∧ True else False) ∧ True) ∧ (0 : Int) = (0 : Int) ∧ True ∧ True) ∨ (∃ (x : Nat), (allF l nm ≠ [] ∧ x ≤ List.length (allF l nm) ∧ partsF (List.take x (allF l nm)) = []) ∧ False) ∨ ∃ (x : Nat), (allF l nm ≠ [] ∧ x ≤ List.length (allF l nm) ∧ partsF (List.take x (allF l nm)) ≠ []) ∧ False) ∧ (∀ (x : Unit), allF l nm = [] → (∃ (_x : Unit), partsF (allF l nm) = [] ∧ ((bif e.beq e && sameB ro ro then cellsP gqRef20 (fieldC (l ++ r)) (fieldC (l ++ r)) ∧ True else False) ∧ True) ∧ True ∧ True) ∨ ∃ (_x : Unit), partsF (allF l nm) ≠ [] ∧ False) ∧ (∀ (x : Nat), allF l nm ≠ [] ∧ x ≤ List.length (allF l nm) ∧ partsF (List.take x (allF l nm)) = [] → (∃ (_x : Unit), partsF (allF l nm) = [] ∧ ((bif e.beq e && sameB ro ro then cellsP (fun (b : Nat) => [(0 : Nat)].getD b (2 : Nat)) (fieldC (l ++ r)) (fieldC (l ++ r)) ∧ True else False) ∧ True) ∧ True ∧ True) ∨ ∃ (_x : Unit), partsF (allF l nm) ≠ [] ∧ ((bif e.beq e && sameB ro ro then cellsP gqRef21 (fieldC (l ++ r)) (fieldC (l ++ r)) ∧ True else False) ∧ (cellsP gqRef21 (ts (partsF (allF l nm))) (ts (allF l nm)) ∧ True) ∧ True) ∧ False ∧ True) ∧ ∀ (x : Nat), allF l nm ≠ [] ∧ x ≤ List.length (allF l nm) ∧ partsF (List.take x (allF l nm)) ≠ [] → (∃ (_x : Unit), partsF (allF l nm) = [] ∧ ((bif e.beq e && sameB ro ro then cellsP (fun (b : Nat) => [(0 : Nat)].getD b (3 : Nat)) (fieldC (l ++ r)) (fieldC (l ++ r)) ∧ True else False) ∧ True) ∧ False ∧ True) ∨ ∃ (_x : Unit), partsF (allF l nm) ≠ [] ∧ ((bif e.beq e && sameB ro ro then cellsP gqRef22 (fieldC (l ++ r)) (fieldC (l ++ r)) ∧ True else False) ∧ (cellsP gqRef22 (ts (partsF (allF l nm))) (ts (partsF (List.take x (allF l nm)))) ∧ True) ∧ True) ∧ ((0 : Nat) = (0 : Nat) ∧ List.length (partsF (List.take x (allF l nm))) = List.length (partsF (allF l nm)) ∧ List.length (partsF (List.take x (allF l nm))) = List.length (partsF (allF l nm)) ∧ false = false) ∧ True else ((∃ (_x : Unit), allF l nm = [] ∧ False) ∨ (∃ (x : Nat), (allF l nm ≠ [] ∧ x ≤ List.length (allF l nm) ∧ partsF (List.take x (allF l nm)) = []) ∧ ((bif e.beq e && sameB ro ro then cellsP gqRef21 (fieldC (l ++ r)) (fieldC (l ++ r)) ∧ True else False) ∧ (cellsP gqRef21 (ts (allF l nm)) (ts (allF (fldT (fieldC (l ++ r)) (List.length l)) nm)) ∧ True) ∧ True) ∧ (0 : Int) = ic x ∧ True ∧ True) ∨ ∃ (x : Nat), (allF l nm ≠ [] ∧ x ≤ List.length (allF l nm) ∧ partsF (List.take x (allF l nm)) ≠ []) ∧ False) ∧ (∀ (x : Unit), allF l nm = [] → bif ltI (0 : Int) (ic (List.length (allF (fldT (fieldC (l ++ r)) (List.length l)) nm))) then bif ltI (0 : Int) (ic (List.length (allF (fldT (fieldC (l ++ r)) (List.length l)) nm))) then none = some (AO.val (AV.str []) none) ∧ ((∃ (_x : Unit), allF l nm = [] ∧ (0 : Nat) < (0 : Nat) ∧ ((bif e.beq e && sameB ro ro then cellsP gqRef20 (fieldC (l ++ r)) (fieldC (l ++ r)) ∧ True else False) ∧ True) ∧ (1 : Int) = (0 : Int) ∧ True ∧ True) ∨ (∃ (y : Nat), (allF l nm ≠ [] ∧ y ≤ List.length (allF l nm) ∧ partsF (List.take y (allF l nm)) = []) ∧ List.length (allF l nm) - y < (0 : Nat) ∧ False) ∨ ∃ (y : Nat), (allF l nm ≠ [] ∧ y ≤ List.length (allF l nm) ∧ partsF (List.take y (allF l nm)) ≠ []) ∧ List.length (allF l nm) - y < (0 : Nat) ∧ False) else False else (∃ (_x : Unit), partsF (allF l nm) = [] ∧ ((bif e.beq e && sameB ro ro then cellsP gqRef20 (fieldC (l ++ r)) (fieldC (l ++ r)) ∧ True else False) ∧ True) ∧ True ∧ True) ∨ ∃ (_x : Unit), partsF (allF l nm) ≠ [] ∧ False) ∧ (∀ (x : Nat), allF l nm ≠ [] ∧ x ≤ List.length (allF l nm) ∧ partsF (List.take x (allF l nm)) = [] → bif ltI (ic x) (ic (List.length (allF (fldT (fieldC (l ++ r)) (List.length l)) nm))) then bif ltI (ic x) (ic (List.length (allF (fldT (fieldC (l ++ r)) (List.length l)) nm))) then (ts (allF l nm))[(0 : Nat) + x * (1 : Nat)]? = some (AV.str (List.getD (allF l nm) x [])) ∧ bif le40 (List.getD (allF l nm) x []) then bif decide (split (List.getD (allF l nm) x []) = []) then bif leI (ic x + (1 : Int)) (9223372036854775807 : Int) then (∃ (_x : Unit), allF l nm = [] ∧ (0 : Nat) < List.length (allF l nm) - x ∧ False) ∨ (∃ (y : Nat), (allF l nm ≠ [] ∧ y ≤ List.length (allF l nm) ∧ partsF (List.take y (allF l nm)) = []) ∧ List.length (allF l nm) - y < List.length (allF l nm) - x ∧ ((bif e.beq e && sameB ro ro then cellsP gqRef21 (fieldC (l ++ r)) (fieldC (l ++ r)) ∧ True else False) ∧ (cellsP gqRef21 (ts (allF l nm)) (ts (allF l nm)) ∧ True) ∧ True) ∧ ic x + (1 : Int) = ic y ∧ True ∧ True) ∨ ∃ (y : Nat), (allF l nm ≠ [] ∧ y ≤ List.length (allF l nm) ∧ partsF (List.take y (allF l nm)) ≠ []) ∧ List.length (allF l nm) - y < List.length (allF l nm) - x ∧ False else False else bif decide ((0 : Nat) + (split (List.getD (allF l nm) x [])).length * (1 : Nat) ≤ (ts (split (List.getD (allF l nm) x []))).length) then bif decide ((split (List.getD (allF l nm) x [])).length = (0 : Nat)) then bif leI (ic x + (1 : Int)) (9223372036854775807 : Int) then (∃ (_x : Unit), allF l nm = [] ∧ (0 : Nat) < List.length (allF l nm) - x ∧ False) ∨ (∃ (y : Nat), (allF l nm ≠ [] ∧ y ≤ List.length (allF l nm) ∧ partsF (List.take y (allF l nm)) = []) ∧ List.length (allF l nm) - y < List.length (allF l nm) - x ∧ ((bif e.beq e && sameB ro ro then cellsP gqRef23 (fieldC (l ++ r)) (fieldC (l ++ r)) ∧ True else False) ∧ (cellsP gqRef23 (ts (allF l nm)) (ts (allF l nm)) ∧ True) ∧ True) ∧ ic x + (1 : Int) = ic y ∧ True ∧ True) ∨ ∃ (y : Nat), (allF l nm ≠ [] ∧ y ≤ List.length (allF l nm) ∧ partsF (List.take y (allF l nm)) ≠ []) ∧ List.length (allF l nm) - y < List.length (allF l nm) - x ∧ ((bif e.beq e && sameB ro ro then cellsP gqRef24 (fieldC (l ++ r)) (fieldC (l ++ r)) ∧ True else False) ∧ (cellsP gqRef24 (ts (allF l nm)) (ts (allF l nm)) ∧ True) ∧ (cellsP gqRef24 (ts (partsF (List.take y (allF l nm)))) (ts (split (List.getD (allF l nm) x []))) ∧ True) ∧ True) ∧ ic x + (1 : Int) = ic y ∧ False ∧ True else False else bif decide ((split (List.getD (allF l nm) x [])).length ≤ (9223372036854775807 : Nat)) && decide ((split (List.getD (allF l nm) x [])).length * (16 : Nat) ≤ (140737488355328 : Nat)) then bif leI (ic x + (1 : Int)) (9223372036854775807 : Int) then (∃ (_x : Unit), allF l nm = [] ∧ (0 : Nat) < List.length (allF l nm) - x ∧ False) ∨ (∃ (y : Nat), (allF l nm ≠ [] ∧ y ≤ List.length (allF l nm) ∧ partsF (List.take y (allF l nm)) = []) ∧ List.length (allF l nm) - y < List.length (allF l nm) - x ∧ ((bif e.beq e && sameB ro ro then cellsP gqRef25 (fieldC (l ++ r)) (fieldC (l ++ r)) ∧ True else False) ∧ (cellsP gqRef25 (ts (allF l nm)) (ts (allF l nm)) ∧ True) ∧ True) ∧ ic x + (1 : Int) = ic y ∧ False ∧ True) ∨ ∃ (y : Nat), (allF l nm ≠ [] ∧ y ≤ List.length (allF l nm) ∧ partsF (List.take y (allF l nm)) ≠ []) ∧ List.length (allF l nm) - y < List.length (allF l nm) - x ∧ ((bif e.beq e && sameB ro ro then cellsP (fun (b : Nat) => [(0 : Nat), (1 : Nat), (3 : Nat)].getD b (4 : Nat)) (fieldC (l ++ r)) (fieldC (l ++ r)) ∧ True else False) ∧ (cellsP (fun (b : Nat) => [(0 : Nat), (1 : Nat), (3 : Nat)].getD b (4 : Nat)) (ts (allF l nm)) (ts (allF l nm)) ∧ True) ∧ (cellsP (fun (b : Nat) => [(0 : Nat), (1 : Nat), (3 : Nat)].getD b (4 : Nat)) (ts (partsF (List.take y (allF l nm)))) (List.take ((split (List.getD (allF l nm) x [])).length * (1 : Nat)) (List.drop (0 : Nat) (ts (split (List.getD (allF l nm) x []))))) ∧ True) ∧ True) ∧ ic x + (1 : Int) = ic y ∧ ((0 : Nat) = (0 : Nat) ∧ (split (List.getD (allF l nm) x [])).length = List.length (partsF (List.take y (allF l nm))) ∧ (split (List.getD (allF l nm) x [])).length = List.length (partsF (List.take y (allF l nm))) ∧ false = false) ∧ True else False else False else False else False else False else (∃ (_x : Unit), partsF (allF l nm) = [] ∧ ((bif e.beq e && sameB ro ro then cellsP (fun (b : Nat) => [(0 : Nat)].getD b (2 : Nat)) (fieldC (l ++ r)) (fieldC (l ++ r)) ∧ True else False) ∧ True) ∧ True ∧ True) ∨ ∃ (_x : Unit), partsF (allF l nm) ≠ [] ∧ ((bif e.beq e && sameB ro ro then cellsP gqRef21 (fieldC (l ++ r)) (fieldC (l ++ r)) ∧ True else False) ∧ (cellsP gqRef21 (ts (partsF (allF l nm))) (ts (allF l nm)) ∧ True) ∧ True) ∧ False ∧ True) ∧ ∀ (x : Nat), allF l nm ≠ [] ∧ x ≤ List.length (allF l nm) ∧ partsF (List.take x (allF l nm)) ≠ [] → bif ltI (ic x) (ic (List.length (allF (fldT (fieldC (l ++ r)) (List.length l)) nm))) then bif ltI (ic x) (ic (List.length (allF (fldT (fieldC (l ++ r)) (List.length l)) nm))) then (ts (allF l nm))[(0 : Nat) + x * (1 : Nat)]? = some (AV.str (List.getD (allF l nm) x [])) ∧ bif le40 (List.getD (allF l nm) x []) then bif decide (split (List.getD (allF l nm) x []) = []) then bif decide (List.length (partsF (List.take x (allF l nm))) ≤ List.length (partsF (List.take x (allF l nm)))) && decide ((0 : Nat) + List.length (partsF (List.take x (allF l nm))) * (1 : Nat) ≤ (ts (partsF (List.take x (allF l nm)))).length) then bif leI (ic x + (1 : Int)) (9223372036854775807 : Int) then (∃ (_x : Unit), allF l nm = [] ∧ (0 : Nat) < List.length (allF l nm) - x ∧ False) ∨ (∃ (y : Nat), (allF l nm ≠ [] ∧ y ≤ List.length (allF l nm) ∧ partsF (List.take y (allF l nm)) = []) ∧ List.length (allF l nm) - y < List.length (allF l nm) - x ∧ ((bif e.beq e && sameB ro ro then cellsP gqRef23 (fieldC (l ++ r)) (fieldC (l ++ r)) ∧ True else False) ∧ (cellsP gqRef23 (ts (allF l nm)) (ts (allF l nm)) ∧ True) ∧ True) ∧ ic x + (1 : Int) = ic y ∧ False ∧ True) ∨ ∃ (y : Nat), (allF l nm ≠ [] ∧ y ≤ List.length (allF l nm) ∧ partsF (List.take y (allF l nm)) ≠ []) ∧ List.length (allF l nm) - y < List.length (allF l nm) - x ∧ ((bif e.beq e && sameB ro ro then cellsP gqRef24 (fieldC (l ++ r)) (fieldC (l ++ r)) ∧ True else False) ∧ (cellsP gqRef24 (ts (allF l nm)) (ts (allF l nm)) ∧ True) ∧ (cellsP gqRef24 (ts (partsF (List.take y (allF l nm)))) (ts (partsF (List.take x (allF l nm)))) ∧ True) ∧ True) ∧ ic x + (1 : Int) = ic y ∧ ((0 : Nat) = (0 : Nat) ∧ List.length (partsF (List.take x (allF l nm))) = List.length (partsF (List.take y (allF l nm))) ∧ List.length (partsF (List.take x (allF l nm))) = List.length (partsF (List.take y (allF l nm))) ∧ false = false) ∧ True else False else False else bif decide ((0 : Nat) + (split (List.getD (allF l nm) x [])).length * (1 : Nat) ≤ (ts (split (List.getD (allF l nm) x []))).length) then bif decide (List.length (partsF (List.take x (allF l nm))) ≤ List.length (partsF (List.take x (allF l nm)))) && decide ((0 : Nat) + List.length (partsF (List.take x (allF l nm))) * (1 : Nat) ≤ (ts (partsF (List.take x (allF l nm)))).length) then bif decide ((split (List.getD (allF l nm) x [])).length = (0 : Nat)) then bif leI (ic x + (1 : Int)) (9223372036854775807 : Int) then (∃ (_x : Unit), allF l nm = [] ∧ (0 : Nat) < List.length (allF l nm) - x ∧ False) ∨ (∃ (y : Nat), (allF l nm ≠ [] ∧ y ≤ List.length (allF l nm) ∧ partsF (List.take y (allF l nm)) = []) ∧ List.length (allF l nm) - y < List.length (allF l nm) - x ∧ ((bif e.beq e && sameB ro ro then cellsP gqRef25 (fieldC (l ++ r)) (fieldC (l ++ r)) ∧ True else False) ∧ (cellsP gqRef25 (ts (allF l nm)) (ts (allF l nm)) ∧ True) ∧ True) ∧ ic x + (1 : Int) = ic y ∧ False ∧ True) ∨ ∃ (y : Nat), (allF l nm ≠ [] ∧ y ≤ List.length (allF l nm) ∧ partsF (List.take y (allF l nm)) ≠ []) ∧ List.length (allF l nm) - y < List.length (allF l nm) - x ∧ ((bif e.beq e && sameB ro ro then cellsP gqRef26 (fieldC (l ++ r)) (fieldC (l ++ r)) ∧ True else False) ∧ (cellsP gqRef26 (ts (allF l nm)) (ts (allF l nm)) ∧ True) ∧ (cellsP gqRef26 (ts (partsF (List.take y (allF l nm)))) (ts (partsF (List.take x (allF l nm)))) ∧ True) ∧ True) ∧ ic x + (1 : Int) = ic y ∧ ((0 : Nat) = (0 : Nat) ∧ List.length (partsF (List.take x (allF l nm))) = List.length (partsF (List.take y (allF l nm))) ∧ List.length (partsF (List.take x (allF l nm))) = List.length (partsF (List.take y (allF l nm))) ∧ false = false) ∧ True else False else bif decide (List.length (partsF (List.take x (allF l nm))) + (split (List.getD (allF l nm) x [])).length ≤ List.length (partsF (List.take x (allF l nm)))) then bif decide ((0 : Nat) + (List.length (partsF (List.take x (allF l nm))) + (split (List.getD (allF l nm) x [])).length) * (1 : Nat) ≤ (ts (partsF (List.take x (allF l nm)))).length) && AV.allOne (List.take ((split (List.getD (allF l nm) x [])).length * (1 : Nat)) (List.drop (0 : Nat) (ts (split (List.getD (allF l nm) x []))))) then bif leI (ic x + (1 : Int)) (9223372036854775807 : Int) then (∃ (_x : Unit), allF l nm = [] ∧ (0 : Nat) < List.length (allF l nm) - x ∧ False) ∨ (∃ (y : Nat), (allF l nm ≠ [] ∧ y ≤ List.length (allF l nm) ∧ partsF (List.take y (allF l nm)) = []) ∧ List.length (allF l nm) - y < List.length (allF l nm) - x ∧ ((bif e.beq e && sameB ro ro then cellsP gqRef25 (fieldC (l ++ r)) (fieldC (l ++ r)) ∧ True else False) ∧ (cellsP gqRef25 (ts (allF l nm)) (ts (allF l nm)) ∧ True) ∧ True) ∧ ic x + (1 : Int) = ic y ∧ False ∧ True) ∨ ∃ (y : Nat), (allF l nm ≠ [] ∧ y ≤ List.length (allF l nm) ∧ partsF (List.take y (allF l nm)) ≠ []) ∧ List.length (allF l nm) - y < List.length (allF l nm) - x ∧ ((bif e.beq e && sameB ro ro then cellsP gqRef26 (fieldC (l ++ r)) (fieldC (l ++ r)) ∧ True else False) ∧ (cellsP gqRef26 (ts (allF l nm)) (ts (allF l nm)) ∧ True) ∧ (cellsP gqRef26 (ts (partsF (List.take y (allF l nm)))) (setManyF (ts (partsF (List.take x (allF l nm)))) ((0 : Nat) + List.length (partsF (List.take x (allF l nm))) * (1 : Nat)) (List.take ((split (List.getD (allF l nm) x [])).length * (1 : Nat)) (List.drop (0 : Nat) (ts (split (List.getD (allF l nm) x [])))))) ∧ True) ∧ True) ∧ ic x + (1 : Int) = ic y ∧ ((0 : Nat) = (0 : Nat) ∧ List.length (partsF (List.take x (allF l nm))) + (split (List.getD (allF l nm) x [])).length = List.length (partsF (List.take y (allF l nm))) ∧ List.length (partsF (List.take x (allF l nm))) = List.length (partsF (List.take y (allF l nm))) ∧ false = false) ∧ True else False else False else bif decide (List.length (partsF (List.take x (allF l nm))) + (split (List.getD (allF l nm) x [])).length ≤ (9223372036854775807 : Nat)) && decide ((List.length (partsF (List.take x (allF l nm))) + (split (List.getD (allF l nm) x [])).length) * (16 : Nat) ≤ (140737488355328 : Nat)) then bif decide (List.length (partsF (List.take x (allF l nm))) = List.length (partsF (List.take x (allF l nm)))) && (decide ((0 : Nat) + List.length (partsF (List.take x (allF l nm))) * (1 : Nat) = (ts (partsF (List.take x (allF l nm)))).length) && AV.allOne (List.take ((split (List.getD (allF l nm) x [])).length * (1 : Nat)) (List.drop (0 : Nat) (ts (split (List.getD (allF l nm) x [])))))) then bif leI (ic x + (1 : Int)) (9223372036854775807 : Int) then (∃ (_x : Unit), allF l nm = [] ∧ (0 : Nat) < List.length (allF l nm) - x ∧ False) ∨ (∃ (y : Nat), (allF l nm ≠ [] ∧ y ≤ List.length (allF l nm) ∧ partsF (List.take y (allF l nm)) = []) ∧ List.length (allF l nm) - y < List.length (allF l nm) - x ∧ ((bif e.beq e && sameB ro ro then cellsP (fun (b : Nat) => [(0 : Nat), (1 : Nat)].getD b (5 : Nat)) (fieldC (l ++ r)) (fieldC (l ++ r)) ∧ True else False) ∧ (cellsP (fun (b : Nat) => [(0 : Nat), (1 : Nat)].getD b (5 : Nat)) (ts (allF l nm)) (ts (allF l nm)) ∧ True) ∧ True) ∧ ic x + (1 : Int) = ic y ∧ False ∧ True) ∨ ∃ (y : Nat), (allF l nm ≠ [] ∧ y ≤ List.length (allF l nm) ∧ partsF (List.take y (allF l nm)) ≠ []) ∧ List.length (allF l nm) - y < List.length (allF l nm) - x ∧ ((bif e.beq e && sameB ro ro then cellsP (fun (b : Nat) => [(0 : Nat), (1 : Nat), (4 : Nat)].getD b (5 : Nat)) (fieldC (l ++ r)) (fieldC (l ++ r)) ∧ True else False) ∧ (cellsP (fun (b : Nat) => [(0 : Nat), (1 : Nat), (4 : Nat)].getD b (5 : Nat)) (ts (allF l nm)) (ts (allF l nm)) ∧ True) ∧ (cellsP (fun (b : Nat) => [(0 : Nat), (1 : Nat), (4 : Nat)].getD b (5 : Nat)) (ts (partsF (List.take y (allF l nm)))) (List.drop (0 : Nat) (ts (partsF (List.take x (allF l nm)))) ++ List.take ((split (List.getD (allF l nm) x [])).length * (1 : Nat)) (List.drop (0 : Nat) (ts (split (List.getD (allF l nm) x []))))) ∧ True) ∧ True) ∧ ic x + (1 : Int) = ic y ∧ ((0 : Nat) = (0 : Nat) ∧ List.length (partsF (List.take x (allF l nm))) + (split (List.getD (allF l nm) x [])).length = List.length (partsF (List.take y (allF l nm))) ∧ List.length (partsF (List.take x (allF l nm))) + (split (List.getD (allF l nm) x [])).length = List.length (partsF (List.take y (allF l nm))) ∧ false = false) ∧ True else False else False else False else False else False else False else False else (∃ (_x : Unit), partsF (allF l nm) = [] ∧ ((bif e.beq e && sameB ro ro then cellsP (fun (b : Nat) => [(0 : Nat)].getD b (3 : Nat)) (fieldC (l ++ r)) (fieldC (l ++ r)) ∧ True else False) ∧ True) ∧ False ∧ True) ∨ ∃ (_x : Unit), partsF (allF l nm) ≠ [] ∧ ((bif e.beq e && sameB ro ro then cellsP gqRef22 (fieldC (l ++ r)) (fieldC (l ++ r)) ∧ True else False) ∧ (cellsP gqRef22 (ts (partsF (allF l nm))) (ts (partsF (List.take x (allF l nm)))) ∧ True) ∧ True) ∧ ((0 : Nat) = (0 : Nat) ∧ List.length (partsF (List.take x (allF l nm))) = List.length (partsF (allF l nm)) ∧ List.length (partsF (List.take x (allF l nm))) = List.length (partsF (allF l nm)) ∧ false = false) ∧ True) := by kernel_rfl
theorem trimD_all {s : List UInt8} (h : ∀ c ∈ s, dig c) : trimD s = [] := by
  unfold trimD trimP
  rw [tl_tr, tl_all fun c hc => (digs_iff _).2 (h c hc)]; rfl
theorem natV_step {s : List UInt8} {x : Nat} (hx : x < s.length) : natV (s.take (x + 1)) = natV (s.take x) * 10 + (s[x].toNat - 48) := by
  rw [take_succ' s x hx]; unfold natV; rw [List.foldl_append]; rfl
theorem natV_take {s : List UInt8} (x : Nat) : natV (s.take x) ≤ natV s := by
  have e : natV s = (s.drop x).foldl (fun n c => n * 10 + (c.toNat - 48)) (natV (s.take x)) := by
    unfold natV
    rw [← List.foldl_append, List.take_append_drop]
  rw [e]
  exact natV_ge _ _
theorem nr_vc (s : List UInt8) (hs : s.length ≤ 1099511627776) : vNr s := by
  rw [vNr_eq]
  simp only [ic, cond_F]
  simp only [cond_P, leI_t, leI_f, ltI_t, ltI_f, eqI_t, eqI_f, and_t, not_t, not_f, dec_t, dec_f, Nat.zero_add, Nat.mul_one, List.drop_zero]
  simp only [true_and, and_true, exists_const]
  have bad : ∀ x (h : x < s.length), ¬ dig s[x] → 0 = numV s ∧ 4 = numE s := fun x h hd => num_bad (.inr fun ht => hd (digits_of ht _ (List.getElem_mem h)))
  have dig_snoc : ∀ x (h : x < s.length), (∀ c ∈ s.take x, dig c) → dig s[x] → ∀ c ∈ s.take (x + 1), dig c := fun x h ha hd c hc => by
    rw [take_succ' s x h] at hc
    rcases List.mem_append.1 hc with hc | hc
    · exact ha c hc
    · rw [List.mem_singleton.1 hc]; exact hd
  refine ⟨fun h => num_bad (.inl h), fun hne => ⟨⟨0, ⟨Nat.zero_le _, fun c hc => by simp at hc⟩, rfl⟩, fun x hx => ⟨fun hlt => ?_, fun hge => ?_⟩⟩⟩
  · have hx' : x < s.length := by omega
    have hb := byteAt_get s x hx'
    refine ⟨hlt, fun h48 => ⟨fun h57 => bad x hx' fun hd => ?_, fun h57 => ⟨by omega, x + 1, ⟨by omega, dig_snoc x hx' hx.2 ⟨by omega, by omega⟩⟩, by omega, by omega⟩⟩, fun h48 => bad x hx' fun hd => ?_⟩
    · have := hd.2; omega
    · have := hd.1; omega
  · have hall : ∀ c ∈ s, dig c := by
      have h := hx.2
      rwa [List.take_of_length_le (by omega)] at h
    refine ⟨⟨0, ⟨Nat.zero_le _, hall, by simp [natV]⟩, rfl, by simp [natV]⟩, fun x hx => ⟨fun hlt => ?_, fun hge => ?_⟩⟩
    · have hx' : x < s.length := by omega
      have hb := byteAt_get s x hx'
      have hd := hall _ (List.getElem_mem hx')
      have h1 := hd.1
      have h2 := hd.2
      have hn := natV_step hx'
      have hle := hx.2.2
      have htk := natV_take (s := s) (x + 1)
      refine ⟨hlt, ⟨by omega, by omega⟩, ⟨by omega, by omega⟩, ⟨by omega, by omega⟩, ⟨by omega, by omega, by omega⟩, fun hg => num_long hne (trimD_all hall) (by omega), fun hg => ⟨by omega, ⟨by omega, by omega⟩, by omega, x + 1, ⟨by omega, hall, by omega⟩, by omega, by omega, by omega⟩⟩
    · have hle := hx.2.2
      rw [List.take_of_length_le (by omega)] at hle ⊢
      exact num_ok hne (trimD_all hall) hle
theorem listRN_vc (nm : List UInt8) : vListRN nm := by
  rw [vListRN_eq]; simp
theorem listRZ_vc (nm : List UInt8) : vListRZ nm := by
  rw [vListRZ_eq]; simp
theorem listR_vc (l r : FL) (nm : List UInt8) (e : Nat) (ro : Bool) (c : Nat) (ex : Bool) (hl : totL l ≤ 274877906944) (hn : le40 nm = true) : vListR l r nm e ro c ex := by
  rw [vListR_eq]
  simp only [ic, cond_F, sameB_self, Nat.beq_refl]
  simp only [cond_P, leI_t, leI_f, ltI_t, ltI_f, eqI_t, eqI_f, and_t, not_t, not_f, dec_t, dec_f, Nat.zero_add, Nat.mul_one, List.drop_zero]
  simp only [cells_tsr, cells_fld, take_ts, ts_length, and_true, true_and, and_false, false_and, or_false, false_or, exists_false, Nat.le_refl, exists_const, false_implies, not_false_eq_true, true_implies, fldT_at, fldOk_at, getS_ts]
  have h1 := totF_all l nm
  generalize allF l nm = vals at *
  have hlen := tot_len vals
  have hpl := parts_len vals
  have hle : ∀ x, x < vals.length → le40 (vals.getD x []) = true := fun x hx => decide_eq_true (by have := tot_mem (getD_mem hx); omega)
  have hsp : ∀ x, x < vals.length → (split (vals.getD x [])).length ≤ 3 * 274877906944 := fun x hx => by
    have := split_len (vals.getD x [])
    have := tot_mem (getD_mem hx)
    omega
  have hpt : ∀ x, (partsF (vals.take x)).length ≤ 3 * 274877906944 := fun x => by
    have h1 := parts_len (vals.take x)
    have h2 := tot_app (vals.take x) (vals.drop x)
    rw [List.take_append_drop] at h2
    omega
  refine ⟨⟨hl, hn⟩, fun h0 => ⟨h0, fun _ _ => by rw [h0]; rfl, fun x hx => absurd h0 hx.1, fun x hx => absurd h0 hx.1⟩, fun h0 => ⟨⟨0, ⟨h0, Nat.zero_le _, rfl⟩, rfl⟩, fun _ h => absurd h h0, ?_, ?_⟩⟩
  · rintro x ⟨_, hx1, hx2⟩
    refine ⟨fun hx => ?_, fun hx => ?_⟩
    · have hx' : x < vals.length := by omega
      have e := parts_step hx'
      rw [hx2, List.nil_append] at e
      have := hsp x hx'
      refine ⟨hx, ts_get hx', hle x hx', fun h0' => ⟨by omega, x + 1, ⟨h0, by omega, by rw [e, h0']⟩, by omega, by omega⟩, fun h0' => ⟨fun h1 => absurd (List.length_eq_zero_iff.1 h1) h0', fun h1 => ⟨⟨by omega, by omega⟩, by omega, x + 1, ⟨h0, by omega, by rw [e]; exact h0'⟩, by omega, ?_, by omega, ?_⟩⟩⟩
      · rw [e, cells_tsr]; trivial
      · rw [e]; exact ⟨rfl, rfl⟩
    · rw [List.take_of_length_le (by omega)] at hx2
      exact hx2
  · rintro x ⟨_, hx1, hx2⟩
    refine ⟨fun hx => ?_, fun hx => ?_⟩
    · have hx' : x < vals.length := by omega
      have e := parts_step hx'
      have h1 := hsp x hx'
      have h2 := hpt x
      have hne : partsF (vals.take (x + 1)) ≠ [] := by rw [e]; simp [hx2]
      refine ⟨hx, ts_get hx', hle x hx', fun h0' => ⟨by omega, x + 1, ⟨h0, by omega, hne⟩, by omega, ?_, by omega, ?_⟩, fun h0' => ⟨fun h1 => absurd (List.length_eq_zero_iff.1 h1) h0', fun h3 => ⟨fun h4 => absurd h4 (by omega), fun _ => ⟨⟨by omega, by omega⟩, ts_one _, by omega, x + 1, ⟨h0, by omega, hne⟩, by omega, ?_, by omega, ?_⟩⟩⟩⟩
      · rw [e, h0', List.append_nil, cells_tsr]; trivial
      · rw [e, h0', List.append_nil]; exact ⟨rfl, rfl⟩
      · rw [e, ← ts_app, cells_tsr]; trivial
      · rw [e, List.length_append]; exact ⟨rfl, rfl⟩
    · have e : vals.take x = vals := List.take_of_length_le (by omega)
      rw [e] at hx2 ⊢
      rw [cells_tsr]
      exact ⟨hx2, trivial, rfl, rfl⟩
def gNumR (args : List AV) : Option (Bool × AV) := match args with | [.str s] => some (leS s, .tuple [.int .i64 (numV s), .int .i64 (numE s)]) | _ => none
theorem gNumR_ok : EntryOk Tryd.prog 42 (flatE gNumR) := by
  refine flatE_ok fun args b v hg hb => ?_
  unfold gNumR at hg
  split at hg
  · cases hg
    exact ⟨rfl, rfl, SC.one (V := VNr) names0 mixed0 noS_ok noO_ok (nr_vc _ (of_decide_eq_true hb))⟩
  · cases hg
theorem splR_sc (s : List UInt8) (hs : s.length ≤ 1099511627776) : SC Tryd.prog 48 [.str s] [] (outE (outT (split s))) :=
  SC.ofF (V := VSr) names0 mixed0 TSr_ok noO_ok (spR_vc s hs)
theorem eSplitR_ok : EntryOk Tryd.prog 48 eSplit := by
  intro args H sr hs K hk
  unfold eSplit at hs
  split at hs
  · rename_i s
    cases hs
    obtain ⟨h1, h2⟩ := cond_need hk
    obtain ⟨q1, q2⟩ := cond_dec h2
    refine SC.flat (splR_sc s (of_decide_eq_true h1)) rfl ?_
    rintro v0 T ⟨o, ho, x, hx, rfl, rfl⟩
    simp only [outT, List.mem_cons, List.mem_nil_iff, or_false] at ho
    rcases ho with rfl | rfl
    · exact ⟨(fun k hk => by cases hk), none, q1 hx, by simp [chN]⟩
    · refine ⟨(fun k hk => by simp at hk; subst hk; exact .inl rfl), _, q2 hx, ?_⟩
      show H ++ [(ABlk.cells (ts (split s)) eT false).ren _] = _
      rw [cells_ren (ts_flat _)]
      rfl
  · cases hs
theorem TLr_ok : SpecOk Tryd.prog (tabS TLr noS) := by
  refine tabS_ok (fun p hp => ?_) noS_ok
  simp only [TLr, List.mem_cons, List.mem_nil_iff, or_false] at hp
  rcases hp with rfl | rfl
  · exact eAllR_ok
  · exact eSplitR_ok
theorem eListR_ok : EntryOk Tryd.prog 22 eList := by
  intro args H sr hs K hk
  unfold eList at hs
  split at hs
  · rename_i nm
    cases hs
    refine (SC.flat (K := fun v' H' => v' = .nilsl ∧ H' = H) (SC.one (V := VLr) names0 mixed0 TLr_ok noO_ok (listRN_vc nm)) rfl ?_).mono ?_
    · rintro v0 T ⟨rfl, rfl⟩; exact ⟨(fun k hk => by cases hk), rfl, by simp⟩
    · rintro v H' ⟨rfl, rfl⟩; exact ⟨none, hk, rfl⟩
  · rename_i nm
    cases hs
    refine (SC.flat (K := fun v' H' => v' = .nilsl ∧ H' = H) (SC.one (V := VLr) names0 mixed0 TLr_ok noO_ok (listRZ_vc nm)) rfl ?_).mono ?_
    · rintro v0 T ⟨rfl, rfl⟩; exact ⟨(fun k hk => by cases hk), rfl, by simp⟩
    · rintro v H' ⟨rfl, rfl⟩; exact ⟨none, hk, rfl⟩
  · rename_i b n c ex nm
    split at hs
    · rename_i vs e ro hb
      cases hs
      obtain ⟨⟨g1, g4⟩, h2⟩ := hk
      obtain ⟨q1, q2⟩ := cond_dec h2
      obtain ⟨r, h1, hl, h3⟩ := fldOk_ex g1
      generalize fldT vs n = l at *
      subst h1
      subst hl
      have hsc : SC Tryd.prog 22 [.sl 0 0 l.length c ex, .str nm] [.cells (fieldC (l ++ r)) e ro] (outE (outL l r (listF l nm) e ro)) := SC.ofF (V := VLr) names0 mixed0 TLr_ok noO_ok (listR_vc l r nm e ro c ex h3 g4)
      refine SC.reads1 (b := b) (H := H) hsc (cells_ren (fieldC_flat _) e ro) (by simp) hb ?_
      rintro v0 H0' ⟨o, ho, x, hx, rfl, rfl⟩
      simp only [outL, List.mem_cons, List.mem_nil_iff, or_false] at ho
      rcases ho with rfl | rfl
      · exact ⟨[], rfl, (fun t ht => by cases ht), none, q1 hx, by simp [chN]⟩
      · refine ⟨[.cells (ts (listF l nm)) eT false], rfl, (fun t ht => by simp at ht; subst ht; exact .inl rfl), _, q2 hx, ?_⟩
        show H ++ [(ABlk.cells (ts (listF l nm)) eT false).ren _] = _
        rw [cells_ren (ts_flat _)]
        rfl
    · cases hs
  · cases hs
end Go.Proofs.YtciciemaldbidaaDoor

/- What vary.Key answers: the values of all the names as one text. -/
import Derived.Test.YtciciemaldbidaaGreatDoorKeyM
import Derived.Test.YtciciemaldbidaaGreatDoorItoaE
set_option linter.unusedSimpArgs false
set_option linter.unusedVariables false
namespace Go.Proofs.YtciciemaldbidaaGreatDoor
open Go Go.Ve
set_option maxRecDepth 20000
noncomputable def TKy : List (Nat × SpecE) := [(9, eVal), (21, flatE (g1 le40 fun s => .str (lower s))), (35, eIta)]
noncomputable def aKy (l : LL) (fa : FL) (nb : Nat) (kp : AH) : Anns := [(3, [
  .mk Unit (fun _ => [(11, .int .i64 0)]) (fun _ => none) (fun _ => True) (fun _ => l.length + 1) gcB gcB (fun _ => [(14, .str (l.getD 0 []))]) (fun _ => []),
  .mk Nat (fun i => [(11, .int .i64 ((i + 1 : Nat) : Int))]) (fun i => some (kp ++ [.cells [.ptr nb 0, .sl (nb + 1) 0 (keyT (l.take (i + 1)) fa).length (keyT (l.take (i + 1)) fa).length false] eBl false, .cells (bs (keyT (l.take (i + 1)) fa)) eU8 false])) (fun i => i + 1 ≤ l.length) (fun i => l.length - i) (some [999997, nb]) (some [999997, nb]) (fun i => [(14, .str (l.getD (i + 1) []))]) (fun _ => [])])]
noncomputable def faKy (l : LL) (fa : FL) (f : FuncId) : Option FA :=
  match Nat.beq f 36 with
  | true => some ⟨[(1, .tail 10)], [], [(13, .str (keyT l fa))]⟩
  | false => match Nat.beq f 34 with
    | true => some ⟨[], [], [(14, .nilsl)]⟩
    | false => some ⟨[], [], []⟩
noncomputable def VKy (l : LL) (fa : FL) : VE := ⟨Tryz.prog, tabS TKy noS, noO, faKy l fa⟩

noncomputable def vKyN  (l r : LL) (e : Nat) (ro : Bool) (c : Nat) (ex : Bool) (fT aT pT : List AV) : Prop := vcF (VKy l []) [] 300 (aKy l [] 4 [keepB, keepB, keepB, keepB]) [] 14 [.sl 3 0 l.length c ex, .nilsl] [gFst fT, gAcc aT, gPow pT, .cells (ts (l ++ r)) e ro] [⟨Unit, fun _ => .str (keyT l []), fun _ => [gFst fT, gAcc aT, gPow pT, .cells (ts (l ++ r)) e ro], fun _ => True, gcB⟩]
noncomputable def vKyA  (l r : LL) (e : Nat) (ro : Bool) (c : Nat) (ex : Bool) (fT aT pT : List AV) (fa ra : FL) (ea : Nat) (roa : Bool) (ca : Nat) (exa : Bool) : Prop := vcF (VKy l fa) [] 300 (aKy l fa 5 [keepB, keepB, keepB, keepB, keepB]) [] 14 [.sl 3 0 l.length c ex, .sl 4 0 fa.length ca exa] [gFst fT, gAcc aT, gPow pT, .cells (ts (l ++ r)) e ro, .cells (fieldC (fa ++ ra)) ea roa] [⟨Unit, fun _ => .str (keyT l fa), fun _ => [gFst fT, gAcc aT, gPow pT, .cells (ts (l ++ r)) e ro, .cells (fieldC (fa ++ ra)) ea roa], fun _ => True, gcB⟩]
def gqKeyK0 : Nat → Nat := (fun (b : Nat) => [0, 1, 2, 3, 4].getD b 5)
def gqKeyK1 : Nat → Nat := (fun (b : Nat) => [0, 1, 2, 3, 4].getD b 6)
def gqKeyK2 : Nat → Nat := (fun (b : Nat) => [0, 1, 2, 3, 4, 5].getD b 6)
def gqKeyK3 : Nat → Nat := (fun (b : Nat) => [0, 1, 2, 3].getD b 5)
def gqKeyK4 : Nat → Nat := (fun (b : Nat) => [0, 1, 2, 3, 4].getD b 7)
def gqKeyK5 : Nat → Nat := (fun (b : Nat) => [0, 1, 2, 3, 4, 6].getD b 7)
def gqKeyK6 : Nat → Nat := (fun (b : Nat) => [0, 1, 2, 3].getD b 6)
def gqKeyK7 : Nat → Nat := (fun (b : Nat) => [0, 1, 2, 3, 4, 5].getD b 7)
def gqKeyK8 : Nat → Nat := (fun (b : Nat) => [0, 1, 2, 3, 4, 5, 6].getD b 7)
def gqKeyK9 : Nat → Nat := (fun (b : Nat) => [0, 1, 2, 3, 4, 5].getD b 8)
def gqKeyK10 : Nat → Nat := (fun (b : Nat) => [0, 1, 2, 3, 4, 5, 7].getD b 8)
theorem vKyN_eq  (l r : LL) (e : Nat) (ro : Bool) (c : Nat) (ex : Bool) (fT aT pT : List AV) : vKyN l r e ro c ex fT aT pT = (((∃ (_x : Unit), True ∧ ((2 = 2 ∧ cellsP gqKeyK0 fT fT) ∧ (3 = 3 ∧ cellsP gqKeyK0 aT aT) ∧ (1 = 1 ∧ cellsP gqKeyK0 pT pT) ∧ (bif e.beq e && sameB ro ro then cellsP gqKeyK0 (ts (l ++ r)) (ts (l ++ r)) ∧ True else False) ∧ ((True ∧ True ∧ True) ∧ True) ∧ True) ∧ (0 : Int) = (0 : Int) ∧ True) ∨ ∃ (x : Nat), x + 1 ≤ List.length l ∧ False) ∧ (∀ (x : Unit), True → bif ltI (0 : Int) (ic (List.length l)) then bif ltI (0 : Int) (ic (List.length l)) then (ts (l ++ r))[0]? = some (AV.str (List.getD l 0 [])) ∧ bif le40 (List.getD l 0 []) then bif decide ((lower (List.getD l 0 [])).length + 1 ≤ 9223372036854775807) then (pT = powF ∧ (-9223372036854775808 : Int) ≤ (1 : Int) ∧ (1 : Int) ≤ (9223372036854775807 : Int)) ∧ bif decide ((lower (List.getD l 0 []) ++ [(58 : UInt8)]).length + 1 ≤ 9223372036854775807) then bif decide ((lower (List.getD l 0 []) ++ [(58 : UInt8)] ++ Lib.itoa (1 : Int)).length + 1 ≤ 9223372036854775807) then bif decide ((lower (List.getD l 0 []) ++ [(58 : UInt8)] ++ Lib.itoa (1 : Int) ++ [(58 : UInt8)]).length + 1 ≤ 9223372036854775807) then bif decide ((lower (List.getD l 0 []) ++ [(58 : UInt8)] ++ Lib.itoa (1 : Int) ++ [(58 : UInt8)] ++ [(45 : UInt8)]).length + 1 ≤ 9223372036854775807) then bif !decide ((lower (List.getD l 0 []) ++ [(58 : UInt8)] ++ Lib.itoa (1 : Int) ++ [(58 : UInt8)] ++ [(45 : UInt8)] ++ [(10 : UInt8)]).length = 0) then bif decide ((lower (List.getD l 0 []) ++ [(58 : UInt8)] ++ Lib.itoa (1 : Int) ++ [(58 : UInt8)] ++ [(45 : UInt8)] ++ [(10 : UInt8)]).length ≤ 9223372036854775807) && decide ((lower (List.getD l 0 []) ++ [(58 : UInt8)] ++ Lib.itoa (1 : Int) ++ [(58 : UInt8)] ++ [(45 : UInt8)] ++ [(10 : UInt8)]).length * 1 ≤ 140737488355328) then (∃ (_x : Unit), True ∧ List.length l + 1 < List.length l + 1 ∧ ((2 = 2 ∧ cellsP gqKeyK1 fT fT) ∧ (3 = 3 ∧ cellsP gqKeyK1 aT aT) ∧ (1 = 1 ∧ cellsP gqKeyK1 pT pT) ∧ (bif e.beq e && sameB ro ro then cellsP gqKeyK1 (ts (l ++ r)) (ts (l ++ r)) ∧ True else False) ∧ ((False ∧ False ∧ True) ∧ True) ∧ True) ∧ (1 : Int) = (0 : Int) ∧ True) ∨ ∃ (y : Nat), y + 1 ≤ List.length l ∧ List.length l - y < List.length l + 1 ∧ ((2 = 2 ∧ cellsP gqKeyK2 fT fT) ∧ (3 = 3 ∧ cellsP gqKeyK2 aT aT) ∧ (1 = 1 ∧ cellsP gqKeyK2 pT pT) ∧ (bif e.beq e && sameB ro ro then cellsP gqKeyK2 (ts (l ++ r)) (ts (l ++ r)) ∧ True else False) ∧ ((0 = 0 ∧ (0 = 0 ∧ (lower (List.getD l 0 []) ++ [(58 : UInt8)] ++ Lib.itoa (1 : Int) ++ [(58 : UInt8)] ++ [(45 : UInt8)] ++ [(10 : UInt8)]).length = (keyT (List.take (y + 1) l) []).length ∧ (lower (List.getD l 0 []) ++ [(58 : UInt8)] ++ Lib.itoa (1 : Int) ++ [(58 : UInt8)] ++ [(45 : UInt8)] ++ [(10 : UInt8)]).length = (keyT (List.take (y + 1) l) []).length ∧ false = false) ∧ True) ∧ True) ∧ (cellsP gqKeyK2 (bs (keyT (List.take (y + 1) l) [])) (List.map (fun (c : UInt8) => AV.int IntKind.u8 (ic c.toNat)) (lower (List.getD l 0 []) ++ [(58 : UInt8)] ++ Lib.itoa (1 : Int) ++ [(58 : UInt8)] ++ [(45 : UInt8)] ++ [(10 : UInt8)])) ∧ True) ∧ True) ∧ (1 : Int) = ic (y + 1) ∧ True else False else False else False else False else False else False else False else False else False else some (AO.val (AV.str []) none) = some (AO.val (AV.str (keyT l [])) none) ∧ ∃ (_x : Unit), True ∧ ((2 = 2 ∧ cellsP gqKeyK3 fT fT) ∧ (3 = 3 ∧ cellsP gqKeyK3 aT aT) ∧ (1 = 1 ∧ cellsP gqKeyK3 pT pT) ∧ (bif e.beq e && sameB ro ro then cellsP gqKeyK3 (ts (l ++ r)) (ts (l ++ r)) ∧ True else False) ∧ True) ∧ keyT l [] = keyT l [] ∧ True) ∧ ∀ (x : Nat), x + 1 ≤ List.length l → bif ltI (ic (x + 1)) (ic (List.length l)) then bif ltI (ic (x + 1)) (ic (List.length l)) then (ts (l ++ r))[0 + (x + 1) * 1]? = some (AV.str (List.getD l (x + 1) [])) ∧ bif le40 (List.getD l (x + 1) []) then bif decide ((lower (List.getD l (x + 1) [])).length + 1 ≤ 9223372036854775807) then (pT = powF ∧ (-9223372036854775808 : Int) ≤ (1 : Int) ∧ (1 : Int) ≤ (9223372036854775807 : Int)) ∧ bif decide ((lower (List.getD l (x + 1) []) ++ [(58 : UInt8)]).length + 1 ≤ 9223372036854775807) then bif decide ((lower (List.getD l (x + 1) []) ++ [(58 : UInt8)] ++ Lib.itoa (1 : Int)).length + 1 ≤ 9223372036854775807) then bif decide ((lower (List.getD l (x + 1) []) ++ [(58 : UInt8)] ++ Lib.itoa (1 : Int) ++ [(58 : UInt8)]).length + 1 ≤ 9223372036854775807) then bif decide ((lower (List.getD l (x + 1) []) ++ [(58 : UInt8)] ++ Lib.itoa (1 : Int) ++ [(58 : UInt8)] ++ [(45 : UInt8)]).length + 1 ≤ 9223372036854775807) then bif decide ((keyT (List.take (x + 1) l) []).length ≤ (keyT (List.take (x + 1) l) []).length) && decide (0 + (keyT (List.take (x + 1) l) []).length * 1 ≤ (bs (keyT (List.take (x + 1) l) [])).length) then bif decide ((keyT (List.take (x + 1) l) []).length < (keyT (List.take (x + 1) l) []).length + (lower (List.getD l (x + 1) []) ++ [(58 : UInt8)] ++ Lib.itoa (1 : Int) ++ [(58 : UInt8)] ++ [(45 : UInt8)] ++ [(10 : UInt8)]).length) then bif decide ((keyT (List.take (x + 1) l) []).length + (lower (List.getD l (x + 1) []) ++ [(58 : UInt8)] ++ Lib.itoa (1 : Int) ++ [(58 : UInt8)] ++ [(45 : UInt8)] ++ [(10 : UInt8)]).length ≤ 9223372036854775807) && decide (((keyT (List.take (x + 1) l) []).length + (lower (List.getD l (x + 1) []) ++ [(58 : UInt8)] ++ Lib.itoa (1 : Int) ++ [(58 : UInt8)] ++ [(45 : UInt8)] ++ [(10 : UInt8)]).length) * 1 ≤ 140737488355328) then bif decide ((keyT (List.take (x + 1) l) []).length = (keyT (List.take (x + 1) l) []).length) && (decide (0 + (keyT (List.take (x + 1) l) []).length * 1 = (bs (keyT (List.take (x + 1) l) [])).length) && AV.allOne (List.map (fun (c : UInt8) => AV.int IntKind.u8 (ic c.toNat)) (lower (List.getD l (x + 1) []) ++ [(58 : UInt8)] ++ Lib.itoa (1 : Int) ++ [(58 : UInt8)] ++ [(45 : UInt8)] ++ [(10 : UInt8)]))) then bif leI (ic (x + 1) + (1 : Int)) (9223372036854775807 : Int) then (∃ (_x : Unit), True ∧ List.length l + 1 < List.length l - x ∧ ((2 = 2 ∧ cellsP gqKeyK4 fT fT) ∧ (3 = 3 ∧ cellsP gqKeyK4 aT aT) ∧ (1 = 1 ∧ cellsP gqKeyK4 pT pT) ∧ (bif e.beq e && sameB ro ro then cellsP gqKeyK4 (ts (l ++ r)) (ts (l ++ r)) ∧ True else False) ∧ ((False ∧ False ∧ True) ∧ True) ∧ True) ∧ ic (x + 1) + (1 : Int) = (0 : Int) ∧ True) ∨ ∃ (y : Nat), y + 1 ≤ List.length l ∧ List.length l - y < List.length l - x ∧ ((2 = 2 ∧ cellsP gqKeyK5 fT fT) ∧ (3 = 3 ∧ cellsP gqKeyK5 aT aT) ∧ (1 = 1 ∧ cellsP gqKeyK5 pT pT) ∧ (bif e.beq e && sameB ro ro then cellsP gqKeyK5 (ts (l ++ r)) (ts (l ++ r)) ∧ True else False) ∧ ((0 = 0 ∧ (0 = 0 ∧ (keyT (List.take (x + 1) l) []).length + (lower (List.getD l (x + 1) []) ++ [(58 : UInt8)] ++ Lib.itoa (1 : Int) ++ [(58 : UInt8)] ++ [(45 : UInt8)] ++ [(10 : UInt8)]).length = (keyT (List.take (y + 1) l) []).length ∧ (keyT (List.take (x + 1) l) []).length + (lower (List.getD l (x + 1) []) ++ [(58 : UInt8)] ++ Lib.itoa (1 : Int) ++ [(58 : UInt8)] ++ [(45 : UInt8)] ++ [(10 : UInt8)]).length = (keyT (List.take (y + 1) l) []).length ∧ false = false) ∧ True) ∧ True) ∧ (cellsP gqKeyK5 (bs (keyT (List.take (y + 1) l) [])) (List.drop 0 (bs (keyT (List.take (x + 1) l) [])) ++ List.map (fun (c : UInt8) => AV.int IntKind.u8 (ic c.toNat)) (lower (List.getD l (x + 1) []) ++ [(58 : UInt8)] ++ Lib.itoa (1 : Int) ++ [(58 : UInt8)] ++ [(45 : UInt8)] ++ [(10 : UInt8)])) ∧ True) ∧ True) ∧ ic (x + 1) + (1 : Int) = ic (y + 1) ∧ True else False else False else False else False else False else False else False else False else False else False else False else False else bif Nat.ble 1 (keyT (List.take (x + 1) l) []).length then ((0 : Int) < ic (keyT (List.take (x + 1) l) []).length ∧ ic (keyT (List.take (x + 1) l) []).length ≤ (9223372036854775807 : Int) ∧ 0 + (keyT (List.take (x + 1) l) []).length ≤ (bs (keyT (List.take (x + 1) l) [])).length) ∧ abytes (List.take (keyT (List.take (x + 1) l) []).length (List.drop 0 (bs (keyT (List.take (x + 1) l) [])))) = some (keyT l []) ∧ ∃ (_x : Unit), True ∧ ((2 = 2 ∧ cellsP gqKeyK6 fT fT) ∧ (3 = 3 ∧ cellsP gqKeyK6 aT aT) ∧ (1 = 1 ∧ cellsP gqKeyK6 pT pT) ∧ (bif e.beq e && sameB ro ro then cellsP gqKeyK6 (ts (l ++ r)) (ts (l ++ r)) ∧ True else False) ∧ True) ∧ keyT l [] = keyT l [] ∧ True else False) := by kernel_rfl
theorem vKyA_eq  (l r : LL) (e : Nat) (ro : Bool) (c : Nat) (ex : Bool) (fT aT pT : List AV) (fa ra : FL) (ea : Nat) (roa : Bool) (ca : Nat) (exa : Bool) : vKyA l r e ro c ex fT aT pT fa ra ea roa ca exa = (((∃ (_x : Unit), True ∧ ((2 = 2 ∧ cellsP gqKeyK2 fT fT) ∧ (3 = 3 ∧ cellsP gqKeyK2 aT aT) ∧ (1 = 1 ∧ cellsP gqKeyK2 pT pT) ∧ (bif e.beq e && sameB ro ro then cellsP gqKeyK2 (ts (l ++ r)) (ts (l ++ r)) ∧ True else False) ∧ (bif ea.beq ea && sameB roa roa then cellsP gqKeyK2 (fieldC (fa ++ ra)) (fieldC (fa ++ ra)) ∧ True else False) ∧ ((True ∧ True ∧ True) ∧ True) ∧ True) ∧ (0 : Int) = (0 : Int) ∧ True) ∨ ∃ (x : Nat), x + 1 ≤ List.length l ∧ False) ∧ (∀ (x : Unit), True → bif ltI (0 : Int) (ic (List.length l)) then bif ltI (0 : Int) (ic (List.length l)) then (ts (l ++ r))[0]? = some (AV.str (List.getD l 0 [])) ∧ (utf8T fT aT ∧ fldOk (fieldC (fa ++ ra)) (List.length fa) ∧ le40 (List.getD l 0 []) = true) ∧ bif le40 (List.getD l 0 []) then bif decide ((lower (List.getD l 0 [])).length + 1 ≤ 9223372036854775807) then (pT = powF ∧ (-9223372036854775808 : Int) ≤ ic (valT (fldT (fieldC (fa ++ ra)) (List.length fa)) (List.getD l 0 [])).length ∧ ic (valT (fldT (fieldC (fa ++ ra)) (List.length fa)) (List.getD l 0 [])).length ≤ (9223372036854775807 : Int)) ∧ bif decide ((lower (List.getD l 0 []) ++ [(58 : UInt8)]).length + (Lib.itoa (ic (valT (fldT (fieldC (fa ++ ra)) (List.length fa)) (List.getD l 0 [])).length)).length ≤ 9223372036854775807) then bif decide ((lower (List.getD l 0 []) ++ [(58 : UInt8)] ++ Lib.itoa (ic (valT (fldT (fieldC (fa ++ ra)) (List.length fa)) (List.getD l 0 [])).length)).length + 1 ≤ 9223372036854775807) then bif decide ((lower (List.getD l 0 []) ++ [(58 : UInt8)] ++ Lib.itoa (ic (valT (fldT (fieldC (fa ++ ra)) (List.length fa)) (List.getD l 0 [])).length) ++ [(58 : UInt8)]).length + (valT (fldT (fieldC (fa ++ ra)) (List.length fa)) (List.getD l 0 [])).length ≤ 9223372036854775807) then bif decide ((lower (List.getD l 0 []) ++ [(58 : UInt8)] ++ Lib.itoa (ic (valT (fldT (fieldC (fa ++ ra)) (List.length fa)) (List.getD l 0 [])).length) ++ [(58 : UInt8)] ++ valT (fldT (fieldC (fa ++ ra)) (List.length fa)) (List.getD l 0 [])).length + 1 ≤ 9223372036854775807) then bif !decide ((lower (List.getD l 0 []) ++ [(58 : UInt8)] ++ Lib.itoa (ic (valT (fldT (fieldC (fa ++ ra)) (List.length fa)) (List.getD l 0 [])).length) ++ [(58 : UInt8)] ++ valT (fldT (fieldC (fa ++ ra)) (List.length fa)) (List.getD l 0 []) ++ [(10 : UInt8)]).length = 0) then bif decide ((lower (List.getD l 0 []) ++ [(58 : UInt8)] ++ Lib.itoa (ic (valT (fldT (fieldC (fa ++ ra)) (List.length fa)) (List.getD l 0 [])).length) ++ [(58 : UInt8)] ++ valT (fldT (fieldC (fa ++ ra)) (List.length fa)) (List.getD l 0 []) ++ [(10 : UInt8)]).length ≤ 9223372036854775807) && decide ((lower (List.getD l 0 []) ++ [(58 : UInt8)] ++ Lib.itoa (ic (valT (fldT (fieldC (fa ++ ra)) (List.length fa)) (List.getD l 0 [])).length) ++ [(58 : UInt8)] ++ valT (fldT (fieldC (fa ++ ra)) (List.length fa)) (List.getD l 0 []) ++ [(10 : UInt8)]).length * 1 ≤ 140737488355328) then (∃ (_x : Unit), True ∧ List.length l + 1 < List.length l + 1 ∧ ((2 = 2 ∧ cellsP gqKeyK7 fT fT) ∧ (3 = 3 ∧ cellsP gqKeyK7 aT aT) ∧ (1 = 1 ∧ cellsP gqKeyK7 pT pT) ∧ (bif e.beq e && sameB ro ro then cellsP gqKeyK7 (ts (l ++ r)) (ts (l ++ r)) ∧ True else False) ∧ (bif ea.beq ea && sameB roa roa then cellsP gqKeyK7 (fieldC (fa ++ ra)) (fieldC (fa ++ ra)) ∧ True else False) ∧ ((False ∧ False ∧ True) ∧ True) ∧ True) ∧ (1 : Int) = (0 : Int) ∧ True) ∨ ∃ (y : Nat), y + 1 ≤ List.length l ∧ List.length l - y < List.length l + 1 ∧ ((2 = 2 ∧ cellsP gqKeyK8 fT fT) ∧ (3 = 3 ∧ cellsP gqKeyK8 aT aT) ∧ (1 = 1 ∧ cellsP gqKeyK8 pT pT) ∧ (bif e.beq e && sameB ro ro then cellsP gqKeyK8 (ts (l ++ r)) (ts (l ++ r)) ∧ True else False) ∧ (bif ea.beq ea && sameB roa roa then cellsP gqKeyK8 (fieldC (fa ++ ra)) (fieldC (fa ++ ra)) ∧ True else False) ∧ ((0 = 0 ∧ (0 = 0 ∧ (lower (List.getD l 0 []) ++ [(58 : UInt8)] ++ Lib.itoa (ic (valT (fldT (fieldC (fa ++ ra)) (List.length fa)) (List.getD l 0 [])).length) ++ [(58 : UInt8)] ++ valT (fldT (fieldC (fa ++ ra)) (List.length fa)) (List.getD l 0 []) ++ [(10 : UInt8)]).length = (keyT (List.take (y + 1) l) fa).length ∧ (lower (List.getD l 0 []) ++ [(58 : UInt8)] ++ Lib.itoa (ic (valT (fldT (fieldC (fa ++ ra)) (List.length fa)) (List.getD l 0 [])).length) ++ [(58 : UInt8)] ++ valT (fldT (fieldC (fa ++ ra)) (List.length fa)) (List.getD l 0 []) ++ [(10 : UInt8)]).length = (keyT (List.take (y + 1) l) fa).length ∧ false = false) ∧ True) ∧ True) ∧ (cellsP gqKeyK8 (bs (keyT (List.take (y + 1) l) fa)) (List.map (fun (c : UInt8) => AV.int IntKind.u8 (ic c.toNat)) (lower (List.getD l 0 []) ++ [(58 : UInt8)] ++ Lib.itoa (ic (valT (fldT (fieldC (fa ++ ra)) (List.length fa)) (List.getD l 0 [])).length) ++ [(58 : UInt8)] ++ valT (fldT (fieldC (fa ++ ra)) (List.length fa)) (List.getD l 0 []) ++ [(10 : UInt8)])) ∧ True) ∧ True) ∧ (1 : Int) = ic (y + 1) ∧ True else False else False else False else False else False else False else False else False else False else some (AO.val (AV.str []) none) = some (AO.val (AV.str (keyT l fa)) none) ∧ ∃ (_x : Unit), True ∧ ((2 = 2 ∧ cellsP gqKeyK1 fT fT) ∧ (3 = 3 ∧ cellsP gqKeyK1 aT aT) ∧ (1 = 1 ∧ cellsP gqKeyK1 pT pT) ∧ (bif e.beq e && sameB ro ro then cellsP gqKeyK1 (ts (l ++ r)) (ts (l ++ r)) ∧ True else False) ∧ (bif ea.beq ea && sameB roa roa then cellsP gqKeyK1 (fieldC (fa ++ ra)) (fieldC (fa ++ ra)) ∧ True else False) ∧ True) ∧ keyT l fa = keyT l fa ∧ True) ∧ ∀ (x : Nat), x + 1 ≤ List.length l → bif ltI (ic (x + 1)) (ic (List.length l)) then bif ltI (ic (x + 1)) (ic (List.length l)) then (ts (l ++ r))[0 + (x + 1) * 1]? = some (AV.str (List.getD l (x + 1) [])) ∧ (utf8T fT aT ∧ fldOk (fieldC (fa ++ ra)) (List.length fa) ∧ le40 (List.getD l (x + 1) []) = true) ∧ bif le40 (List.getD l (x + 1) []) then bif decide ((lower (List.getD l (x + 1) [])).length + 1 ≤ 9223372036854775807) then (pT = powF ∧ (-9223372036854775808 : Int) ≤ ic (valT (fldT (fieldC (fa ++ ra)) (List.length fa)) (List.getD l (x + 1) [])).length ∧ ic (valT (fldT (fieldC (fa ++ ra)) (List.length fa)) (List.getD l (x + 1) [])).length ≤ (9223372036854775807 : Int)) ∧ bif decide ((lower (List.getD l (x + 1) []) ++ [(58 : UInt8)]).length + (Lib.itoa (ic (valT (fldT (fieldC (fa ++ ra)) (List.length fa)) (List.getD l (x + 1) [])).length)).length ≤ 9223372036854775807) then bif decide ((lower (List.getD l (x + 1) []) ++ [(58 : UInt8)] ++ Lib.itoa (ic (valT (fldT (fieldC (fa ++ ra)) (List.length fa)) (List.getD l (x + 1) [])).length)).length + 1 ≤ 9223372036854775807) then bif decide ((lower (List.getD l (x + 1) []) ++ [(58 : UInt8)] ++ Lib.itoa (ic (valT (fldT (fieldC (fa ++ ra)) (List.length fa)) (List.getD l (x + 1) [])).length) ++ [(58 : UInt8)]).length + (valT (fldT (fieldC (fa ++ ra)) (List.length fa)) (List.getD l (x + 1) [])).length ≤ 9223372036854775807) then bif decide ((lower (List.getD l (x + 1) []) ++ [(58 : UInt8)] ++ Lib.itoa (ic (valT (fldT (fieldC (fa ++ ra)) (List.length fa)) (List.getD l (x + 1) [])).length) ++ [(58 : UInt8)] ++ valT (fldT (fieldC (fa ++ ra)) (List.length fa)) (List.getD l (x + 1) [])).length + 1 ≤ 9223372036854775807) then bif decide ((keyT (List.take (x + 1) l) fa).length ≤ (keyT (List.take (x + 1) l) fa).length) && decide (0 + (keyT (List.take (x + 1) l) fa).length * 1 ≤ (bs (keyT (List.take (x + 1) l) fa)).length) then bif decide ((keyT (List.take (x + 1) l) fa).length < (keyT (List.take (x + 1) l) fa).length + (lower (List.getD l (x + 1) []) ++ [(58 : UInt8)] ++ Lib.itoa (ic (valT (fldT (fieldC (fa ++ ra)) (List.length fa)) (List.getD l (x + 1) [])).length) ++ [(58 : UInt8)] ++ valT (fldT (fieldC (fa ++ ra)) (List.length fa)) (List.getD l (x + 1) []) ++ [(10 : UInt8)]).length) then bif decide ((keyT (List.take (x + 1) l) fa).length + (lower (List.getD l (x + 1) []) ++ [(58 : UInt8)] ++ Lib.itoa (ic (valT (fldT (fieldC (fa ++ ra)) (List.length fa)) (List.getD l (x + 1) [])).length) ++ [(58 : UInt8)] ++ valT (fldT (fieldC (fa ++ ra)) (List.length fa)) (List.getD l (x + 1) []) ++ [(10 : UInt8)]).length ≤ 9223372036854775807) && decide (((keyT (List.take (x + 1) l) fa).length + (lower (List.getD l (x + 1) []) ++ [(58 : UInt8)] ++ Lib.itoa (ic (valT (fldT (fieldC (fa ++ ra)) (List.length fa)) (List.getD l (x + 1) [])).length) ++ [(58 : UInt8)] ++ valT (fldT (fieldC (fa ++ ra)) (List.length fa)) (List.getD l (x + 1) []) ++ [(10 : UInt8)]).length) * 1 ≤ 140737488355328) then bif decide ((keyT (List.take (x + 1) l) fa).length = (keyT (List.take (x + 1) l) fa).length) && (decide (0 + (keyT (List.take (x + 1) l) fa).length * 1 = (bs (keyT (List.take (x + 1) l) fa)).length) && AV.allOne (List.map (fun (c : UInt8) => AV.int IntKind.u8 (ic c.toNat)) (lower (List.getD l (x + 1) []) ++ [(58 : UInt8)] ++ Lib.itoa (ic (valT (fldT (fieldC (fa ++ ra)) (List.length fa)) (List.getD l (x + 1) [])).length) ++ [(58 : UInt8)] ++ valT (fldT (fieldC (fa ++ ra)) (List.length fa)) (List.getD l (x + 1) []) ++ [(10 : UInt8)]))) then bif leI (ic (x + 1) + (1 : Int)) (9223372036854775807 : Int) then (∃ (_x : Unit), True ∧ List.length l + 1 < List.length l - x ∧ ((2 = 2 ∧ cellsP gqKeyK9 fT fT) ∧ (3 = 3 ∧ cellsP gqKeyK9 aT aT) ∧ (1 = 1 ∧ cellsP gqKeyK9 pT pT) ∧ (bif e.beq e && sameB ro ro then cellsP gqKeyK9 (ts (l ++ r)) (ts (l ++ r)) ∧ True else False) ∧ (bif ea.beq ea && sameB roa roa then cellsP gqKeyK9 (fieldC (fa ++ ra)) (fieldC (fa ++ ra)) ∧ True else False) ∧ ((False ∧ False ∧ True) ∧ True) ∧ True) ∧ ic (x + 1) + (1 : Int) = (0 : Int) ∧ True) ∨ ∃ (y : Nat), y + 1 ≤ List.length l ∧ List.length l - y < List.length l - x ∧ ((2 = 2 ∧ cellsP gqKeyK10 fT fT) ∧ (3 = 3 ∧ cellsP gqKeyK10 aT aT) ∧ (1 = 1 ∧ cellsP gqKeyK10 pT pT) ∧ (bif e.beq e && sameB ro ro then cellsP gqKeyK10 (ts (l ++ r)) (ts (l ++ r)) ∧ True else False) ∧ (bif ea.beq ea && sameB roa roa then cellsP gqKeyK10 (fieldC (fa ++ ra)) (fieldC (fa ++ ra)) ∧ True else False) ∧ ((0 = 0 ∧ (0 = 0 ∧ (keyT (List.take (x + 1) l) fa).length + (lower (List.getD l (x + 1) []) ++ [(58 : UInt8)] ++ Lib.itoa (ic (valT (fldT (fieldC (fa ++ ra)) (List.length fa)) (List.getD l (x + 1) [])).length) ++ [(58 : UInt8)] ++ valT (fldT (fieldC (fa ++ ra)) (List.length fa)) (List.getD l (x + 1) []) ++ [(10 : UInt8)]).length = (keyT (List.take (y + 1) l) fa).length ∧ (keyT (List.take (x + 1) l) fa).length + (lower (List.getD l (x + 1) []) ++ [(58 : UInt8)] ++ Lib.itoa (ic (valT (fldT (fieldC (fa ++ ra)) (List.length fa)) (List.getD l (x + 1) [])).length) ++ [(58 : UInt8)] ++ valT (fldT (fieldC (fa ++ ra)) (List.length fa)) (List.getD l (x + 1) []) ++ [(10 : UInt8)]).length = (keyT (List.take (y + 1) l) fa).length ∧ false = false) ∧ True) ∧ True) ∧ (cellsP gqKeyK10 (bs (keyT (List.take (y + 1) l) fa)) (List.drop 0 (bs (keyT (List.take (x + 1) l) fa)) ++ List.map (fun (c : UInt8) => AV.int IntKind.u8 (ic c.toNat)) (lower (List.getD l (x + 1) []) ++ [(58 : UInt8)] ++ Lib.itoa (ic (valT (fldT (fieldC (fa ++ ra)) (List.length fa)) (List.getD l (x + 1) [])).length) ++ [(58 : UInt8)] ++ valT (fldT (fieldC (fa ++ ra)) (List.length fa)) (List.getD l (x + 1) []) ++ [(10 : UInt8)])) ∧ True) ∧ True) ∧ ic (x + 1) + (1 : Int) = ic (y + 1) ∧ True else False else False else False else False else False else False else False else False else False else False else False else False else bif Nat.ble 1 (keyT (List.take (x + 1) l) fa).length then ((0 : Int) < ic (keyT (List.take (x + 1) l) fa).length ∧ ic (keyT (List.take (x + 1) l) fa).length ≤ (9223372036854775807 : Int) ∧ 0 + (keyT (List.take (x + 1) l) fa).length ≤ (bs (keyT (List.take (x + 1) l) fa)).length) ∧ abytes (List.take (keyT (List.take (x + 1) l) fa).length (List.drop 0 (bs (keyT (List.take (x + 1) l) fa)))) = some (keyT l fa) ∧ ∃ (_x : Unit), True ∧ ((2 = 2 ∧ cellsP gqKeyK4 fT fT) ∧ (3 = 3 ∧ cellsP gqKeyK4 aT aT) ∧ (1 = 1 ∧ cellsP gqKeyK4 pT pT) ∧ (bif e.beq e && sameB ro ro then cellsP gqKeyK4 (ts (l ++ r)) (ts (l ++ r)) ∧ True else False) ∧ (bif ea.beq ea && sameB roa roa then cellsP gqKeyK4 (fieldC (fa ++ ra)) (fieldC (fa ++ ra)) ∧ True else False) ∧ True) ∧ keyT l fa = keyT l fa ∧ True else False) := by kernel_rfl
theorem bs_any (l : List UInt8) : List.map (fun c : UInt8 => AV.int IntKind.u8 (c.toNat : Int)) l = bs l := rfl
theorem keyE_eq (n v : List UInt8) : (((((lower n ++ [58]) ++ Lib.itoa (v.length : Int)) ++ [58]) ++ v) ++ [10]) = keyE n v := rfl
theorem keyE_nil (n : List UInt8) : (((((lower n ++ [58]) ++ Lib.itoa 1) ++ [58]) ++ [45]) ++ [10]) = keyE n [45] := rfl
theorem keyT_one {l : LL} {fa : FL} (h : 0 < l.length) : keyT (l.take 1) fa = keyE (l.getD 0 []) (valT fa (l.getD 0 [])) := by
  have := keyT_step (l := fa) h
  rw [this]
  simp [keyT]
theorem keyT_len {fa : FL} (hfa : totL fa ≤ 274877906944) {l : LL} (hl : ∀ s ∈ l, s.length ≤ 300) : (keyT l fa).length ≤ 4398046512000 * l.length := by
  induction l with
  | nil => simp [keyT]
  | cons a r ih =>
    have h1 := ih (fun s hs => hl s (List.mem_cons_of_mem _ hs))
    have h2 := val_le hfa a
    have h3 := keyE_len a (valT fa a) h2
    have h4 := hl a (List.mem_cons_self ..)
    have e : keyT (a :: r) fa = keyE a (valT fa a) ++ keyT r fa := by simp [keyT]
    rw [e, List.length_append, List.length_cons]
    omega
theorem pow_flat : AV.flats powF = true := by decide +kernel
theorem lower_len (n : List UInt8) : (lower n).length = n.length := by simp [lower]
theorem key_bd {fa : FL} (hfa : totL fa ≤ 274877906944) {l : LL} (hl : ∀ s ∈ l, s.length ≤ 300) {i : Nat} (hi : i < l.length) : le40 (l.getD i []) = true ∧ (l.getD i []).length ≤ 300 ∧ (valT fa (l.getD i [])).length ≤ 4398046511104 ∧ (Lib.itoa ((valT fa (l.getD i [])).length : Int)).length ≤ 21 ∧ (keyE (l.getD i []) (valT fa (l.getD i []))).length ≤ 4398046512000 ∧ (keyE (l.getD i []) (valT fa (l.getD i []))).length ≠ 0 := by
  have h1 := hl _ (getD_mem hi)
  have h2 := val_le hfa (l.getD i [])
  have h3 := Lib.itoa_length_le ((valT fa (l.getD i [])).length : Int) (by omega) (by omega)
  have h4 := keyE_len (l.getD i []) (valT fa (l.getD i [])) h2
  refine ⟨decide_eq_true (by omega), h1, h2, h3, by omega, ?_⟩
  simp only [keyE, List.length_append, List.length_cons, List.length_nil]; omega
theorem kyA_vc (l r : LL) (e : Nat) (ro : Bool) (c : Nat) (ex : Bool) (fT aT pT : List AV) (fa ra : FL) (ea : Nat) (roa : Bool) (ca : Nat) (exa : Bool) (hn : l.length ≤ 20) (hl : ∀ s ∈ l, s.length ≤ 300) (hT : utf8T fT aT) (hp : pT = powF) (hfa : totL fa ≤ 274877906944) : vKyA l r e ro c ex fT aT pT fa ra ea roa ca exa := by
  subst hp
  have hf : ∀ σ, cellsP σ fT fT = True := fun σ => eq_true (cells_refl (by rw [hT.1]; exact flats_ints _ _))
  have ha : ∀ σ, cellsP σ aT aT = True := fun σ => eq_true (cells_refl (by rw [hT.2]; exact flats_pairs _ _ _))
  have hpp : ∀ σ, cellsP σ powF powF = True := fun σ => eq_true (cells_refl pow_flat)
  rw [vKyA_eq]
  simp only [ic, cond_F, sameB_self, Nat.beq_refl]
  simp only [cond_P, leI_t, leI_f, ltI_t, ltI_f, eqI_t, eqI_f, and_t, not_t, not_f, dec_t, dec_f, Nat.zero_add, Nat.mul_one, List.drop_zero]
  simp only [cells_tsr, cells_fld, take_ts, ts_length, and_true, true_and, and_false, false_and, or_false, false_or, exists_false, Nat.le_refl, exists_const, false_implies, not_false_eq_true, true_implies, fldT_at, fldOk_at, getS_ts]
  simp only [hf, ha, hpp, hT, hfa, keyE_eq, bs_any, bs_length, and_true, true_and]
  have hbd := fun i (hi : i < l.length) => key_bd hfa hl hi
  have hkt : ∀ k, (keyT (l.take k) fa).length ≤ 87960930240000 := fun k => by
    have h1 := keyT_len hfa (l := l.take k) (fun s hs => hl s (List.mem_of_mem_take hs))
    have h2 : (l.take k).length ≤ 20 := by rw [List.length_take]; omega
    omega
  refine ⟨fun _ => ⟨fun hlt => ?_, fun hge => ?_⟩, fun x hx => ⟨fun hlt => ?_, fun hge => ?_⟩⟩
  · have hp : 0 < l.length := by omega
    obtain ⟨h1, h2, h3, h4, h5, h6⟩ := hbd 0 hp
    have hk := keyT_one (fa := fa) hp
    refine ⟨hlt, getL hp, h1, h1, ?_, ⟨by omega, by omega⟩, ?_, ?_, ?_, ?_, h6, ⟨by omega, by omega⟩, 0, by omega, by omega, ⟨⟨by rw [hk], by rw [hk]⟩, by rw [hk]; exact cellsP_flat (bs_flat _) rfl⟩, rfl⟩ <;> simp only [List.length_append, List.length_cons, List.length_nil, lower_len] <;> omega
  · have : l = [] := List.length_eq_zero_iff.1 (by omega)
    subst this
    rfl
  · have hp : x + 1 < l.length := by omega
    obtain ⟨h1, h2, h3, h4, h5, h6⟩ := hbd (x + 1) hp
    have hk := keyT_step (l := fa) hp
    have hb1 := hkt (x + 1)
    refine ⟨hlt, getL hp, h1, h1, ?_, ⟨by omega, by omega⟩, ?_, ?_, ?_, ?_, by omega, by omega, ⟨by omega, by omega⟩, one_bs _, by omega, x + 1, by omega, by omega, ⟨⟨by rw [hk, List.length_append], by rw [hk, List.length_append]⟩, by rw [hk, ← bs_app]; exact cellsP_flat (bs_flat _) rfl⟩, by omega⟩ <;> simp only [List.length_append, List.length_cons, List.length_nil, lower_len] <;> omega
  · have he : l.take (x + 1) = l := List.take_of_length_le (by omega)
    obtain ⟨_, _, _, _, _, h6⟩ := hbd x (by omega)
    have hk := keyT_step (l := fa) (x := x) (ns := l) (by omega)
    have hb1 := hkt (x + 1)
    rw [he] at hk hb1 ⊢
    have hk2 := congrArg List.length hk
    rw [List.length_append] at hk2
    exact ⟨Nat.ble_eq_true_of_le (by omega), ⟨by omega, by omega, Nat.le_refl _⟩, bs_take _ _ rfl⟩
theorem kyN_vc (l r : LL) (e : Nat) (ro : Bool) (c : Nat) (ex : Bool) (fT aT pT : List AV) (hn : l.length ≤ 20) (hl : ∀ s ∈ l, s.length ≤ 300) (hT : utf8T fT aT) (hp : pT = powF) : vKyN l r e ro c ex fT aT pT := by
  subst hp
  have hf : ∀ σ, cellsP σ fT fT = True := fun σ => eq_true (cells_refl (by rw [hT.1]; exact flats_ints _ _))
  have ha : ∀ σ, cellsP σ aT aT = True := fun σ => eq_true (cells_refl (by rw [hT.2]; exact flats_pairs _ _ _))
  have hpp : ∀ σ, cellsP σ powF powF = True := fun σ => eq_true (cells_refl pow_flat)
  rw [vKyN_eq]
  simp only [ic, cond_F, sameB_self, Nat.beq_refl]
  simp only [cond_P, leI_t, leI_f, ltI_t, ltI_f, eqI_t, eqI_f, and_t, not_t, not_f, dec_t, dec_f, Nat.zero_add, Nat.mul_one, List.drop_zero]
  simp only [cells_tsr, cells_fld, take_ts, ts_length, and_true, true_and, and_false, false_and, or_false, false_or, exists_false, Nat.le_refl, exists_const, false_implies, not_false_eq_true, true_implies, fldT_at, fldOk_at, getS_ts]
  simp only [hf, ha, hpp, hT, keyE_nil, bs_any, bs_length, and_true, true_and]
  have hbd := fun i (hi : i < l.length) => key_bd (fa := []) (by simp [totL]) hl hi
  simp only [val_nil] at hbd
  have hi1 := Lib.itoa_length_le 1 (by omega) (by omega)
  have hkt : ∀ k, (keyT (l.take k) []).length ≤ 87960930240000 := fun k => by
    have h1 := keyT_len (fa := []) (by simp [totL]) (l := l.take k) (fun s hs => hl s (List.mem_of_mem_take hs))
    have h2 : (l.take k).length ≤ 20 := by rw [List.length_take]; omega
    omega
  refine ⟨fun _ => ⟨fun hlt => ?_, fun hge => ?_⟩, fun x hx => ⟨fun hlt => ?_, fun hge => ?_⟩⟩
  · have hp : 0 < l.length := by omega
    obtain ⟨h1, h2, h3, h4, h5, h6⟩ := hbd 0 hp
    have hk := keyT_one (fa := []) hp
    rw [val_nil] at hk
    refine ⟨hlt, getL hp, h1, ?_, ⟨by omega, by omega⟩, ?_, ?_, ?_, ?_, h6, ⟨by omega, by omega⟩, 0, by omega, by omega, ⟨⟨by rw [hk], by rw [hk]⟩, by rw [hk]; exact cellsP_flat (bs_flat _) rfl⟩, rfl⟩ <;> simp only [List.length_append, List.length_cons, List.length_nil, lower_len] <;> omega
  · have : l = [] := List.length_eq_zero_iff.1 (by omega)
    subst this
    rfl
  · have hp : x + 1 < l.length := by omega
    obtain ⟨h1, h2, h3, h4, h5, h6⟩ := hbd (x + 1) hp
    have hk := keyT_step (l := []) hp
    rw [val_nil] at hk
    have hb1 := hkt (x + 1)
    refine ⟨hlt, getL hp, h1, ?_, ⟨by omega, by omega⟩, ?_, ?_, ?_, ?_, by omega, by omega, ⟨by omega, by omega⟩, one_bs _, by omega, x + 1, by omega, by omega, ⟨⟨by rw [hk, List.length_append], by rw [hk, List.length_append]⟩, by rw [hk, ← bs_app]; exact cellsP_flat (bs_flat _) rfl⟩, by omega⟩ <;> simp only [List.length_append, List.length_cons, List.length_nil, lower_len] <;> omega
  · have he : l.take (x + 1) = l := List.take_of_length_le (by omega)
    obtain ⟨_, _, _, _, _, h6⟩ := hbd x (by omega)
    have hk := keyT_step (l := []) (x := x) (ns := l) (by omega)
    rw [val_nil] at hk
    have hb1 := hkt (x + 1)
    rw [he] at hk hb1 ⊢
    have hk2 := congrArg List.length hk
    rw [List.length_append] at hk2
    exact ⟨Nat.ble_eq_true_of_le (by omega), ⟨by omega, by omega, Nat.le_refl _⟩, bs_take _ _ rfl⟩
theorem TKy_ok : SpecOk Tryz.prog (tabS TKy noS) := by
  refine tabS_ok (fun p hp => ?_) noS_ok
  simp only [TKy, List.mem_cons, List.mem_nil_iff, or_false] at hp
  rcases hp with rfl | rfl | rfl
  · exact eVal_ok
  · exact g1_ok (fun _ => rfl) fun s hs => lower_sc s (by have := of_decide_eq_true hs; omega)
  · exact eIta_ok
theorem utf_reads3 {f : FuncId} {args0 args : List AV} {fT aT : List AV} {R : AH} {v : AV} {g : Option (List Nat)} {H : AH} {σ : List Nat} (hT : utf8T fT aT) (h : SC Tryz.prog f args0 (gFst fT :: gAcc aT :: R) (outE [⟨Unit, fun _ => v, fun _ => gFst fT :: gAcc aT :: R, fun _ => True, g⟩])) (hv : v.flat = true)
    (hR : ∀ k ∈ R, k ≠ .dead ∧ ∀ ρ, k.ren ρ = k) (hσ : R.length = σ.length) (hnd : (0 :: 1 :: σ).Nodup) (h0 : H[0]? = some (gFst fT)) (h1 : H[1]? = some (gAcc aT)) (hb : ∀ (i b : Nat), σ[i]? = some b → H[b]? = R[i]?) (ha : AV.rens (rn (0 :: 1 :: σ) H.length) args0 = args) : SC Tryz.prog f args H (fun v' H' => v' = v ∧ H' = H) := by
  have h2 := out1 h
  have := SC.reads (K := fun v' H' => v' = v ∧ H' = H) (σ := 0 :: 1 :: σ) h2 (fun k hk => by
    rcases List.mem_cons.1 hk with rfl | hk
    · exact (glob_cells_ren hT).1
    · rcases List.mem_cons.1 hk with rfl | hk
      · exact (glob_cells_ren hT).2
      · exact hR k hk) hnd (by simp [hσ]) (fun i b h => by
    match i with
    | 0 => simp at h; subst h; rw [h0]; rfl
    | 1 => simp at h; subst h; rw [h1]; rfl
    | i + 2 => exact hb i b (by simpa using h)) (by
    rintro v0 H0' ⟨rfl, rfl⟩
    exact ⟨[], by simp, (fun t ht => by cases ht), AV.ren_flat hv, by simp⟩)
  rwa [ha] at this
theorem pow_ren : gPow powF ≠ .dead ∧ ∀ ρ, (gPow powF).ren ρ = gPow powF := by
  refine ⟨by simp [gPow], fun ρ => ?_⟩
  show ABlk.glob _ (AV.rens ρ powF) = _
  rw [AV.rens_flat pow_flat]; rfl
theorem cells_ren2 {vs : List AV} (h : AV.flats vs = true) (e : Nat) (ro : Bool) : ABlk.cells vs e ro ≠ .dead ∧ ∀ ρ, (ABlk.cells vs e ro).ren ρ = ABlk.cells vs e ro := ⟨by simp, cells_ren h e ro⟩
noncomputable def eKey : SpecE := fun args H =>
  match args with
  | [.sl b 0 n _ _, x] => match H[0]?, H[1]?, H[2]?, H[b]? with
    | some (ABlk.glob 2 f), some (ABlk.glob 3 a), some (ABlk.glob 1 p), some (.cells vs _ _) => match x with
      | .nilsl => some (.needP (utf8T f a ∧ p = powF ∧ vs = ts (getS vs) ∧ n ≤ (getS vs).length ∧ n ≤ 20 ∧ ∀ s ∈ (getS vs).take n, s.length ≤ 300) (.ok (.str (keyT ((getS vs).take n) [])) none))
      | .sl ba 0 na _ _ => match H[ba]? with
        | some (.cells va _ _) => some (.needP (utf8T f a ∧ p = powF ∧ (vs = ts (getS vs) ∧ n ≤ (getS vs).length ∧ n ≤ 20 ∧ ∀ s ∈ (getS vs).take n, s.length ≤ 300) ∧ fldOk va na ∧ b ≠ ba) (.ok (.str (keyT ((getS vs).take n) (fldT va na))) none))
        | _ => none
      | _ => none
    | _, _, _, _ => none
  | _ => none
theorem strs20 {vs : List AV} {n : Nat} (h : vs = ts (getS vs) ∧ n ≤ (getS vs).length ∧ n ≤ 20 ∧ ∀ s ∈ (getS vs).take n, s.length ≤ 300) : ∃ l r : LL, (getS vs).take n = l ∧ vs = ts (l ++ r) ∧ n = l.length ∧ l.length ≤ 20 ∧ ∀ s ∈ l, s.length ≤ 300 := by
  obtain ⟨g1, g2, g3, g4⟩ := h
  have hl : ((getS vs).take n).length = n := by rw [List.length_take]; omega
  exact ⟨_, (getS vs).drop n, rfl, by rw [List.take_append_drop]; exact g1, hl.symm, by omega, g4⟩
theorem eKey_ok : EntryOk Tryz.prog 14 eKey := by
  intro args H sr hs K hk
  unfold eKey at hs
  split at hs
  · rename_i b n c ex x
    split at hs
    · rename_i f a p vs e ro h0 h1 h2 hb
      have hb0 : b ≠ 0 := fun e => by subst e; rw [h0] at hb; cases hb
      have hb1 : b ≠ 1 := fun e => by subst e; rw [h1] at hb; cases hb
      have hb2 : b ≠ 2 := fun e => by subst e; rw [h2] at hb; cases hb
      have fin : ∀ {v : AV}, SC Tryz.prog 14 [.sl b 0 n c ex, x] H (fun v' H' => v' = v ∧ H' = H) → K v none → SC Tryz.prog 14 [.sl b 0 n c ex, x] H fun v' H' => ∃ ch, K v' ch ∧ H' = chN H ch := fun h hK => h.mono (by rintro v' H' ⟨rfl, rfl⟩; exact ⟨none, hK, rfl⟩)
      split at hs
      · cases hs
        obtain ⟨⟨hT, rfl, hS⟩, h3⟩ := hk
        obtain ⟨l, r, e1, rfl, rfl, hn, hl⟩ := strs20 hS
        clear hS
        rw [e1] at h3
        refine fin (utf_reads3 (σ := [2, b]) (R := [gPow powF, .cells (ts (l ++ r)) e ro]) hT (SC.ofF (V := VKy l []) names0 mixed0 TKy_ok noO_ok (kyN_vc l r e ro c ex f a powF hn hl hT rfl)) rfl (fun k hk => by
          simp only [List.mem_cons, List.mem_nil_iff, or_false] at hk
          rcases hk with rfl | rfl
          · exact pow_ren
          · exact cells_ren2 (ts_flat _) _ _) rfl (by simp; omega) h0 h1 (fun i b' h => by
          match i with
          | 0 => simp at h; subst h; exact h2
          | 1 => simp at h; subst h; exact hb
          | i + 2 => simp at h) rfl) h3
      · rename_i ba na ca exa
        split at hs
        · rename_i va ea roa hba
          cases hs
          obtain ⟨⟨hT, rfl, hS, hF, hne⟩, h3⟩ := hk
          have hc0 : ba ≠ 0 := fun e => by subst e; rw [h0] at hba; cases hba
          have hc1 : ba ≠ 1 := fun e => by subst e; rw [h1] at hba; cases hba
          have hc2 : ba ≠ 2 := fun e => by subst e; rw [h2] at hba; cases hba
          obtain ⟨l, r, e1, rfl, rfl, hn, hl⟩ := strs20 hS
          clear hS
          obtain ⟨ra, e2, e3, hfa⟩ := fldOk_ex hF
          generalize fldT va na = fa at *
          subst e2
          subst e3
          rw [e1] at h3
          refine fin (utf_reads3 (σ := [2, b, ba]) (R := [gPow powF, .cells (ts (l ++ r)) e ro, .cells (fieldC (fa ++ ra)) ea roa]) hT (SC.ofF (V := VKy l fa) names0 mixed0 TKy_ok noO_ok (kyA_vc l r e ro c ex f a powF fa ra ea roa ca exa hn hl hT rfl hfa)) rfl (fun k hk => by
            simp only [List.mem_cons, List.mem_nil_iff, or_false] at hk
            rcases hk with rfl | rfl | rfl
            · exact pow_ren
            · exact cells_ren2 (ts_flat _) _ _
            · exact cells_ren2 (fieldC_flat _) _ _) rfl (by simp; omega) h0 h1 (fun i b' h => by
            match i with
            | 0 => simp at h; subst h; exact h2
            | 1 => simp at h; subst h; exact hb
            | 2 => simp at h; subst h; exact hba
            | i + 3 => simp at h) rfl) h3
        · cases hs
      · cases hs
    · cases hs
  · cases hs
end Go.Proofs.YtciciemaldbidaaGreatDoor

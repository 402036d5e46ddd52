/- What vary.one answers: the words of a text, one blank between them. -/
import Derived.Test.YtciciemaldbidaaGreatDoorOneP
set_option linter.unusedSimpArgs false
set_option linter.unusedVariables false
namespace Go.Proofs.YtciciemaldbidaaGreatDoor
open Go Go.Ve
set_option maxRecDepth 20000
def utf8T (f a : List AV) : Prop := f = (List.range 256).map (fun c => AV.int .u8 (Lib.firstT c)) ∧ a = (List.range 16).flatMap fun i => [AV.int .u8 (Lib.accLo i), AV.int .u8 (Lib.accHi i)]
noncomputable def gFst (f : List AV) : ABlk := ABlk.glob 2 f
noncomputable def gAcc (a : List AV) : ABlk := ABlk.glob 3 a
noncomputable def eDec : SpecE := fun args H =>
  match args with
  | [.str s] => match H[0]?, H[1]? with
    | some (ABlk.glob 2 f), some (ABlk.glob 3 a) => some (.needP (utf8T f a) (.ok (.tuple [.int .i32 (decR s), .int .i64 (decN s)]) none))
    | _, _ => none
  | _ => none
def whI (r : Int) : Bool := Bool.or (decide (r = 32)) (decide (r = 9))
def gWh (args : List AV) : Option (Bool × AV) := match args with | [.int .i32 r] => some (true, .bool (whI r)) | _ => none
noncomputable def VWh : VE := ⟨Tryz.prog, noS, noO, fun _ => none⟩
noncomputable def TOne : List (Nat × SpecE) := [(79, eDec), (44, flatE gWh)]
noncomputable def eU8 : Nat := btag Tryz.prog 5 1
noncomputable def eBl : Nat := 2 + 65536 * (50 + 1)
noncomputable def aFf (s : List UInt8) : Anns := [(2, [
  .mk (Nat × Nat × Int) (fun x => [(4, .int .i64 x.2.2), (5, .int .i64 x.2.1)]) (fun _ => none) (fun x => wordsA s x.1 x.2.1 x.2.2 [] = oneT s ∧ x.2.1 ≤ s.length ∧ x.2.2 < x.2.1 ∧ s.length ≤ x.2.1 + x.1) (fun x => s.length - x.2.1) none none (fun _ => []) (fun _ => []),
  .mk (Nat × Nat × Int × List UInt8) (fun x => [(4, .int .i64 x.2.2.1), (5, .int .i64 x.2.1)]) (fun x => some [keepB, keepB, .cells [.ptr 2 0, .sl 7 0 x.2.2.2.length x.2.2.2.length false] eBl false, keepB, keepB, keepB, keepB, .cells (bs x.2.2.2) eU8 false]) (fun x => wordsA s x.1 x.2.1 x.2.2.1 x.2.2.2 = oneT s ∧ x.2.1 ≤ s.length ∧ x.2.2.1 < x.2.1 ∧ s.length ≤ x.2.1 + x.1 ∧ x.2.2.2 ≠ [] ∧ x.2.2.2.length ≤ 2 * x.2.1 ∧ (0 ≤ x.2.2.1 → (x.2.2.2.length : Int) ≤ 2 * x.2.2.1)) (fun x => s.length - x.2.1) (some [999997, 2]) (some [999997, 2]) (fun _ => []) (fun _ => [])])]
noncomputable def faOne (s : List UInt8) (f : FuncId) : Option FA :=
  match Nat.beq f 78 with
  | true => some ⟨[], aFf s, []⟩
  | false => match Nat.beq f 36 with
    | true => some ⟨[(1, .tail 10)], [], [(13, .str (oneT s))]⟩
    | false => match Nat.beq f 67 with
      | true => some ⟨[], [], [(14, .nilsl)]⟩
      | false => match Nat.beq f 34 with
        | true => some ⟨[], [], [(14, .nilsl)]⟩
        | false => some ⟨[], [], []⟩
noncomputable def VOne (s : List UInt8) : VE := ⟨Tryz.prog, tabS TOne noS, noO, faOne s⟩

noncomputable def vWh  (r : Int) : Prop := vcF VWh [] 300 [] [] 44 [.int .i32 r] [] (Go.Ve.one (.bool (whI r)))
noncomputable def vOne  (s : List UInt8) (fT aT : List AV) : Prop := vcF (VOne s) [] 300 [] [] 43 [.str s] [gFst fT, gAcc aT] [⟨Unit, fun _ => .str (oneT s), fun _ => [gFst fT, gAcc aT], fun _ => True, gcB⟩]
def gqOneW0 : Nat → Nat := (fun (b : Nat) => [0, 1, 2, 3, 4, 5, 6].getD b 7)
def gqOneW1 : Nat → Nat := (fun (b : Nat) => [0, 1, 2, 3, 4, 5, 6, 7].getD b 8)
def gqOneW2 : Nat → Nat := (fun (b : Nat) => [0, 1].getD b 8)
def gcOneW0 : Code := Code.block 1 (((Code.region 4 { toList := [{ dst := some 8, op := Op.call { callee := Callee.value (Operand.func 66), args := { toList := [Operand.tmp 3] }, argTypes := { toList := [50] } }, type := 3, pos := "vary.go:33", after := { toList := [] }, guard := none }, { dst := some 9, op := Op.binOp BinOp.gtr 3 (Operand.tmp 8) (Operand.const (Value.int IntKind.i64 (0 : Int))) 3, type := 4, pos := "vary.go:33", after := { toList := [{ on := 0, ground := Ground.data }] }, guard := none }] } false).seq (Code.cond (Operand.tmp 9) (Code.region 5 { toList := [{ dst := some 10, op := Op.call { callee := Callee.value (Operand.func 67), args := { toList := [Operand.tmp 3, Operand.const (Value.int IntKind.u8 (32 : Int))] }, argTypes := { toList := [50, 5] } }, type := 52, pos := "vary.go:34", after := { toList := [] }, guard := none }] } false) Code.skip)).seq (Code.region 6 { toList := [{ dst := some 11, op := Op.move (Operand.tmp 4), type := 9, pos := "vary.go:36", after := { toList := [] }, guard := none }, { dst := some 12, op := Op.call { callee := Callee.value (Operand.func 34), args := { toList := [Operand.tmp 3, Operand.tmp 11] }, argTypes := { toList := [50, 9] } }, type := 53, pos := "vary.go:36", after := { toList := [{ on := 0, ground := Ground.data }] }, guard := none }] } false))
def gcOneW1 : Code := Code.region 3 { toList := [{ dst := some 4, op := Op.assign (Operand.tmp 7), type := 9, pos := "vary.go:32", after := { toList := [] }, guard := none }] } false
def gsOneW0 (s : List UInt8) : Prop := ((({ toList := [7] } : Array Tmp) = { toList := [7] } ∧ gcOneW1 = gcOneW1 ∧ gcOneW0 = gcOneW0) ∧ LoopState.ready = LoopState.ready ∧ (none : Option Code) = none ∧ (s = s ∧ True ∧ ([] : List UInt8) = [] ∧ 0 = 0 ∧ True ∧ s = s ∧ (Fn.func 78 = Fn.func 78 ∧ True ∧ 0 = 0 ∧ 0 = 0 ∧ True) ∧ True ∧ True ∧ True ∧ True ∧ True ∧ True ∧ True ∧ True) ∧ True)
def gsOneW1 (s : List UInt8) (fT : List AV) (aT : List AV) : Prop := ((2 = 2 ∧ cellsP gqOneW1 fT fT) ∧ (3 = 3 ∧ cellsP gqOneW1 aT aT) ∧ ((False ∧ False ∧ True) ∧ True) ∧ ((s = s ∧ True) ∧ True) ∧ (((Fn.func 44 = Fn.func 44 ∧ True ∧ True) ∧ True) ∧ True) ∧ True ∧ (gsOneW0 s) ∧ False)
def gsOneW2 (s : List UInt8) (fT : List AV) (aT : List AV) : Prop := ((2 = 2 ∧ cellsP gqOneW0 fT fT) ∧ (3 = 3 ∧ cellsP gqOneW0 aT aT) ∧ ((True ∧ True ∧ True) ∧ True) ∧ ((s = s ∧ True) ∧ True) ∧ (((Fn.func 44 = Fn.func 44 ∧ True ∧ True) ∧ True) ∧ True) ∧ True ∧ (gsOneW0 s) ∧ True)
def gsOneW3  : Prop := (((Fn.func 44 = Fn.func 44 ∧ True ∧ True) ∧ True) ∧ True)
theorem vWh_eq  (r : Int) : vWh r = (bif eqI r (32 : Int) then ∃ (_x : Unit), True ∧ True ∧ true = whI r ∧ True else ∃ (_x : Unit), True ∧ True ∧ eqI r (9 : Int) = whI r ∧ True) := by kernel_rfl
theorem vOne_eq  (s : List UInt8) (fT aT : List AV) : vOne s fT aT = (((∃ (x : Nat × Nat × Int), (wordsA s x.fst x.snd.fst x.snd.snd [] = oneT s ∧ x.snd.fst ≤ s.length ∧ x.snd.snd < ic x.snd.fst ∧ s.length ≤ x.snd.fst + x.fst) ∧ (gsOneW2 s fT aT) ∧ (-1 : Int) = x.snd.snd ∧ (0 : Int) = ic x.snd.fst ∧ True) ∨ ∃ (x : Nat × Nat × Int × List UInt8), (wordsA s x.fst x.snd.fst x.snd.snd.fst x.snd.snd.snd = oneT s ∧ x.snd.fst ≤ s.length ∧ x.snd.snd.fst < ic x.snd.fst ∧ s.length ≤ x.snd.fst + x.fst ∧ x.snd.snd.snd ≠ [] ∧ x.snd.snd.snd.length ≤ 2 * x.snd.fst ∧ ((0 : Int) ≤ x.snd.snd.fst → ↑x.snd.snd.snd.length ≤ (2 : Int) * x.snd.snd.fst)) ∧ False) ∧ (∀ (x : Nat × Nat × Int), wordsA s x.fst x.snd.fst x.snd.snd [] = oneT s ∧ x.snd.fst ≤ s.length ∧ x.snd.snd < ic x.snd.fst ∧ s.length ≤ x.snd.fst + x.fst → bif ltI (ic x.snd.fst) (ic s.length) then bif leI (ic x.snd.fst) (ic s.length) then utf8T fT aT ∧ bif whI (ic (decR (List.drop x.snd.fst s))) then bif leI (0 : Int) x.snd.snd then bif leI (ic x.snd.fst) (ic s.length) then bif leI (0 : Int) x.snd.snd && leI x.snd.snd (ic x.snd.fst) then bif !decide ((List.take (x.snd.fst - x.snd.snd.toNat) (List.drop x.snd.snd.toNat s)).length = 0) then bif decide ((List.take (x.snd.fst - x.snd.snd.toNat) (List.drop x.snd.snd.toNat s)).length ≤ 9223372036854775807) && decide ((List.take (x.snd.fst - x.snd.snd.toNat) (List.drop x.snd.snd.toNat s)).length * 1 ≤ 140737488355328) then bif leI (ic x.snd.fst + ic (decN (List.drop x.snd.fst s))) (9223372036854775807 : Int) then (∃ (y : Nat × Nat × Int), (wordsA s y.fst y.snd.fst y.snd.snd [] = oneT s ∧ y.snd.fst ≤ s.length ∧ y.snd.snd < ic y.snd.fst ∧ s.length ≤ y.snd.fst + y.fst) ∧ s.length - y.snd.fst < s.length - x.snd.fst ∧ (gsOneW1 s fT aT) ∧ (-1 : Int) = y.snd.snd ∧ ic x.snd.fst + ic (decN (List.drop x.snd.fst s)) = ic y.snd.fst ∧ True) ∨ ∃ (y : Nat × Nat × Int × List UInt8), (wordsA s y.fst y.snd.fst y.snd.snd.fst y.snd.snd.snd = oneT s ∧ y.snd.fst ≤ s.length ∧ y.snd.snd.fst < ic y.snd.fst ∧ s.length ≤ y.snd.fst + y.fst ∧ y.snd.snd.snd ≠ [] ∧ y.snd.snd.snd.length ≤ 2 * y.snd.fst ∧ ((0 : Int) ≤ y.snd.snd.fst → ↑y.snd.snd.snd.length ≤ (2 : Int) * y.snd.snd.fst)) ∧ s.length - y.snd.fst < s.length - x.snd.fst ∧ ((2 = 2 ∧ cellsP gqOneW1 fT fT) ∧ (3 = 3 ∧ cellsP gqOneW1 aT aT) ∧ ((0 = 0 ∧ (0 = 0 ∧ (List.take (x.snd.fst - x.snd.snd.toNat) (List.drop x.snd.snd.toNat s)).length = y.snd.snd.snd.length ∧ (List.take (x.snd.fst - x.snd.snd.toNat) (List.drop x.snd.snd.toNat s)).length = y.snd.snd.snd.length ∧ false = false) ∧ True) ∧ True) ∧ ((s = s ∧ True) ∧ True) ∧ (gsOneW3) ∧ True ∧ (gsOneW0 s) ∧ (cellsP gqOneW1 (bs y.snd.snd.snd) (List.map (fun (c : UInt8) => AV.int IntKind.u8 (ic c.toNat)) (List.take (x.snd.fst - x.snd.snd.toNat) (List.drop x.snd.snd.toNat s))) ∧ True) ∧ True) ∧ (-1 : Int) = y.snd.snd.fst ∧ ic x.snd.fst + ic (decN (List.drop x.snd.fst s)) = ic y.snd.fst ∧ True else False else False else False else False else False else bif leI (ic x.snd.fst + ic (decN (List.drop x.snd.fst s))) (9223372036854775807 : Int) then (∃ (y : Nat × Nat × Int), (wordsA s y.fst y.snd.fst y.snd.snd [] = oneT s ∧ y.snd.fst ≤ s.length ∧ y.snd.snd < ic y.snd.fst ∧ s.length ≤ y.snd.fst + y.fst) ∧ s.length - y.snd.fst < s.length - x.snd.fst ∧ (gsOneW2 s fT aT) ∧ x.snd.snd = y.snd.snd ∧ ic x.snd.fst + ic (decN (List.drop x.snd.fst s)) = ic y.snd.fst ∧ True) ∨ ∃ (y : Nat × Nat × Int × List UInt8), (wordsA s y.fst y.snd.fst y.snd.snd.fst y.snd.snd.snd = oneT s ∧ y.snd.fst ≤ s.length ∧ y.snd.snd.fst < ic y.snd.fst ∧ s.length ≤ y.snd.fst + y.fst ∧ y.snd.snd.snd ≠ [] ∧ y.snd.snd.snd.length ≤ 2 * y.snd.fst ∧ ((0 : Int) ≤ y.snd.snd.fst → ↑y.snd.snd.snd.length ≤ (2 : Int) * y.snd.snd.fst)) ∧ s.length - y.snd.fst < s.length - x.snd.fst ∧ False else False else bif ltI x.snd.snd (0 : Int) then bif leI (ic x.snd.fst + ic (decN (List.drop x.snd.fst s))) (9223372036854775807 : Int) then (∃ (y : Nat × Nat × Int), (wordsA s y.fst y.snd.fst y.snd.snd [] = oneT s ∧ y.snd.fst ≤ s.length ∧ y.snd.snd < ic y.snd.fst ∧ s.length ≤ y.snd.fst + y.fst) ∧ s.length - y.snd.fst < s.length - x.snd.fst ∧ (gsOneW2 s fT aT) ∧ ic x.snd.fst = y.snd.snd ∧ ic x.snd.fst + ic (decN (List.drop x.snd.fst s)) = ic y.snd.fst ∧ True) ∨ ∃ (y : Nat × Nat × Int × List UInt8), (wordsA s y.fst y.snd.fst y.snd.snd.fst y.snd.snd.snd = oneT s ∧ y.snd.fst ≤ s.length ∧ y.snd.snd.fst < ic y.snd.fst ∧ s.length ≤ y.snd.fst + y.fst ∧ y.snd.snd.snd ≠ [] ∧ y.snd.snd.snd.length ≤ 2 * y.snd.fst ∧ ((0 : Int) ≤ y.snd.snd.fst → ↑y.snd.snd.snd.length ≤ (2 : Int) * y.snd.snd.fst)) ∧ s.length - y.snd.fst < s.length - x.snd.fst ∧ False else False else bif leI (ic x.snd.fst + ic (decN (List.drop x.snd.fst s))) (9223372036854775807 : Int) then (∃ (y : Nat × Nat × Int), (wordsA s y.fst y.snd.fst y.snd.snd [] = oneT s ∧ y.snd.fst ≤ s.length ∧ y.snd.snd < ic y.snd.fst ∧ s.length ≤ y.snd.fst + y.fst) ∧ s.length - y.snd.fst < s.length - x.snd.fst ∧ (gsOneW2 s fT aT) ∧ x.snd.snd = y.snd.snd ∧ ic x.snd.fst + ic (decN (List.drop x.snd.fst s)) = ic y.snd.fst ∧ True) ∨ ∃ (y : Nat × Nat × Int × List UInt8), (wordsA s y.fst y.snd.fst y.snd.snd.fst y.snd.snd.snd = oneT s ∧ y.snd.fst ≤ s.length ∧ y.snd.snd.fst < ic y.snd.fst ∧ s.length ≤ y.snd.fst + y.fst ∧ y.snd.snd.snd ≠ [] ∧ y.snd.snd.snd.length ≤ 2 * y.snd.fst ∧ ((0 : Int) ≤ y.snd.snd.fst → ↑y.snd.snd.snd.length ≤ (2 : Int) * y.snd.snd.fst)) ∧ s.length - y.snd.fst < s.length - x.snd.fst ∧ False else False else False else bif leI (0 : Int) x.snd.snd then bif leI (0 : Int) x.snd.snd && leI x.snd.snd (ic s.length) then bif !decide ((List.drop x.snd.snd.toNat s).length = 0) then bif decide ((List.drop x.snd.snd.toNat s).length ≤ 9223372036854775807) && decide ((List.drop x.snd.snd.toNat s).length * 1 ≤ 140737488355328) then bif Nat.ble 1 (List.drop x.snd.snd.toNat s).length then ((0 : Int) < ic (List.drop x.snd.snd.toNat s).length ∧ ic (List.drop x.snd.snd.toNat s).length ≤ (9223372036854775807 : Int) ∧ 0 + (List.drop x.snd.snd.toNat s).length ≤ (List.map (fun (c : UInt8) => AV.int IntKind.u8 (ic c.toNat)) (List.drop x.snd.snd.toNat s)).length) ∧ abytes (List.take (List.drop x.snd.snd.toNat s).length (List.drop 0 (List.map (fun (c : UInt8) => AV.int IntKind.u8 (ic c.toNat)) (List.drop x.snd.snd.toNat s)))) = some (oneT s) ∧ ∃ (_x : Unit), True ∧ ((2 = 2 ∧ cellsP gqOneW2 fT fT) ∧ (3 = 3 ∧ cellsP gqOneW2 aT aT) ∧ True) ∧ oneT s = oneT s ∧ True else False else False else False else False else some (AO.val (AV.str []) none) = some (AO.val (AV.str (oneT s)) none) ∧ ∃ (_x : Unit), True ∧ ((2 = 2 ∧ cellsP (fun (b : Nat) => [0, 1].getD b 7) fT fT) ∧ (3 = 3 ∧ cellsP (fun (b : Nat) => [0, 1].getD b 7) aT aT) ∧ True) ∧ oneT s = oneT s ∧ True) ∧ ∀ (x : Nat × Nat × Int × List UInt8), wordsA s x.fst x.snd.fst x.snd.snd.fst x.snd.snd.snd = oneT s ∧ x.snd.fst ≤ s.length ∧ x.snd.snd.fst < ic x.snd.fst ∧ s.length ≤ x.snd.fst + x.fst ∧ x.snd.snd.snd ≠ [] ∧ x.snd.snd.snd.length ≤ 2 * x.snd.fst ∧ ((0 : Int) ≤ x.snd.snd.fst → ↑x.snd.snd.snd.length ≤ (2 : Int) * x.snd.snd.fst) → bif ltI (ic x.snd.fst) (ic s.length) then bif leI (ic x.snd.fst) (ic s.length) then utf8T fT aT ∧ bif whI (ic (decR (List.drop x.snd.fst s))) then bif leI (0 : Int) x.snd.snd.fst then bif leI (ic x.snd.fst) (ic s.length) then bif leI (0 : Int) x.snd.snd.fst && leI x.snd.snd.fst (ic x.snd.fst) then bif ltI (0 : Int) (ic x.snd.snd.snd.length) then bif decide (x.snd.snd.snd.length ≤ x.snd.snd.snd.length) && decide (0 + x.snd.snd.snd.length * 1 ≤ (bs x.snd.snd.snd).length) then bif decide (x.snd.snd.snd.length < x.snd.snd.snd.length + 1) then bif decide (x.snd.snd.snd.length + 1 ≤ 9223372036854775807) && decide ((x.snd.snd.snd.length + 1) * 1 ≤ 140737488355328) then bif decide (x.snd.snd.snd.length = x.snd.snd.snd.length) && (decide (0 + x.snd.snd.snd.length * 1 = (bs x.snd.snd.snd).length) && true) then bif decide (x.snd.snd.snd.length + 1 ≤ x.snd.snd.snd.length + 1) && decide (0 + (x.snd.snd.snd.length + 1) * 1 ≤ (List.drop 0 (bs x.snd.snd.snd) ++ [AV.int IntKind.u8 (32 : Int)]).length) then bif decide (x.snd.snd.snd.length + 1 < x.snd.snd.snd.length + 1 + (List.take (x.snd.fst - x.snd.snd.fst.toNat) (List.drop x.snd.snd.fst.toNat s)).length) then bif decide (x.snd.snd.snd.length + 1 + (List.take (x.snd.fst - x.snd.snd.fst.toNat) (List.drop x.snd.snd.fst.toNat s)).length ≤ 9223372036854775807) && decide ((x.snd.snd.snd.length + 1 + (List.take (x.snd.fst - x.snd.snd.fst.toNat) (List.drop x.snd.snd.fst.toNat s)).length) * 1 ≤ 140737488355328) then bif decide (x.snd.snd.snd.length + 1 = x.snd.snd.snd.length + 1) && (decide (0 + (x.snd.snd.snd.length + 1) * 1 = (List.drop 0 (bs x.snd.snd.snd) ++ [AV.int IntKind.u8 (32 : Int)]).length) && AV.allOne (List.map (fun (c : UInt8) => AV.int IntKind.u8 (ic c.toNat)) (List.take (x.snd.fst - x.snd.snd.fst.toNat) (List.drop x.snd.snd.fst.toNat s)))) then bif leI (ic x.snd.fst + ic (decN (List.drop x.snd.fst s))) (9223372036854775807 : Int) then (∃ (y : Nat × Nat × Int), (wordsA s y.fst y.snd.fst y.snd.snd [] = oneT s ∧ y.snd.fst ≤ s.length ∧ y.snd.snd < ic y.snd.fst ∧ s.length ≤ y.snd.fst + y.fst) ∧ s.length - y.snd.fst < s.length - x.snd.fst ∧ ((2 = 2 ∧ cellsP (fun (b : Nat) => [0, 1, 2, 3, 4, 5, 6, 7, 8, 9, 10].getD b 11) fT fT) ∧ (3 = 3 ∧ cellsP (fun (b : Nat) => [0, 1, 2, 3, 4, 5, 6, 7, 8, 9, 10].getD b 11) aT aT) ∧ ((False ∧ False ∧ True) ∧ True) ∧ ((s = s ∧ True) ∧ True) ∧ (gsOneW3) ∧ True ∧ (gsOneW0 s) ∧ False) ∧ (-1 : Int) = y.snd.snd ∧ ic x.snd.fst + ic (decN (List.drop x.snd.fst s)) = ic y.snd.fst ∧ True) ∨ ∃ (y : Nat × Nat × Int × List UInt8), (wordsA s y.fst y.snd.fst y.snd.snd.fst y.snd.snd.snd = oneT s ∧ y.snd.fst ≤ s.length ∧ y.snd.snd.fst < ic y.snd.fst ∧ s.length ≤ y.snd.fst + y.fst ∧ y.snd.snd.snd ≠ [] ∧ y.snd.snd.snd.length ≤ 2 * y.snd.fst ∧ ((0 : Int) ≤ y.snd.snd.fst → ↑y.snd.snd.snd.length ≤ (2 : Int) * y.snd.snd.fst)) ∧ s.length - y.snd.fst < s.length - x.snd.fst ∧ ((2 = 2 ∧ cellsP (fun (b : Nat) => [0, 1, 2, 3, 4, 5, 6, 10].getD b 11) fT fT) ∧ (3 = 3 ∧ cellsP (fun (b : Nat) => [0, 1, 2, 3, 4, 5, 6, 10].getD b 11) aT aT) ∧ ((0 = 0 ∧ (0 = 0 ∧ x.snd.snd.snd.length + 1 + (List.take (x.snd.fst - x.snd.snd.fst.toNat) (List.drop x.snd.snd.fst.toNat s)).length = y.snd.snd.snd.length ∧ x.snd.snd.snd.length + 1 + (List.take (x.snd.fst - x.snd.snd.fst.toNat) (List.drop x.snd.snd.fst.toNat s)).length = y.snd.snd.snd.length ∧ false = false) ∧ True) ∧ True) ∧ ((s = s ∧ True) ∧ True) ∧ (gsOneW3) ∧ True ∧ (gsOneW0 s) ∧ (cellsP (fun (b : Nat) => [0, 1, 2, 3, 4, 5, 6, 10].getD b 11) (bs y.snd.snd.snd) (List.drop 0 (List.drop 0 (bs x.snd.snd.snd) ++ [AV.int IntKind.u8 (32 : Int)]) ++ List.map (fun (c : UInt8) => AV.int IntKind.u8 (ic c.toNat)) (List.take (x.snd.fst - x.snd.snd.fst.toNat) (List.drop x.snd.snd.fst.toNat s))) ∧ True) ∧ True) ∧ (-1 : Int) = y.snd.snd.fst ∧ ic x.snd.fst + ic (decN (List.drop x.snd.fst s)) = ic y.snd.fst ∧ True else False else False else False else False else False else False else False else False else False else bif decide (x.snd.snd.snd.length ≤ x.snd.snd.snd.length) && decide (0 + x.snd.snd.snd.length * 1 ≤ (bs x.snd.snd.snd).length) then bif decide (x.snd.snd.snd.length < x.snd.snd.snd.length + (List.take (x.snd.fst - x.snd.snd.fst.toNat) (List.drop x.snd.snd.fst.toNat s)).length) then bif decide (x.snd.snd.snd.length + (List.take (x.snd.fst - x.snd.snd.fst.toNat) (List.drop x.snd.snd.fst.toNat s)).length ≤ 9223372036854775807) && decide ((x.snd.snd.snd.length + (List.take (x.snd.fst - x.snd.snd.fst.toNat) (List.drop x.snd.snd.fst.toNat s)).length) * 1 ≤ 140737488355328) then bif decide (x.snd.snd.snd.length = x.snd.snd.snd.length) && (decide (0 + x.snd.snd.snd.length * 1 = (bs x.snd.snd.snd).length) && AV.allOne (List.map (fun (c : UInt8) => AV.int IntKind.u8 (ic c.toNat)) (List.take (x.snd.fst - x.snd.snd.fst.toNat) (List.drop x.snd.snd.fst.toNat s)))) then bif leI (ic x.snd.fst + ic (decN (List.drop x.snd.fst s))) (9223372036854775807 : Int) then (∃ (y : Nat × Nat × Int), (wordsA s y.fst y.snd.fst y.snd.snd [] = oneT s ∧ y.snd.fst ≤ s.length ∧ y.snd.snd < ic y.snd.fst ∧ s.length ≤ y.snd.fst + y.fst) ∧ s.length - y.snd.fst < s.length - x.snd.fst ∧ ((2 = 2 ∧ cellsP (fun (b : Nat) => [0, 1, 2, 3, 4, 5, 6, 7, 8].getD b 9) fT fT) ∧ (3 = 3 ∧ cellsP (fun (b : Nat) => [0, 1, 2, 3, 4, 5, 6, 7, 8].getD b 9) aT aT) ∧ ((False ∧ False ∧ True) ∧ True) ∧ ((s = s ∧ True) ∧ True) ∧ (gsOneW3) ∧ True ∧ (gsOneW0 s) ∧ False) ∧ (-1 : Int) = y.snd.snd ∧ ic x.snd.fst + ic (decN (List.drop x.snd.fst s)) = ic y.snd.fst ∧ True) ∨ ∃ (y : Nat × Nat × Int × List UInt8), (wordsA s y.fst y.snd.fst y.snd.snd.fst y.snd.snd.snd = oneT s ∧ y.snd.fst ≤ s.length ∧ y.snd.snd.fst < ic y.snd.fst ∧ s.length ≤ y.snd.fst + y.fst ∧ y.snd.snd.snd ≠ [] ∧ y.snd.snd.snd.length ≤ 2 * y.snd.fst ∧ ((0 : Int) ≤ y.snd.snd.fst → ↑y.snd.snd.snd.length ≤ (2 : Int) * y.snd.snd.fst)) ∧ s.length - y.snd.fst < s.length - x.snd.fst ∧ ((2 = 2 ∧ cellsP (fun (b : Nat) => [0, 1, 2, 3, 4, 5, 6, 8].getD b 9) fT fT) ∧ (3 = 3 ∧ cellsP (fun (b : Nat) => [0, 1, 2, 3, 4, 5, 6, 8].getD b 9) aT aT) ∧ ((0 = 0 ∧ (0 = 0 ∧ x.snd.snd.snd.length + (List.take (x.snd.fst - x.snd.snd.fst.toNat) (List.drop x.snd.snd.fst.toNat s)).length = y.snd.snd.snd.length ∧ x.snd.snd.snd.length + (List.take (x.snd.fst - x.snd.snd.fst.toNat) (List.drop x.snd.snd.fst.toNat s)).length = y.snd.snd.snd.length ∧ false = false) ∧ True) ∧ True) ∧ ((s = s ∧ True) ∧ True) ∧ (gsOneW3) ∧ True ∧ (gsOneW0 s) ∧ (cellsP (fun (b : Nat) => [0, 1, 2, 3, 4, 5, 6, 8].getD b 9) (bs y.snd.snd.snd) (List.drop 0 (bs x.snd.snd.snd) ++ List.map (fun (c : UInt8) => AV.int IntKind.u8 (ic c.toNat)) (List.take (x.snd.fst - x.snd.snd.fst.toNat) (List.drop x.snd.snd.fst.toNat s))) ∧ True) ∧ True) ∧ (-1 : Int) = y.snd.snd.fst ∧ ic x.snd.fst + ic (decN (List.drop x.snd.fst s)) = ic y.snd.fst ∧ True else False else False else False else False else False else False else False else bif leI (ic x.snd.fst + ic (decN (List.drop x.snd.fst s))) (9223372036854775807 : Int) then (∃ (y : Nat × Nat × Int), (wordsA s y.fst y.snd.fst y.snd.snd [] = oneT s ∧ y.snd.fst ≤ s.length ∧ y.snd.snd < ic y.snd.fst ∧ s.length ≤ y.snd.fst + y.fst) ∧ s.length - y.snd.fst < s.length - x.snd.fst ∧ (gsOneW1 s fT aT) ∧ x.snd.snd.fst = y.snd.snd ∧ ic x.snd.fst + ic (decN (List.drop x.snd.fst s)) = ic y.snd.fst ∧ True) ∨ ∃ (y : Nat × Nat × Int × List UInt8), (wordsA s y.fst y.snd.fst y.snd.snd.fst y.snd.snd.snd = oneT s ∧ y.snd.fst ≤ s.length ∧ y.snd.snd.fst < ic y.snd.fst ∧ s.length ≤ y.snd.fst + y.fst ∧ y.snd.snd.snd ≠ [] ∧ y.snd.snd.snd.length ≤ 2 * y.snd.fst ∧ ((0 : Int) ≤ y.snd.snd.fst → ↑y.snd.snd.snd.length ≤ (2 : Int) * y.snd.snd.fst)) ∧ s.length - y.snd.fst < s.length - x.snd.fst ∧ ((2 = 2 ∧ cellsP gqOneW1 fT fT) ∧ (3 = 3 ∧ cellsP gqOneW1 aT aT) ∧ ((0 = 0 ∧ (0 = 0 ∧ x.snd.snd.snd.length = y.snd.snd.snd.length ∧ x.snd.snd.snd.length = y.snd.snd.snd.length ∧ false = false) ∧ True) ∧ True) ∧ ((s = s ∧ True) ∧ True) ∧ (gsOneW3) ∧ True ∧ (gsOneW0 s) ∧ (cellsP gqOneW1 (bs y.snd.snd.snd) (bs x.snd.snd.snd) ∧ True) ∧ True) ∧ x.snd.snd.fst = y.snd.snd.fst ∧ ic x.snd.fst + ic (decN (List.drop x.snd.fst s)) = ic y.snd.fst ∧ True else False else bif ltI x.snd.snd.fst (0 : Int) then bif leI (ic x.snd.fst + ic (decN (List.drop x.snd.fst s))) (9223372036854775807 : Int) then (∃ (y : Nat × Nat × Int), (wordsA s y.fst y.snd.fst y.snd.snd [] = oneT s ∧ y.snd.fst ≤ s.length ∧ y.snd.snd < ic y.snd.fst ∧ s.length ≤ y.snd.fst + y.fst) ∧ s.length - y.snd.fst < s.length - x.snd.fst ∧ (gsOneW1 s fT aT) ∧ ic x.snd.fst = y.snd.snd ∧ ic x.snd.fst + ic (decN (List.drop x.snd.fst s)) = ic y.snd.fst ∧ True) ∨ ∃ (y : Nat × Nat × Int × List UInt8), (wordsA s y.fst y.snd.fst y.snd.snd.fst y.snd.snd.snd = oneT s ∧ y.snd.fst ≤ s.length ∧ y.snd.snd.fst < ic y.snd.fst ∧ s.length ≤ y.snd.fst + y.fst ∧ y.snd.snd.snd ≠ [] ∧ y.snd.snd.snd.length ≤ 2 * y.snd.fst ∧ ((0 : Int) ≤ y.snd.snd.fst → ↑y.snd.snd.snd.length ≤ (2 : Int) * y.snd.snd.fst)) ∧ s.length - y.snd.fst < s.length - x.snd.fst ∧ ((2 = 2 ∧ cellsP gqOneW1 fT fT) ∧ (3 = 3 ∧ cellsP gqOneW1 aT aT) ∧ ((0 = 0 ∧ (0 = 0 ∧ x.snd.snd.snd.length = y.snd.snd.snd.length ∧ x.snd.snd.snd.length = y.snd.snd.snd.length ∧ false = false) ∧ True) ∧ True) ∧ ((s = s ∧ True) ∧ True) ∧ (gsOneW3) ∧ True ∧ (gsOneW0 s) ∧ (cellsP gqOneW1 (bs y.snd.snd.snd) (bs x.snd.snd.snd) ∧ True) ∧ True) ∧ ic x.snd.fst = y.snd.snd.fst ∧ ic x.snd.fst + ic (decN (List.drop x.snd.fst s)) = ic y.snd.fst ∧ True else False else bif leI (ic x.snd.fst + ic (decN (List.drop x.snd.fst s))) (9223372036854775807 : Int) then (∃ (y : Nat × Nat × Int), (wordsA s y.fst y.snd.fst y.snd.snd [] = oneT s ∧ y.snd.fst ≤ s.length ∧ y.snd.snd < ic y.snd.fst ∧ s.length ≤ y.snd.fst + y.fst) ∧ s.length - y.snd.fst < s.length - x.snd.fst ∧ (gsOneW1 s fT aT) ∧ x.snd.snd.fst = y.snd.snd ∧ ic x.snd.fst + ic (decN (List.drop x.snd.fst s)) = ic y.snd.fst ∧ True) ∨ ∃ (y : Nat × Nat × Int × List UInt8), (wordsA s y.fst y.snd.fst y.snd.snd.fst y.snd.snd.snd = oneT s ∧ y.snd.fst ≤ s.length ∧ y.snd.snd.fst < ic y.snd.fst ∧ s.length ≤ y.snd.fst + y.fst ∧ y.snd.snd.snd ≠ [] ∧ y.snd.snd.snd.length ≤ 2 * y.snd.fst ∧ ((0 : Int) ≤ y.snd.snd.fst → ↑y.snd.snd.snd.length ≤ (2 : Int) * y.snd.snd.fst)) ∧ s.length - y.snd.fst < s.length - x.snd.fst ∧ ((2 = 2 ∧ cellsP gqOneW1 fT fT) ∧ (3 = 3 ∧ cellsP gqOneW1 aT aT) ∧ ((0 = 0 ∧ (0 = 0 ∧ x.snd.snd.snd.length = y.snd.snd.snd.length ∧ x.snd.snd.snd.length = y.snd.snd.snd.length ∧ false = false) ∧ True) ∧ True) ∧ ((s = s ∧ True) ∧ True) ∧ (gsOneW3) ∧ True ∧ (gsOneW0 s) ∧ (cellsP gqOneW1 (bs y.snd.snd.snd) (bs x.snd.snd.snd) ∧ True) ∧ True) ∧ x.snd.snd.fst = y.snd.snd.fst ∧ ic x.snd.fst + ic (decN (List.drop x.snd.fst s)) = ic y.snd.fst ∧ True else False else False else bif leI (0 : Int) x.snd.snd.fst then bif leI (0 : Int) x.snd.snd.fst && leI x.snd.snd.fst (ic s.length) then bif ltI (0 : Int) (ic x.snd.snd.snd.length) then bif decide (x.snd.snd.snd.length ≤ x.snd.snd.snd.length) && decide (0 + x.snd.snd.snd.length * 1 ≤ (bs x.snd.snd.snd).length) then bif decide (x.snd.snd.snd.length < x.snd.snd.snd.length + 1) then bif decide (x.snd.snd.snd.length + 1 ≤ 9223372036854775807) && decide ((x.snd.snd.snd.length + 1) * 1 ≤ 140737488355328) then bif decide (x.snd.snd.snd.length = x.snd.snd.snd.length) && (decide (0 + x.snd.snd.snd.length * 1 = (bs x.snd.snd.snd).length) && true) then bif decide (x.snd.snd.snd.length + 1 ≤ x.snd.snd.snd.length + 1) && decide (0 + (x.snd.snd.snd.length + 1) * 1 ≤ (List.drop 0 (bs x.snd.snd.snd) ++ [AV.int IntKind.u8 (32 : Int)]).length) then bif decide (x.snd.snd.snd.length + 1 < x.snd.snd.snd.length + 1 + (List.drop x.snd.snd.fst.toNat s).length) then bif decide (x.snd.snd.snd.length + 1 + (List.drop x.snd.snd.fst.toNat s).length ≤ 9223372036854775807) && decide ((x.snd.snd.snd.length + 1 + (List.drop x.snd.snd.fst.toNat s).length) * 1 ≤ 140737488355328) then bif decide (x.snd.snd.snd.length + 1 = x.snd.snd.snd.length + 1) && (decide (0 + (x.snd.snd.snd.length + 1) * 1 = (List.drop 0 (bs x.snd.snd.snd) ++ [AV.int IntKind.u8 (32 : Int)]).length) && AV.allOne (List.map (fun (c : UInt8) => AV.int IntKind.u8 (ic c.toNat)) (List.drop x.snd.snd.fst.toNat s))) then bif Nat.ble 1 (x.snd.snd.snd.length + 1 + (List.drop x.snd.snd.fst.toNat s).length) then ((0 : Int) < ic (x.snd.snd.snd.length + 1 + (List.drop x.snd.snd.fst.toNat s).length) ∧ ic (x.snd.snd.snd.length + 1 + (List.drop x.snd.snd.fst.toNat s).length) ≤ (9223372036854775807 : Int) ∧ 0 + (x.snd.snd.snd.length + 1 + (List.drop x.snd.snd.fst.toNat s).length) ≤ (List.drop 0 (List.drop 0 (bs x.snd.snd.snd) ++ [AV.int IntKind.u8 (32 : Int)]) ++ List.map (fun (c : UInt8) => AV.int IntKind.u8 (ic c.toNat)) (List.drop x.snd.snd.fst.toNat s)).length) ∧ abytes (List.take (x.snd.snd.snd.length + 1 + (List.drop x.snd.snd.fst.toNat s).length) (List.drop 0 (List.drop 0 (List.drop 0 (bs x.snd.snd.snd) ++ [AV.int IntKind.u8 (32 : Int)]) ++ List.map (fun (c : UInt8) => AV.int IntKind.u8 (ic c.toNat)) (List.drop x.snd.snd.fst.toNat s)))) = some (oneT s) ∧ ∃ (_x : Unit), True ∧ ((2 = 2 ∧ cellsP (fun (b : Nat) => [0, 1].getD b 11) fT fT) ∧ (3 = 3 ∧ cellsP (fun (b : Nat) => [0, 1].getD b 11) aT aT) ∧ True) ∧ oneT s = oneT s ∧ True else False else False else False else False else False else False else False else False else False else bif decide (x.snd.snd.snd.length ≤ x.snd.snd.snd.length) && decide (0 + x.snd.snd.snd.length * 1 ≤ (bs x.snd.snd.snd).length) then bif decide (x.snd.snd.snd.length < x.snd.snd.snd.length + (List.drop x.snd.snd.fst.toNat s).length) then bif decide (x.snd.snd.snd.length + (List.drop x.snd.snd.fst.toNat s).length ≤ 9223372036854775807) && decide ((x.snd.snd.snd.length + (List.drop x.snd.snd.fst.toNat s).length) * 1 ≤ 140737488355328) then bif decide (x.snd.snd.snd.length = x.snd.snd.snd.length) && (decide (0 + x.snd.snd.snd.length * 1 = (bs x.snd.snd.snd).length) && AV.allOne (List.map (fun (c : UInt8) => AV.int IntKind.u8 (ic c.toNat)) (List.drop x.snd.snd.fst.toNat s))) then bif Nat.ble 1 (x.snd.snd.snd.length + (List.drop x.snd.snd.fst.toNat s).length) then ((0 : Int) < ic (x.snd.snd.snd.length + (List.drop x.snd.snd.fst.toNat s).length) ∧ ic (x.snd.snd.snd.length + (List.drop x.snd.snd.fst.toNat s).length) ≤ (9223372036854775807 : Int) ∧ 0 + (x.snd.snd.snd.length + (List.drop x.snd.snd.fst.toNat s).length) ≤ (List.drop 0 (bs x.snd.snd.snd) ++ List.map (fun (c : UInt8) => AV.int IntKind.u8 (ic c.toNat)) (List.drop x.snd.snd.fst.toNat s)).length) ∧ abytes (List.take (x.snd.snd.snd.length + (List.drop x.snd.snd.fst.toNat s).length) (List.drop 0 (List.drop 0 (bs x.snd.snd.snd) ++ List.map (fun (c : UInt8) => AV.int IntKind.u8 (ic c.toNat)) (List.drop x.snd.snd.fst.toNat s)))) = some (oneT s) ∧ ∃ (_x : Unit), True ∧ ((2 = 2 ∧ cellsP (fun (b : Nat) => [0, 1].getD b 9) fT fT) ∧ (3 = 3 ∧ cellsP (fun (b : Nat) => [0, 1].getD b 9) aT aT) ∧ True) ∧ oneT s = oneT s ∧ True else False else False else False else False else False else False else bif Nat.ble 1 x.snd.snd.snd.length then ((0 : Int) < ic x.snd.snd.snd.length ∧ ic x.snd.snd.snd.length ≤ (9223372036854775807 : Int) ∧ 0 + x.snd.snd.snd.length ≤ (bs x.snd.snd.snd).length) ∧ abytes (List.take x.snd.snd.snd.length (List.drop 0 (bs x.snd.snd.snd))) = some (oneT s) ∧ ∃ (_x : Unit), True ∧ ((2 = 2 ∧ cellsP gqOneW2 fT fT) ∧ (3 = 3 ∧ cellsP gqOneW2 aT aT) ∧ True) ∧ oneT s = oneT s ∧ True else False) := by kernel_rfl
theorem wh_vc (r : Int) : vWh r := by
  rw [vWh_eq]
  unfold whI
  rw [eqI_eq, eqI_eq]
  by_cases h1 : r = 32 <;> by_cases h2 : r = 9 <;> simp [h1, h2]
theorem flats_ints (f : Nat → Nat) : ∀ l : List Nat, AV.flats (l.map fun c => AV.int .u8 (f c)) = true
  | [] => rfl
  | a :: r => by
    have := flats_ints f r
    rw [List.map_cons]
    simp only [AV.flats, this, AV.flat, Bool.and_true]
theorem flats_pairs (f g : Nat → Nat) : ∀ l : List Nat, AV.flats (l.flatMap fun c => [AV.int .u8 (f c), AV.int .u8 (g c)]) = true
  | [] => rfl
  | a :: r => by
    have := flats_pairs f g r
    rw [List.flatMap_cons]
    simp only [List.cons_append, List.nil_append, AV.flats, this, AV.flat, Bool.and_true]
theorem whI_cast (n : Nat) : whI n = whR n := by
  unfold whI whR
  by_cases h1 : n = 32
  · subst h1; rfl
  · by_cases h2 : n = 9
    · subst h2; rfl
    · rw [decide_eq_false (by omega), decide_eq_false (by omega), decide_eq_false (by omega)]; rfl
theorem one_bs : ∀ l : List UInt8, AV.allOne (l.map fun c => AV.int .u8 (c.toNat : Int)) = true
  | [] => rfl
  | a :: r => by
    have := one_bs r
    simp only [List.map_cons, AV.allOne] at this ⊢
    rw [this]; rfl
theorem bs_app (a b : List UInt8) : bs (a ++ b) = bs a ++ bs b := by simp [bs]
theorem bs_take (l : List UInt8) (n : Nat) (h : n = l.length) : abytes ((bs l).take n) = some l := by
  rw [List.take_of_length_le (by rw [bs_length]; omega), bs_bytes]
theorem part_len {s : List UInt8} {i : Nat} (a : Nat) (h : i ≤ s.length) : ((s.drop a).take (i - a)).length = i - a := by
  simp only [List.length_take, List.length_drop]; omega
theorem addW_ne {out w : List UInt8} (h : out ≠ []) : addW out w = out ++ [32] ++ w := by unfold addW; rw [if_neg h]
theorem addW_nil (w : List UInt8) : addW [] w = w := by unfold addW; rw [if_pos rfl]
theorem words_end {s : List UInt8} {k i : Nat} {st : Int} {out : List UInt8} (h : s.length ≤ i) : wordsA s k i st out = if 0 ≤ st then addW out (s.drop st.toNat) else out := by
  cases k with
  | zero => rfl
  | succ k => rw [wordsA, if_neg (by omega)]
theorem one_vc (s : List UInt8) (fT aT : List AV) (hs : s.length ≤ 1099511627776) (hT : utf8T fT aT) : vOne s fT aT := by
  have hf : ∀ σ, cellsP σ fT fT = True := fun σ => eq_true (cells_refl (by rw [hT.1]; exact flats_ints _ _))
  have ha : ∀ σ, cellsP σ aT aT = True := fun σ => eq_true (cells_refl (by rw [hT.2]; exact flats_pairs _ _ _))
  rw [vOne_eq]
  simp only [gsOneW0, gsOneW1, gsOneW2, gsOneW3]
  simp only [ic, cond_F]
  simp only [cond_P, leI_t, leI_f, ltI_t, ltI_f, eqI_t, eqI_f, and_t, not_t, not_f, dec_t, dec_f, Nat.zero_add, Nat.mul_one, List.drop_zero]
  simp only [hf, ha, hT, bs_length, List.length_map, and_true, true_and, and_false, false_and, or_false, false_or, exists_false, Nat.le_refl, exists_const, false_implies, not_false_eq_true, true_implies, List.length_append, List.length_cons, List.length_nil, Nat.lt_add_one]
  have hdn : ∀ i, i < s.length → s.drop i ≠ [] ∧ 1 ≤ decN (s.drop i) ∧ i + decN (s.drop i) ≤ s.length := fun i hi => by
    have h0 : s.drop i ≠ [] := fun e => by
      have := congrArg List.length e
      rw [List.length_drop, List.length_nil] at this; omega
    have h1 := decN_pos h0
    have h2 := decN_le h0
    rw [List.length_drop] at h2
    exact ⟨h0, h1, by omega⟩
  refine ⟨⟨(s.length, 0, -1), ⟨rfl, Nat.zero_le _, by show (-1 : Int) < ((0 : Nat) : Int); decide, by simp⟩, rfl, rfl⟩, ?_, ?_⟩
  · rintro ⟨k, i, st⟩ ⟨hw, hi, hst, hk⟩
    dsimp only at hw hi hst hk ⊢
    refine ⟨fun hlt => ?_, fun hge => ?_⟩
    · have hi' : i < s.length := by omega
      obtain ⟨h0, h1, h2⟩ := hdn i hi'
      obtain ⟨k, rfl⟩ : ∃ k', k = k' + 1 := ⟨k - 1, by omega⟩
      rw [wordsA, if_pos hi'] at hw
      generalize decN (s.drop i) = n at *
      refine ⟨by omega, fun hwh => ?_, fun hwh => ?_⟩
      · rw [whI_cast] at hwh
        rw [if_pos hwh] at hw
        refine ⟨fun h3 => ?_, fun h3 => ?_⟩
        · obtain ⟨a, rfl⟩ : ∃ a : Nat, st = a := ⟨st.toNat, by omega⟩
          rw [if_pos h3, addW_nil] at hw
          simp only [Int.toNat_natCast] at hw ⊢
          have hp := part_len (s := s) a hi
          refine ⟨by omega, ⟨h3, by omega⟩, by omega, ⟨by omega, by omega⟩, by omega, (k, i + n, -1, (s.drop a).take (i - a)), ⟨hw, ?_, ?_, ?_, ?_, ?_, ?_⟩, ?_, ⟨⟨rfl, rfl⟩, cellsP_flat (bs_flat _) rfl⟩, rfl, rfl⟩ <;> dsimp only
          · omega
          · omega
          · omega
          · intro e; rw [e] at hp; rw [List.length_nil] at hp; omega
          · omega
          · omega
          · omega
        · rw [if_neg (by omega)] at hw
          refine ⟨by omega, (k, i + n, st), ⟨hw, ?_, ?_, ?_⟩, ?_, rfl, rfl⟩ <;> dsimp only <;> omega
      · rw [whI_cast] at hwh
        rw [if_neg (by rw [hwh]; decide)] at hw
        refine ⟨fun h3 => ?_, fun h3 => ?_⟩
        · rw [if_pos h3] at hw
          refine ⟨by omega, (k, i + n, (i : Int)), ⟨hw, ?_, ?_, ?_⟩, ?_, rfl, rfl⟩ <;> dsimp only <;> omega
        · rw [if_neg (by omega)] at hw
          refine ⟨by omega, (k, i + n, st), ⟨hw, ?_, ?_, ?_⟩, ?_, rfl, rfl⟩ <;> dsimp only <;> omega
    · rw [words_end (by omega)] at hw
      refine ⟨fun h3 => ?_, fun h3 => ?_⟩
      · obtain ⟨a, rfl⟩ : ∃ a : Nat, st = a := ⟨st.toNat, by omega⟩
        rw [if_pos h3, addW_nil] at hw
        simp only [Int.toNat_natCast] at hw ⊢
        have hl : (s.drop a).length = s.length - a := List.length_drop
        refine ⟨⟨h3, by omega⟩, by omega, ⟨by omega, by omega⟩, Nat.ble_eq_true_of_le (by omega), ⟨by omega, by omega⟩, ?_⟩
        rw [← hw]
        exact bs_take _ _ rfl
      · rw [if_neg (by omega)] at hw
        rw [← hw]
  · rintro ⟨k, i, st, out⟩ ⟨hw, hi, hst, hk, ho, hl1, hl2⟩
    dsimp only at hw hi hst hk ho hl1 hl2 ⊢
    have hop : 0 < out.length := List.length_pos_iff.2 ho
    refine ⟨fun hlt => ?_, fun hge => ?_⟩
    · have hi' : i < s.length := by omega
      obtain ⟨h0, h1, h2⟩ := hdn i hi'
      obtain ⟨k, rfl⟩ : ∃ k', k = k' + 1 := ⟨k - 1, by omega⟩
      rw [wordsA, if_pos hi'] at hw
      generalize decN (s.drop i) = n at *
      refine ⟨by omega, fun hwh => ?_, fun hwh => ?_⟩
      · rw [whI_cast] at hwh
        rw [if_pos hwh] at hw
        refine ⟨fun h3 => ?_, fun h3 => ?_⟩
        · obtain ⟨a, rfl⟩ : ∃ a : Nat, st = a := ⟨st.toNat, by omega⟩
          rw [if_pos h3, addW_ne ho] at hw
          simp only [Int.toNat_natCast] at hw ⊢
          have hp := part_len (s := s) a hi
          have hl3 := hl2 h3
          refine ⟨by omega, ⟨h3, by omega⟩, fun _ => ⟨⟨by omega, by omega⟩, by omega, ⟨by omega, by omega⟩, one_bs _, by omega, (k, i + n, -1, out ++ [32] ++ (s.drop a).take (i - a)), ⟨hw, ?_, ?_, ?_, ?_, ?_, ?_⟩, ?_, ⟨⟨?_, ?_⟩, cellsP_flat (bs_flat _) ?_⟩, rfl, rfl⟩, fun h => ?_⟩ <;> (try dsimp only)
          · omega
          · omega
          · omega
          · simp [ho]
          · simp only [List.length_append, List.length_cons, List.length_nil]; omega
          · intro h; omega
          · omega
          · simp only [List.length_append, List.length_cons, List.length_nil]
          · simp only [List.length_append, List.length_cons, List.length_nil]
          · rw [bs_app, bs_app]; rfl
          · omega
        · rw [if_neg (by omega)] at hw
          refine ⟨by omega, (k, i + n, st, out), ⟨hw, ?_, ?_, ?_, ho, ?_, ?_⟩, ?_, ⟨⟨rfl, rfl⟩, cellsP_flat (bs_flat _) rfl⟩, rfl, rfl⟩ <;> dsimp only <;> omega
      · rw [whI_cast] at hwh
        rw [if_neg (by rw [hwh]; decide)] at hw
        refine ⟨fun h3 => ?_, fun h3 => ?_⟩
        · rw [if_pos h3] at hw
          refine ⟨by omega, (k, i + n, (i : Int), out), ⟨hw, ?_, ?_, ?_, ho, ?_, ?_⟩, ?_, ⟨⟨rfl, rfl⟩, cellsP_flat (bs_flat _) rfl⟩, rfl, rfl⟩ <;> dsimp only <;> omega
        · rw [if_neg (by omega)] at hw
          refine ⟨by omega, (k, i + n, st, out), ⟨hw, ?_, ?_, ?_, ho, ?_, ?_⟩, ?_, ⟨⟨rfl, rfl⟩, cellsP_flat (bs_flat _) rfl⟩, rfl, rfl⟩ <;> dsimp only <;> omega
    · rw [words_end (by omega)] at hw
      refine ⟨fun h3 => ?_, fun h3 => ?_⟩
      · obtain ⟨a, rfl⟩ : ∃ a : Nat, st = a := ⟨st.toNat, by omega⟩
        rw [if_pos h3, addW_ne ho] at hw
        simp only [Int.toNat_natCast] at hw ⊢
        have hl : (s.drop a).length = s.length - a := List.length_drop
        have hl3 := hl2 h3
        refine ⟨⟨h3, by omega⟩, fun _ => ⟨⟨by omega, by omega⟩, by omega, ⟨by omega, by omega⟩, one_bs _, Nat.ble_eq_true_of_le (by omega), ⟨by omega, by omega⟩, ?_⟩, fun h => by omega⟩
        rw [← hw]
        have := bs_take (out ++ [32] ++ s.drop a) (out.length + 1 + (s.drop a).length) (by simp only [List.length_append, List.length_cons, List.length_nil])
        rw [bs_app, bs_app] at this
        exact this
      · rw [if_neg (by omega)] at hw
        refine ⟨Nat.ble_eq_true_of_le (by omega), ⟨by omega, by omega⟩, ?_⟩
        rw [← hw]
        exact bs_take _ _ rfl
end Go.Proofs.YtciciemaldbidaaGreatDoor

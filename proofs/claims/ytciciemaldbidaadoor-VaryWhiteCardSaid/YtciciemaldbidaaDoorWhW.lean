/- The law VaryWhite, walked. -/
import Derived.Test.YtciciemaldbidaaDoorWhP
set_option linter.unusedSimpArgs false
set_option linter.unusedVariables false
namespace Go.Proofs.YtciciemaldbidaaDoor
open Go Go.Ve
set_option maxRecDepth 20000
def gLivW (args : List AV) : Option (Bool × AV) := match args with | [] => some (true, .bool true) | _ => none
noncomputable def TWh : List (Nat × SpecE) := [(19, flatE gLivW), (26, eLitW), (27, flatE (g1 le40 fun s => .bool (tokR s))), (28, eTimes), (23, flatE (g1 le40 fun s => .str (lower s))), (30, eVal)]
noncomputable def faWh (f : FuncId) : Option FA := match Nat.beq f 51 with
  | true => some ⟨[(1, .quiet)], [], []⟩
  | false => some ⟨[], [], []⟩
noncomputable def VWi : VE := ⟨Tryd.prog, tabS TWh noS, noO, faWh⟩
def gTm (w : List UInt8) (i : Nat) : List UInt8 := tms (1 + byteAt w i % 4).toNat
noncomputable def eFw : Nat := btag Tryd.prog 42 2
noncomputable def aWh (l : LL) (w nm : List UInt8) : Anns := [(9, [
  .mk Unit (fun _ => [(11, .int .i64 0), (7, .str []), (8, .str []), (10, .str []), (9, .nilsl)]) (fun _ => none) (fun _ => True) (fun _ => l.length + 1) gcB gcB (fun _ => [(50, .str (l.getD 0 [])), (73, .str (l.getD 0 [])), (79, .str (l.getD 0 [])), (85, .str (l.getD 0 [])), (92, .str (l.getD 0 []))]) (fun _ => []),
  .mk (Nat × Nat) (fun x => [(11, .int .i64 ((x.1 + 1 : Nat) : Int)), (7, .str (sepI l g32 x.2)), (8, .str (sepI l (gTm w) x.2)), (10, .str (sepI l gCm x.2)), (9, .sl 4 0 x.2 x.2 false)]) (fun x => some [keepB, keepB, keepB, keepB, .cells (fieldC (lF nm l x.2)) eFw false]) (fun x => x.2 = x.1 + 1 ∧ x.2 ≤ l.length ∧ ∀ p ∈ l.take x.2, tokR p = true) (fun x => l.length - x.1) gcB gcB (fun x => [(50, .str (l.getD x.2 [])), (73, .str (l.getD x.2 [])), (79, .str (l.getD x.2 [])), (85, .str (l.getD x.2 [])), (92, .str (l.getD x.2 [])), (61, .int .u8 (byteAt w x.2)), (95, .nilsl)]) (fun _ => [])])]

noncomputable def vWhA  (l r : LL) (w wr nm : List UInt8) (fT aT : List AV) : Prop := vcF VWi [(15, .quiet)] 300 (aWh l w nm) [] 5 [.sl 2 0 l.length (l.length + r.length) true, .sl 3 0 w.length (w.length + wr.length) true, .str nm] [gFst fT, gAcc aT, .cells (ts (l ++ r)) 0 true, .cells (bs (w ++ wr)) 0 true] [⟨Unit, fun _ => .bool true, fun _ => [gFst fT, gAcc aT, .cells (ts (l ++ r)) 0 true, .cells (bs (w ++ wr)) 0 true], fun _ => True, gcB⟩]
def gqWhW0 : Nat → Nat := (fun (b : Nat) => [(0 : Nat), (1 : Nat), (2 : Nat), (3 : Nat)].getD b (4 : Nat))
def gqWhW1 : Nat → Nat := (fun (b : Nat) => [(0 : Nat), (1 : Nat), (2 : Nat), (3 : Nat)].getD b (7 : Nat))
def gqWhW2 : Nat → Nat := (fun (b : Nat) => [(0 : Nat), (1 : Nat), (2 : Nat), (3 : Nat), (6 : Nat)].getD b (7 : Nat))
def gqWhW3 : Nat → Nat := (fun (b : Nat) => [(0 : Nat), (1 : Nat), (2 : Nat), (3 : Nat)].getD b (11 : Nat))
def gqWhW4 : Nat → Nat := (fun (b : Nat) => [(0 : Nat), (1 : Nat), (2 : Nat), (3 : Nat)].getD b (14 : Nat))
def gqWhW5 : Nat → Nat := (fun (b : Nat) => [(0 : Nat), (1 : Nat), (2 : Nat), (3 : Nat)].getD b (5 : Nat))
def gqWhW6 : Nat → Nat := (fun (b : Nat) => [(0 : Nat), (1 : Nat), (2 : Nat), (3 : Nat)].getD b (8 : Nat))
def gqWhW7 : Nat → Nat := (fun (b : Nat) => [(0 : Nat), (1 : Nat), (2 : Nat), (3 : Nat), (7 : Nat)].getD b (8 : Nat))
def gqWhW8 : Nat → Nat := (fun (b : Nat) => [(0 : Nat), (1 : Nat), (2 : Nat), (3 : Nat)].getD b (12 : Nat))
def gqWhW9 : Nat → Nat := (fun (b : Nat) => [(0 : Nat), (1 : Nat), (2 : Nat), (3 : Nat)].getD b (15 : Nat))
def gqWhW10 : Nat → Nat := (fun (b : Nat) => [(0 : Nat), (1 : Nat), (2 : Nat), (3 : Nat)].getD b (17 : Nat))
theorem vWhA_eq  (l r : LL) (w wr nm : List UInt8) (fT aT : List AV) : vWhA l r w wr nm fT aT = (bif ltI (10 : Int) (ic (List.length l)) then ∃ (_x : Unit), True ∧ (((4 : Nat) = (4 : Nat) ∧ cellsP gqWhW0 fT fT) ∧ ((5 : Nat) = (5 : Nat) ∧ cellsP gqWhW0 aT aT) ∧ (cellsP gqWhW0 (ts (l ++ r)) (ts (l ++ r)) ∧ True) ∧ (cellsP gqWhW0 (bs (w ++ wr)) (bs (w ++ wr)) ∧ True) ∧ True) ∧ true = true ∧ True else bif ltI (ic w.length) (ic (List.length l)) then ∃ (_x : Unit), True ∧ (((4 : Nat) = (4 : Nat) ∧ cellsP gqWhW0 fT fT) ∧ ((5 : Nat) = (5 : Nat) ∧ cellsP gqWhW0 aT aT) ∧ (cellsP gqWhW0 (ts (l ++ r)) (ts (l ++ r)) ∧ True) ∧ (cellsP gqWhW0 (bs (w ++ wr)) (bs (w ++ wr)) ∧ True) ∧ True) ∧ true = true ∧ True else (ts (l ++ r) = ts (getS (ts (l ++ r))) ∧ List.length l ≤ List.length (getS (ts (l ++ r))) ∧ ∀ (s : List UInt8), List.Mem s (List.take (List.length l) (getS (ts (l ++ r)))) → s.length ≤ (281474976710656 : Nat)) ∧ bif !litW (List.take (List.length l) (getS (ts (l ++ r)))) then ∃ (_x : Unit), True ∧ (((4 : Nat) = (4 : Nat) ∧ cellsP gqWhW0 fT fT) ∧ ((5 : Nat) = (5 : Nat) ∧ cellsP gqWhW0 aT aT) ∧ (cellsP gqWhW0 (ts (l ++ r)) (ts (l ++ r)) ∧ True) ∧ (cellsP gqWhW0 (bs (w ++ wr)) (bs (w ++ wr)) ∧ True) ∧ True) ∧ true = true ∧ True else bif ltI (40 : Int) (ic nm.length) then ∃ (_x : Unit), True ∧ (((4 : Nat) = (4 : Nat) ∧ cellsP gqWhW0 fT fT) ∧ ((5 : Nat) = (5 : Nat) ∧ cellsP gqWhW0 aT aT) ∧ (cellsP gqWhW0 (ts (l ++ r)) (ts (l ++ r)) ∧ True) ∧ (cellsP gqWhW0 (bs (w ++ wr)) (bs (w ++ wr)) ∧ True) ∧ True) ∧ true = true ∧ True else bif le40 nm then bif !tokR nm then ∃ (_x : Unit), True ∧ (((4 : Nat) = (4 : Nat) ∧ cellsP gqWhW0 fT fT) ∧ ((5 : Nat) = (5 : Nat) ∧ cellsP gqWhW0 aT aT) ∧ (cellsP gqWhW0 (ts (l ++ r)) (ts (l ++ r)) ∧ True) ∧ (cellsP gqWhW0 (bs (w ++ wr)) (bs (w ++ wr)) ∧ True) ∧ True) ∧ true = true ∧ True else ((∃ (_x : Unit), True ∧ (((4 : Nat) = (4 : Nat) ∧ cellsP gqWhW0 fT fT) ∧ ((5 : Nat) = (5 : Nat) ∧ cellsP gqWhW0 aT aT) ∧ (cellsP gqWhW0 (ts (l ++ r)) (ts (l ++ r)) ∧ True) ∧ (cellsP gqWhW0 (bs (w ++ wr)) (bs (w ++ wr)) ∧ True) ∧ True) ∧ (0 : Int) = (0 : Int) ∧ ([] : List UInt8) = [] ∧ ([] : List UInt8) = [] ∧ ([] : List UInt8) = [] ∧ True ∧ True) ∨ ∃ (x : Nat × Nat), (x.snd = x.fst + (1 : Nat) ∧ x.snd ≤ List.length l ∧ ∀ (p : List UInt8), p ∈ List.take x.snd l → tokR p = true) ∧ False) ∧ (∀ (x : Unit), True → bif ltI (0 : Int) (ic (List.length l)) then bif ltI (0 : Int) (ic (List.length l)) then (ts (l ++ r))[(0 : Nat)]? = some (AV.str (List.getD l (0 : Nat) [])) ∧ bif le40 (List.getD l (0 : Nat) []) then bif !tokR (List.getD l (0 : Nat) []) then ∃ (_x : Unit), True ∧ (((4 : Nat) = (4 : Nat) ∧ cellsP gqWhW0 fT fT) ∧ ((5 : Nat) = (5 : Nat) ∧ cellsP gqWhW0 aT aT) ∧ (cellsP gqWhW0 (ts (l ++ r)) (ts (l ++ r)) ∧ True) ∧ (cellsP gqWhW0 (bs (w ++ wr)) (bs (w ++ wr)) ∧ True) ∧ True) ∧ true = true ∧ True else bif ltI (0 : Int) (ic (List.length l)) then (ts (l ++ r))[(0 : Nat)]? = some (AV.str (List.getD l (0 : Nat) [])) ∧ bif decide ((0 : Nat) + (List.getD l (0 : Nat) []).length ≤ (9223372036854775807 : Nat)) then bif ltI (0 : Int) (ic (List.length l)) then (ts (l ++ r))[(0 : Nat)]? = some (AV.str (List.getD l (0 : Nat) [])) ∧ bif decide ((0 : Nat) + (List.getD l (0 : Nat) []).length ≤ (9223372036854775807 : Nat)) then bif ltI (0 : Int) (ic (List.length l)) then (ts (l ++ r))[(0 : Nat)]? = some (AV.str (List.getD l (0 : Nat) [])) ∧ bif decide ((0 : Nat) + (List.getD l (0 : Nat) []).length ≤ (9223372036854775807 : Nat)) then bif ltI (0 : Int) (ic (List.length l)) then (ts (l ++ r))[(0 : Nat)]? = some (AV.str (List.getD l (0 : Nat) [])) ∧ ((∃ (_x : Unit), True ∧ List.length l + (1 : Nat) < List.length l + (1 : Nat) ∧ (((4 : Nat) = (4 : Nat) ∧ cellsP gqWhW1 fT fT) ∧ ((5 : Nat) = (5 : Nat) ∧ cellsP gqWhW1 aT aT) ∧ (cellsP gqWhW1 (ts (l ++ r)) (ts (l ++ r)) ∧ True) ∧ (cellsP gqWhW1 (bs (w ++ wr)) (bs (w ++ wr)) ∧ True) ∧ True) ∧ (1 : Int) = (0 : Int) ∧ ([] : List UInt8) ++ List.getD l (0 : Nat) [] = [] ∧ ([] : List UInt8) ++ List.getD l (0 : Nat) [] = [] ∧ ([] : List UInt8) ++ List.getD l (0 : Nat) [] = [] ∧ False ∧ True) ∨ ∃ (y : Nat × Nat), (y.snd = y.fst + (1 : Nat) ∧ y.snd ≤ List.length l ∧ ∀ (p : List UInt8), p ∈ List.take y.snd l → tokR p = true) ∧ List.length l - y.fst < List.length l + (1 : Nat) ∧ (((4 : Nat) = (4 : Nat) ∧ cellsP gqWhW2 fT fT) ∧ ((5 : Nat) = (5 : Nat) ∧ cellsP gqWhW2 aT aT) ∧ (cellsP gqWhW2 (ts (l ++ r)) (ts (l ++ r)) ∧ True) ∧ (cellsP gqWhW2 (bs (w ++ wr)) (bs (w ++ wr)) ∧ True) ∧ (cellsP gqWhW2 (fieldC (lF nm l y.snd)) [AV.str nm, AV.str (List.getD l (0 : Nat) [])] ∧ True) ∧ True) ∧ (1 : Int) = ic (y.fst + (1 : Nat)) ∧ ([] : List UInt8) ++ List.getD l (0 : Nat) [] = sepI l g32 y.snd ∧ ([] : List UInt8) ++ List.getD l (0 : Nat) [] = sepI l (gTm w) y.snd ∧ ([] : List UInt8) ++ List.getD l (0 : Nat) [] = sepI l gCm y.snd ∧ ((0 : Nat) = (0 : Nat) ∧ (1 : Nat) = y.snd ∧ (1 : Nat) = y.snd ∧ false = false) ∧ True) else False else False else False else False else False else False else False else False else False else bif le40 nm then (utf8T fT aT ∧ fldOk [AV.str nm, AV.str []] (1 : Nat) ∧ le40 nm = true) ∧ (utf8T fT aT ∧ fldOk [AV.str (lower nm), AV.str []] (1 : Nat) ∧ le40 nm = true) ∧ bif !decide (valT (fldT [AV.str nm, AV.str []] (1 : Nat)) nm = valT (fldT [AV.str (lower nm), AV.str []] (1 : Nat)) nm) then ∃ (_x : Unit), True ∧ (((4 : Nat) = (4 : Nat) ∧ cellsP gqWhW3 fT fT) ∧ ((5 : Nat) = (5 : Nat) ∧ cellsP gqWhW3 aT aT) ∧ (cellsP gqWhW3 (ts (l ++ r)) (ts (l ++ r)) ∧ True) ∧ (cellsP gqWhW3 (bs (w ++ wr)) (bs (w ++ wr)) ∧ True) ∧ True) ∧ false = true ∧ True else (utf8T fT aT ∧ fldOk [AV.str nm, AV.str []] (1 : Nat) ∧ le40 nm = true) ∧ bif !decide (valT (fldT [AV.str nm, AV.str []] (1 : Nat)) nm = [(43 : UInt8)] ++ []) then ∃ (_x : Unit), True ∧ (((4 : Nat) = (4 : Nat) ∧ cellsP gqWhW3 fT fT) ∧ ((5 : Nat) = (5 : Nat) ∧ cellsP gqWhW3 aT aT) ∧ (cellsP gqWhW3 (ts (l ++ r)) (ts (l ++ r)) ∧ True) ∧ (cellsP gqWhW3 (bs (w ++ wr)) (bs (w ++ wr)) ∧ True) ∧ True) ∧ false = true ∧ True else bif eqI (ic (List.length l)) (0 : Int) then (utf8T fT aT ∧ fldOk [AV.str nm, AV.str []] (1 : Nat) ∧ le40 nm = true) ∧ bif decide (valT (fldT [AV.str nm, AV.str []] (1 : Nat)) nm = [(43 : UInt8)]) then (utf8T fT aT ∧ fldOk [AV.str nm, AV.str []] (1 : Nat) ∧ le40 nm = true) ∧ bif !decide ([(45 : UInt8)] = valT (fldT [AV.str nm, AV.str []] (1 : Nat)) nm) then ∃ (_x : Unit), True ∧ (((4 : Nat) = (4 : Nat) ∧ cellsP gqWhW4 fT fT) ∧ ((5 : Nat) = (5 : Nat) ∧ cellsP gqWhW4 aT aT) ∧ (cellsP gqWhW4 (ts (l ++ r)) (ts (l ++ r)) ∧ True) ∧ (cellsP gqWhW4 (bs (w ++ wr)) (bs (w ++ wr)) ∧ True) ∧ True) ∧ true = true ∧ True else ∃ (_x : Unit), True ∧ (((4 : Nat) = (4 : Nat) ∧ cellsP gqWhW4 fT fT) ∧ ((5 : Nat) = (5 : Nat) ∧ cellsP gqWhW4 aT aT) ∧ (cellsP gqWhW4 (ts (l ++ r)) (ts (l ++ r)) ∧ True) ∧ (cellsP gqWhW4 (bs (w ++ wr)) (bs (w ++ wr)) ∧ True) ∧ True) ∧ false = true ∧ True else ∃ (_x : Unit), True ∧ (((4 : Nat) = (4 : Nat) ∧ cellsP gqWhW3 fT fT) ∧ ((5 : Nat) = (5 : Nat) ∧ cellsP gqWhW3 aT aT) ∧ (cellsP gqWhW3 (ts (l ++ r)) (ts (l ++ r)) ∧ True) ∧ (cellsP gqWhW3 (bs (w ++ wr)) (bs (w ++ wr)) ∧ True) ∧ True) ∧ false = true ∧ True else ∃ (_x : Unit), True ∧ (((4 : Nat) = (4 : Nat) ∧ cellsP gqWhW3 fT fT) ∧ ((5 : Nat) = (5 : Nat) ∧ cellsP gqWhW3 aT aT) ∧ (cellsP gqWhW3 (ts (l ++ r)) (ts (l ++ r)) ∧ True) ∧ (cellsP gqWhW3 (bs (w ++ wr)) (bs (w ++ wr)) ∧ True) ∧ True) ∧ false = true ∧ True else False) ∧ ∀ (x : Nat × Nat), (x.snd = x.fst + (1 : Nat) ∧ x.snd ≤ List.length l ∧ ∀ (p : List UInt8), p ∈ List.take x.snd l → tokR p = true) → bif ltI (ic (x.fst + (1 : Nat))) (ic (List.length l)) then bif ltI (ic (x.fst + (1 : Nat))) (ic (List.length l)) then (ts (l ++ r))[(0 : Nat) + (x.fst + (1 : Nat)) * (1 : Nat)]? = some (AV.str (List.getD l x.snd [])) ∧ bif le40 (List.getD l x.snd []) then bif !tokR (List.getD l x.snd []) then ∃ (_x : Unit), True ∧ (((4 : Nat) = (4 : Nat) ∧ cellsP gqWhW5 fT fT) ∧ ((5 : Nat) = (5 : Nat) ∧ cellsP gqWhW5 aT aT) ∧ (cellsP gqWhW5 (ts (l ++ r)) (ts (l ++ r)) ∧ True) ∧ (cellsP gqWhW5 (bs (w ++ wr)) (bs (w ++ wr)) ∧ True) ∧ True) ∧ true = true ∧ True else bif decide ((sepI l g32 x.snd).length + (1 : Nat) ≤ (9223372036854775807 : Nat)) then bif ltI (ic (x.fst + (1 : Nat))) (ic w.length) then (bs (w ++ wr))[(0 : Nat) + (x.fst + (1 : Nat)) * (1 : Nat)]? = some (AV.int IntKind.u8 (byteAt w x.snd)) ∧ bif leI (byteAt w x.snd % (4 : Int)) (9223372036854775807 : Int) then bif leI ((1 : Int) + byteAt w x.snd % (4 : Int)) (9223372036854775807 : Int) then ((1 : Int) ≤ (1 : Int) + byteAt w x.snd % (4 : Int) ∧ (1 : Int) + byteAt w x.snd % (4 : Int) ≤ (4 : Int)) ∧ bif decide ((sepI l (gTm w) x.snd).length + (tms ((1 : Int) + byteAt w x.snd % (4 : Int)).toNat).length ≤ (9223372036854775807 : Nat)) then bif decide ((sepI l gCm x.snd).length + (2 : Nat) ≤ (9223372036854775807 : Nat)) then bif ltI (ic (x.fst + (1 : Nat))) (ic (List.length l)) then (ts (l ++ r))[(0 : Nat) + (x.fst + (1 : Nat)) * (1 : Nat)]? = some (AV.str (List.getD l x.snd [])) ∧ bif decide ((sepI l g32 x.snd ++ [(32 : UInt8)]).length + (List.getD l x.snd []).length ≤ (9223372036854775807 : Nat)) then bif ltI (ic (x.fst + (1 : Nat))) (ic (List.length l)) then (ts (l ++ r))[(0 : Nat) + (x.fst + (1 : Nat)) * (1 : Nat)]? = some (AV.str (List.getD l x.snd [])) ∧ bif decide ((sepI l (gTm w) x.snd ++ tms ((1 : Int) + byteAt w x.snd % (4 : Int)).toNat).length + (List.getD l x.snd []).length ≤ (9223372036854775807 : Nat)) then bif ltI (ic (x.fst + (1 : Nat))) (ic (List.length l)) then (ts (l ++ r))[(0 : Nat) + (x.fst + (1 : Nat)) * (1 : Nat)]? = some (AV.str (List.getD l x.snd [])) ∧ bif decide ((sepI l gCm x.snd ++ [(44 : UInt8), (32 : UInt8)]).length + (List.getD l x.snd []).length ≤ (9223372036854775807 : Nat)) then bif ltI (ic (x.fst + (1 : Nat))) (ic (List.length l)) then (ts (l ++ r))[(0 : Nat) + (x.fst + (1 : Nat)) * (1 : Nat)]? = some (AV.str (List.getD l x.snd [])) ∧ bif decide (x.snd ≤ x.snd) && decide ((0 : Nat) + x.snd * (2 : Nat) ≤ (fieldC (lF nm l x.snd)).length) then bif decide (x.snd < x.snd + (1 : Nat)) then bif decide (x.snd + (1 : Nat) ≤ (9223372036854775807 : Nat)) && decide ((x.snd + (1 : Nat)) * (32 : Nat) ≤ (140737488355328 : Nat)) then bif decide (x.snd = x.snd) && (decide ((0 : Nat) + x.snd * (2 : Nat) = (fieldC (lF nm l x.snd)).length) && true) then bif leI (ic (x.fst + (1 : Nat)) + (1 : Int)) (9223372036854775807 : Int) then (∃ (_x : Unit), True ∧ List.length l + (1 : Nat) < List.length l - x.fst ∧ (((4 : Nat) = (4 : Nat) ∧ cellsP gqWhW6 fT fT) ∧ ((5 : Nat) = (5 : Nat) ∧ cellsP gqWhW6 aT aT) ∧ (cellsP gqWhW6 (ts (l ++ r)) (ts (l ++ r)) ∧ True) ∧ (cellsP gqWhW6 (bs (w ++ wr)) (bs (w ++ wr)) ∧ True) ∧ True) ∧ ic (x.fst + (1 : Nat)) + (1 : Int) = (0 : Int) ∧ sepI l g32 x.snd ++ [(32 : UInt8)] ++ List.getD l x.snd [] = [] ∧ sepI l (gTm w) x.snd ++ tms ((1 : Int) + byteAt w x.snd % (4 : Int)).toNat ++ List.getD l x.snd [] = [] ∧ sepI l gCm x.snd ++ [(44 : UInt8), (32 : UInt8)] ++ List.getD l x.snd [] = [] ∧ False ∧ True) ∨ ∃ (y : Nat × Nat), (y.snd = y.fst + (1 : Nat) ∧ y.snd ≤ List.length l ∧ ∀ (p : List UInt8), p ∈ List.take y.snd l → tokR p = true) ∧ List.length l - y.fst < List.length l - x.fst ∧ (((4 : Nat) = (4 : Nat) ∧ cellsP gqWhW7 fT fT) ∧ ((5 : Nat) = (5 : Nat) ∧ cellsP gqWhW7 aT aT) ∧ (cellsP gqWhW7 (ts (l ++ r)) (ts (l ++ r)) ∧ True) ∧ (cellsP gqWhW7 (bs (w ++ wr)) (bs (w ++ wr)) ∧ True) ∧ (cellsP gqWhW7 (fieldC (lF nm l y.snd)) (List.drop (0 : Nat) (fieldC (lF nm l x.snd)) ++ [AV.str nm, AV.str (List.getD l x.snd [])]) ∧ True) ∧ True) ∧ ic (x.fst + (1 : Nat)) + (1 : Int) = ic (y.fst + (1 : Nat)) ∧ sepI l g32 x.snd ++ [(32 : UInt8)] ++ List.getD l x.snd [] = sepI l g32 y.snd ∧ sepI l (gTm w) x.snd ++ tms ((1 : Int) + byteAt w x.snd % (4 : Int)).toNat ++ List.getD l x.snd [] = sepI l (gTm w) y.snd ∧ sepI l gCm x.snd ++ [(44 : UInt8), (32 : UInt8)] ++ List.getD l x.snd [] = sepI l gCm y.snd ∧ ((0 : Nat) = (0 : Nat) ∧ x.snd + (1 : Nat) = y.snd ∧ x.snd + (1 : Nat) = y.snd ∧ false = false) ∧ True else False else False else False else False else False else False else False else False else False else False else False else False else False else False else False else False else False else False else False else False else bif le40 nm then (utf8T fT aT ∧ fldOk [AV.str nm, AV.str (sepI l g32 x.snd)] (1 : Nat) ∧ le40 nm = true) ∧ (utf8T fT aT ∧ fldOk [AV.str (lower nm), AV.str (sepI l (gTm w) x.snd)] (1 : Nat) ∧ le40 nm = true) ∧ bif !decide (valT (fldT [AV.str nm, AV.str (sepI l g32 x.snd)] (1 : Nat)) nm = valT (fldT [AV.str (lower nm), AV.str (sepI l (gTm w) x.snd)] (1 : Nat)) nm) then ∃ (_x : Unit), True ∧ (((4 : Nat) = (4 : Nat) ∧ cellsP gqWhW8 fT fT) ∧ ((5 : Nat) = (5 : Nat) ∧ cellsP gqWhW8 aT aT) ∧ (cellsP gqWhW8 (ts (l ++ r)) (ts (l ++ r)) ∧ True) ∧ (cellsP gqWhW8 (bs (w ++ wr)) (bs (w ++ wr)) ∧ True) ∧ True) ∧ false = true ∧ True else (utf8T fT aT ∧ fldOk [AV.str nm, AV.str (sepI l g32 x.snd)] (1 : Nat) ∧ le40 nm = true) ∧ bif decide ((1 : Nat) + (sepI l g32 x.snd).length ≤ (9223372036854775807 : Nat)) then bif !decide (valT (fldT [AV.str nm, AV.str (sepI l g32 x.snd)] (1 : Nat)) nm = [(43 : UInt8)] ++ sepI l g32 x.snd) then ∃ (_x : Unit), True ∧ (((4 : Nat) = (4 : Nat) ∧ cellsP gqWhW8 fT fT) ∧ ((5 : Nat) = (5 : Nat) ∧ cellsP gqWhW8 aT aT) ∧ (cellsP gqWhW8 (ts (l ++ r)) (ts (l ++ r)) ∧ True) ∧ (cellsP gqWhW8 (bs (w ++ wr)) (bs (w ++ wr)) ∧ True) ∧ True) ∧ false = true ∧ True else bif eqI (ic (List.length l)) (0 : Int) then (utf8T fT aT ∧ fldOk (fieldC (lF nm l x.snd)) x.snd ∧ le40 nm = true) ∧ bif decide (valT (fldT (fieldC (lF nm l x.snd)) x.snd) nm = [(45 : UInt8)]) then (utf8T fT aT ∧ fldOk [AV.str nm, AV.str (sepI l g32 x.snd)] (1 : Nat) ∧ le40 nm = true) ∧ bif decide (valT (fldT [AV.str nm, AV.str (sepI l g32 x.snd)] (1 : Nat)) nm = [(43 : UInt8)]) then (utf8T fT aT ∧ fldOk (fieldC (lF nm l x.snd)) x.snd ∧ le40 nm = true) ∧ (utf8T fT aT ∧ fldOk [AV.str nm, AV.str (sepI l g32 x.snd)] (1 : Nat) ∧ le40 nm = true) ∧ bif !decide (valT (fldT (fieldC (lF nm l x.snd)) x.snd) nm = valT (fldT [AV.str nm, AV.str (sepI l g32 x.snd)] (1 : Nat)) nm) then ∃ (_x : Unit), True ∧ (((4 : Nat) = (4 : Nat) ∧ cellsP gqWhW9 fT fT) ∧ ((5 : Nat) = (5 : Nat) ∧ cellsP gqWhW9 aT aT) ∧ (cellsP gqWhW9 (ts (l ++ r)) (ts (l ++ r)) ∧ True) ∧ (cellsP gqWhW9 (bs (w ++ wr)) (bs (w ++ wr)) ∧ True) ∧ True) ∧ true = true ∧ True else ∃ (_x : Unit), True ∧ (((4 : Nat) = (4 : Nat) ∧ cellsP gqWhW9 fT fT) ∧ ((5 : Nat) = (5 : Nat) ∧ cellsP gqWhW9 aT aT) ∧ (cellsP gqWhW9 (ts (l ++ r)) (ts (l ++ r)) ∧ True) ∧ (cellsP gqWhW9 (bs (w ++ wr)) (bs (w ++ wr)) ∧ True) ∧ True) ∧ false = true ∧ True else ∃ (_x : Unit), True ∧ (((4 : Nat) = (4 : Nat) ∧ cellsP gqWhW8 fT fT) ∧ ((5 : Nat) = (5 : Nat) ∧ cellsP gqWhW8 aT aT) ∧ (cellsP gqWhW8 (ts (l ++ r)) (ts (l ++ r)) ∧ True) ∧ (cellsP gqWhW8 (bs (w ++ wr)) (bs (w ++ wr)) ∧ True) ∧ True) ∧ false = true ∧ True else ∃ (_x : Unit), True ∧ (((4 : Nat) = (4 : Nat) ∧ cellsP gqWhW8 fT fT) ∧ ((5 : Nat) = (5 : Nat) ∧ cellsP gqWhW8 aT aT) ∧ (cellsP gqWhW8 (ts (l ++ r)) (ts (l ++ r)) ∧ True) ∧ (cellsP gqWhW8 (bs (w ++ wr)) (bs (w ++ wr)) ∧ True) ∧ True) ∧ false = true ∧ True else (utf8T fT aT ∧ fldOk (fieldC (lF nm l x.snd)) x.snd ∧ le40 nm = true) ∧ bif decide ((1 : Nat) + (sepI l gCm x.snd).length ≤ (9223372036854775807 : Nat)) then bif decide (valT (fldT (fieldC (lF nm l x.snd)) x.snd) nm = [(43 : UInt8)] ++ sepI l gCm x.snd) then (utf8T fT aT ∧ fldOk (fieldC (lF nm l x.snd)) x.snd ∧ le40 nm = true) ∧ (utf8T fT aT ∧ fldOk [AV.str nm, AV.str (sepI l gCm x.snd)] (1 : Nat) ∧ le40 nm = true) ∧ bif !decide (valT (fldT (fieldC (lF nm l x.snd)) x.snd) nm = valT (fldT [AV.str nm, AV.str (sepI l gCm x.snd)] (1 : Nat)) nm) then ∃ (_x : Unit), True ∧ (((4 : Nat) = (4 : Nat) ∧ cellsP gqWhW10 fT fT) ∧ ((5 : Nat) = (5 : Nat) ∧ cellsP gqWhW10 aT aT) ∧ (cellsP gqWhW10 (ts (l ++ r)) (ts (l ++ r)) ∧ True) ∧ (cellsP gqWhW10 (bs (w ++ wr)) (bs (w ++ wr)) ∧ True) ∧ True) ∧ false = true ∧ True else ∃ (_x : Unit), True ∧ (((4 : Nat) = (4 : Nat) ∧ cellsP gqWhW10 fT fT) ∧ ((5 : Nat) = (5 : Nat) ∧ cellsP gqWhW10 aT aT) ∧ (cellsP gqWhW10 (ts (l ++ r)) (ts (l ++ r)) ∧ True) ∧ (cellsP gqWhW10 (bs (w ++ wr)) (bs (w ++ wr)) ∧ True) ∧ True) ∧ true = true ∧ True else ∃ (_x : Unit), True ∧ (((4 : Nat) = (4 : Nat) ∧ cellsP gqWhW8 fT fT) ∧ ((5 : Nat) = (5 : Nat) ∧ cellsP gqWhW8 aT aT) ∧ (cellsP gqWhW8 (ts (l ++ r)) (ts (l ++ r)) ∧ True) ∧ (cellsP gqWhW8 (bs (w ++ wr)) (bs (w ++ wr)) ∧ True) ∧ True) ∧ false = true ∧ True else False else False else False else False) := by kernel_rfl
theorem lw1_eq (c : UInt8) : (low1 c).toNat = if 65 ≤ c.toNat ∧ c.toNat ≤ 90 then c.toNat + 32 else c.toNat := by
  unfold low1
  have h65 : (65 : UInt8).toNat = 65 := rfl
  have h90 : (90 : UInt8).toNat = 90 := rfl
  by_cases h : 65 ≤ c.toNat ∧ c.toNat ≤ 90
  · rw [if_pos h, if_pos (by rw [UInt8.le_iff_toNat_le, UInt8.le_iff_toNat_le, h65, h90]; exact h), UInt8.toNat_add]
    have : (32 : UInt8).toNat = 32 := rfl
    omega
  · rw [if_neg h, if_neg (by rw [UInt8.le_iff_toNat_le, UInt8.le_iff_toNat_le, h65, h90]; exact h)]
theorem lw1_lw1 (c : UInt8) : low1 (low1 c) = low1 c := by
  apply UInt8.toNat_inj.1
  rw [lw1_eq (low1 c), lw1_eq c]
  by_cases h : 65 ≤ c.toNat ∧ c.toNat ≤ 90
  · rw [if_pos h, if_neg (by omega)]
  · rw [if_neg h, if_neg h]
theorem lower_low (s : List UInt8) : lower (lower s) = lower s := by simp [lower, List.map_map, Function.comp_def, lw1_lw1]
theorem getD_sum {l : LL} {x : Nat} (hx : x < l.length) : (l.getD x []).length ≤ sumT l := by
  have h1 := sumT_step hx
  have h2 := sumT_take l (x + 1)
  omega
theorem sep_len {l : LL} {g : Nat → List UInt8} {m : Nat} (hg : ∀ i, (g i).length ≤ m) : ∀ n, n ≤ l.length → (sepI l g n).length ≤ sumT (l.take n) + m * n
  | 0, _ => Nat.zero_le _
  | 1, h => by
    have h1 : sumT (l.take 1) = sumT (l.take 0) + (l.getD 0 []).length := sumT_step (by omega)
    rw [sep_one]; omega
  | n + 2, h => by
    have h1 : sumT (l.take (n + 2)) = sumT (l.take (n + 1)) + (l.getD (n + 1) []).length := sumT_step (by omega)
    have h2 := sep_len (l := l) hg (n + 1) (by omega)
    have h3 := hg (n + 1)
    rw [sep_step, Nat.mul_succ]
    simp only [List.length_append]
    omega
theorem tm_ok {n : Nat} (h1 : 1 ≤ n) (h2 : n ≤ 4) : tms n ≠ [] ∧ (∀ c ∈ tms n, whiC c) ∧ (tms n).length ≤ 8 := by
  have hw : ∀ c ∈ tms n, c = 32 ∨ c = 9 := by
    intro c hc
    unfold tms at hc
    obtain ⟨x, hx, hcx⟩ := List.mem_flatten.1 hc
    rw [List.eq_of_mem_replicate hx] at hcx
    simpa using hcx
  refine ⟨?_, fun c hc => ?_, ?_⟩
  · have h4 : n = 1 ∨ n = 2 ∨ n = 3 ∨ n = 4 := by omega
    rcases h4 with rfl | rfl | rfl | rfl <;> decide
  · rcases hw c hc with rfl | rfl
    · exact .inl rfl
    · exact .inr rfl
  · have h4 : n = 1 ∨ n = 2 ∨ n = 3 ∨ n = 4 := by omega
    rcases h4 with rfl | rfl | rfl | rfl <;> decide
theorem gTm_ok (w : List UInt8) (i : Nat) : gTm w i ≠ [] ∧ (∀ c ∈ gTm w i, whiC c) ∧ (gTm w i).length ≤ 8 := tm_ok (by omega) (by omega)
theorem lF_step {nm : List UInt8} {l : LL} {n : Nat} (h : n < l.length) : lF nm l (n + 1) = lF nm l n ++ [(nm, l.getD n [])] := by
  unfold lF
  rw [List.take_succ_eq_append_getElem h, List.map_append, List.getD_eq_getElem?_getD, List.getElem?_eq_getElem h]
  rfl
theorem fieldC_ap (a b : FL) : fieldC (a ++ b) = fieldC a ++ fieldC b := by simp [fieldC]
theorem cells_lF (σ : Nat → Nat) {nm : List UInt8} {l : LL} {n : Nat} (h : n < l.length) : cellsP σ (fieldC (lF nm l (n + 1))) (fieldC (lF nm l n) ++ [AV.str nm, AV.str (l.getD n [])]) := by
  have h1 := of_eq_true (cells_fld σ (lF nm l (n + 1)))
  have e : fieldC (lF nm l (n + 1)) = fieldC (lF nm l n) ++ [AV.str nm, AV.str (l.getD n [])] := by rw [lF_step h, fieldC_ap]; rfl
  rw [e] at h1 ⊢
  exact h1
theorem lF_len (nm : List UInt8) {l : LL} {n : Nat} (h : n ≤ l.length) : (lF nm l n).length = n := by
  unfold lF; rw [List.length_map, List.length_take]; omega
theorem fld_o {a x : List UInt8} (h1 : a.length ≤ 1000) (h : x.length ≤ 1000) : fldOk [AV.str a, AV.str x] 1 := by
  refine ⟨rfl, Nat.le_refl 1, ?_⟩
  show totL [(a, x)] ≤ _
  simp [totL]; omega
theorem fldT_o (a x : List UInt8) : fldT [AV.str a, AV.str x] 1 = [(a, x)] := rfl
theorem tot_lF {nm : List UInt8} {l : LL} (hn : nm.length ≤ 40) (hl : ∀ x, x < l.length → (l.getD x []).length ≤ 200) : ∀ n, n ≤ l.length → totL (lF nm l n) ≤ 300 * n
  | 0, _ => Nat.zero_le _
  | n + 1, h => by
    have h1 := tot_lF hn hl n (by omega)
    have h2 := hl n (by omega)
    rw [lF_step (by omega)]
    have e : totL (lF nm l n ++ [(nm, l.getD n [])]) = totL (lF nm l n) + (nm.length + (l.getD n []).length + 1) := by simp [totL]
    omega
theorem whA_vc (l r : LL) (w wr nm : List UInt8) (fT aT : List AV) (hG : ∀ s ∈ l, s.length ≤ 281474976710656) (hT : utf8T fT aT) : vWhA l r w wr nm fT aT := by
  have hf : ∀ σ, cellsP σ fT fT = True := fun σ => eq_true (cells_refl (by rw [hT.1]; exact flats_ints _ _))
  have ha : ∀ σ, cellsP σ aT aT = True := fun σ => eq_true (cells_refl (by rw [hT.2]; exact flats_pairs _ _ _))
  have hb : ∀ σ, cellsP σ (bs (w ++ wr)) (bs (w ++ wr)) = True := fun σ => eq_true (cellsP_flat (bs_flat _) rfl)
  rw [vWhA_eq]
  simp only [ic, cond_F, sameB_self, Nat.beq_refl]
  simp only [cond_P, leI_t, leI_f, ltI_t, ltI_f, eqI_t, eqI_f, and_t, not_t, not_f, dec_t, dec_f, Nat.zero_add, Nat.mul_one, List.drop_zero]
  simp only [cells_tsr, cells_fld, take_ts, ts_length, and_true, true_and, and_false, false_and, or_false, false_or, exists_false, Nat.le_refl, exists_const, false_implies, not_false_eq_true, true_implies, fldT_at, fldOk_at, getS_ts]
  simp only [hf, ha, hb, hT, and_true, true_and, List.take_left, implies_true, fldT_o, List.nil_append, Nat.lt_add_one]
  intro h10 hlw
  refine ⟨⟨by rw [List.length_append]; omega, fun s hs => hG s hs⟩, fun hlit hnm => ?_⟩
  obtain ⟨hl1, hl2⟩ : l.length ≤ 10 ∧ sumT l ≤ 200 := of_decide_eq_true hlit
  have hel : ∀ x, x < l.length → (l.getD x []).length ≤ 200 := fun x hx => by have := getD_sum hx; omega
  have hn40 : le40 nm = true := decide_eq_true (by omega)
  have hnl : (lower nm).length ≤ 40 := by simp [lower]; omega
  refine ⟨hn40, fun htn => ⟨fun _ => ⟨fun h0 => ?_, fun h0 => ?_⟩, ?_⟩⟩
  · have h0' : 0 < l.length := by omega
    have hg := ts_get2 (l := l) (r := r) h0'
    have he := hel 0 h0'
    refine ⟨h0, hg, decide_eq_true (by omega), fun ht => ⟨h0, hg, by omega, h0, hg, by omega, h0, hg, by omega, h0, hg, (0, 1), ⟨rfl, by show 1 ≤ l.length; omega, fun p hp => ?_⟩, ?_, ?_, rfl, rfl, rfl, rfl, rfl, rfl⟩⟩
    · have e : l.take 1 = [l.getD 0 []] := by
        rw [List.take_succ_eq_append_getElem h0', List.getD_eq_getElem?_getD, List.getElem?_eq_getElem h0']; rfl
      have hp : p ∈ l.take 1 := hp
      rw [e] at hp
      rw [List.mem_singleton.1 hp]; exact ht
    · show l.length - 0 < l.length + 1; omega
    · have := cells_lF gqWhW2 (nm := nm) h0'
      exact this
  · have hz : l.length = 0 := by omega
    have v1 : valT [(nm, [])] nm = [43] := val_one rfl
    have v2 : valT [(lower nm, [])] nm = [43] := val_one (lower_low nm)
    have o1 := fld_o (a := nm) (x := []) (by omega) (by simp)
    have o2 := fld_o (a := lower nm) (x := []) (by omega) (by simp)
    rw [v1, v2]
    simp only [hn40, o1, o2, hz, true_and, and_true]
    simp
  · rintro ⟨k, n⟩ ⟨hk, hk2, hk3⟩
    dsimp only at hk hk2 hk3 ⊢
    subst hk
    have gl : ∀ {g : Nat → List UInt8}, (∀ i, (g i).length ≤ 8) → (sepI l g (k + 1)).length ≤ 280 := fun {g} hg => by
      have h1 := sep_len hg (k + 1) hk2
      have h2 := sumT_take l (k + 1)
      omega
    have g1 := gl (g := g32) (fun _ => by simp [g32])
    have g2 := gl (g := gTm w) (fun i => (gTm_ok w i).2.2)
    have g3 := gl (g := gCm) (fun _ => by simp [gCm])
    refine ⟨fun hlt => ?_, fun hge => ?_⟩
    · have hlt' : k + 1 < l.length := by omega
      have hg := ts_get2 (l := l) (r := r) hlt'
      have he := hel (k + 1) hlt'
      have t1 := (gTm_ok w (k + 1)).2.2
      have hfl : (k + 1) * 2 = (fieldC (lF nm l (k + 1))).length := by rw [fieldC_length, lF_len nm hk2]; omega
      have hwb : (bs (w ++ wr))[k + 1]? = some (AV.int .u8 (byteAt w (k + 1))) := by
        rw [bs_app, List.getElem?_append_left (by rw [bs_length]; omega), bs_get _ _ (by omega)]
      have t1' : (tms (1 + byteAt w (k + 1) % 4).toNat).length ≤ 8 := t1
      refine ⟨hlt, hg, decide_eq_true (by omega), fun ht => ⟨by omega, by omega, hwb, by omega, by omega, ⟨by omega, by omega⟩, by omega, by omega, hlt, hg, by simp only [List.length_append, List.length_cons, List.length_nil]; omega, hlt, hg, by simp only [List.length_append]; omega, hlt, hg, by simp only [List.length_append, List.length_cons, List.length_nil]; omega, hlt, hg, by omega, ⟨by omega, by omega⟩, hfl, by omega, (k + 1, k + 2), ⟨rfl, hlt', fun p hp => ?_⟩, ?_, ?_, rfl, ?_, ?_, ?_, rfl, rfl⟩⟩
      · have e : l.take (k + 2) = l.take (k + 1) ++ [l.getD (k + 1) []] := by
          rw [List.take_succ_eq_append_getElem hlt', List.getD_eq_getElem?_getD, List.getElem?_eq_getElem hlt']; rfl
        have hp : p ∈ l.take (k + 2) := hp
        rw [e] at hp
        rcases List.mem_append.1 hp with hp | hp
        · exact hk3 p hp
        · rw [List.mem_singleton.1 hp]; exact ht
      · show l.length - (k + 1) < l.length - k; omega
      · exact cells_lF _ hlt'
      · rw [sep_step]; rfl
      · rw [sep_step]; rfl
      · rw [sep_step]; rfl
    · have hkl : l.length = k + 1 := by omega
      have hin : ∀ x ∈ l, inkW x := fun x hx => tok_ink (hk3 x (by rw [List.take_of_length_le (by omega)]; exact hx))
      have wh32 : ∀ i, g32 i ≠ [] ∧ ∀ c ∈ g32 i, whiC c := fun _ => ⟨by simp [g32], fun c hc => by rw [List.mem_singleton.1 hc]; exact .inl rfl⟩
      have v1 : valT [(nm, sepI l g32 (k + 1))] nm = [43] ++ sepI l g32 (k + 1) := by rw [val_one rfl, ends_sep hin wh32 (by omega)]
      have v2 : valT [(lower nm, sepI l (gTm w) (k + 1))] nm = [43] ++ sepI l g32 (k + 1) := by rw [val_one (lower_low nm), ends_sep hin (fun i => ⟨(gTm_ok w i).1, (gTm_ok w i).2.1⟩) (by omega)]
      have v3 : valT [(nm, sepI l gCm (k + 1))] nm = [43] ++ sepI l gCm (k + 1) := by rw [val_one rfl, ends_want (by omega) hin]
      have v4 : valT (lF nm l (k + 1)) nm = [43] ++ sepI l gCm (k + 1) := val_lF hin (by omega)
      have o1 := fld_o (a := nm) (x := sepI l g32 (k + 1)) (by omega) (by omega)
      have o2 := fld_o (a := lower nm) (x := sepI l (gTm w) (k + 1)) (by omega) (by omega)
      have o3 := fld_o (a := nm) (x := sepI l gCm (k + 1)) (by omega) (by omega)
      have o4 : fldOk (fieldC (lF nm l (k + 1))) (k + 1) := by
        have h1 := fldOk_at (lF nm l (k + 1)) []
        have h2 := tot_lF (nm := nm) (by omega) hel (k + 1) hk2
        rw [List.append_nil, lF_len nm hk2] at h1
        rw [h1]; omega
      have e4 : fldT (fieldC (lF nm l (k + 1))) (k + 1) = lF nm l (k + 1) := by
        have h1 := fldT_at (lF nm l (k + 1)) []
        rwa [List.append_nil, lF_len nm hk2] at h1
      rw [v1, v2, v3, e4, v4]
      simp only [hn40, o1, o2, o3, o4, true_and, and_true]
      have hz : ¬ (l.length : Int) = 0 := by omega
      simp only [hz, ne_eq, not_true_eq_false, not_false_eq_true, false_implies, true_implies, and_true, true_and]
      refine ⟨by omega, by omega⟩
end Go.Proofs.YtciciemaldbidaaDoor

/- The law VaryWhite, walked: no parts, or too few numbers. -/
import Derived.Test.YtciciemaldbidaaDoorWhW
set_option linter.unusedSimpArgs false
set_option linter.unusedVariables false
namespace Go.Proofs.YtciciemaldbidaaDoor
open Go Go.Ve
set_option maxRecDepth 20000

noncomputable def vWsNN  (nm : List UInt8) (fT aT : List AV) : Prop := vcF VWi [(15, .quiet)] 300 [] [] 5 [.nilsl, .nilsl, .str nm] [gFst fT, gAcc aT] [⟨Unit, fun _ => .bool true, fun _ => [gFst fT, gAcc aT], fun _ => True, gcB⟩]
noncomputable def vWsNZ  (nm : List UInt8) (fT aT : List AV) : Prop := vcF VWi [(15, .quiet)] 300 [] [] 5 [.nilsl, .slz, .str nm] [gFst fT, gAcc aT] [⟨Unit, fun _ => .bool true, fun _ => [gFst fT, gAcc aT], fun _ => True, gcB⟩]
noncomputable def vWsNA  (w wr nm : List UInt8) (fT aT : List AV) : Prop := vcF VWi [(15, .quiet)] 300 [] [] 5 [.nilsl, .sl 2 0 w.length (w.length + wr.length) true, .str nm] [gFst fT, gAcc aT, .cells (bs (w ++ wr)) 0 true] [⟨Unit, fun _ => .bool true, fun _ => [gFst fT, gAcc aT, .cells (bs (w ++ wr)) 0 true], fun _ => True, gcB⟩]
noncomputable def vWsZN  (nm : List UInt8) (fT aT : List AV) : Prop := vcF VWi [(15, .quiet)] 300 [] [] 5 [.slz, .nilsl, .str nm] [gFst fT, gAcc aT] [⟨Unit, fun _ => .bool true, fun _ => [gFst fT, gAcc aT], fun _ => True, gcB⟩]
noncomputable def vWsZZ  (nm : List UInt8) (fT aT : List AV) : Prop := vcF VWi [(15, .quiet)] 300 [] [] 5 [.slz, .slz, .str nm] [gFst fT, gAcc aT] [⟨Unit, fun _ => .bool true, fun _ => [gFst fT, gAcc aT], fun _ => True, gcB⟩]
noncomputable def vWsZA  (w wr nm : List UInt8) (fT aT : List AV) : Prop := vcF VWi [(15, .quiet)] 300 [] [] 5 [.slz, .sl 2 0 w.length (w.length + wr.length) true, .str nm] [gFst fT, gAcc aT, .cells (bs (w ++ wr)) 0 true] [⟨Unit, fun _ => .bool true, fun _ => [gFst fT, gAcc aT, .cells (bs (w ++ wr)) 0 true], fun _ => True, gcB⟩]
noncomputable def vWsEN  (r : LL) (nm : List UInt8) (fT aT : List AV) : Prop := vcF VWi [(15, .quiet)] 300 [] [] 5 [.sl 2 0 0 r.length true, .nilsl, .str nm] [gFst fT, gAcc aT, .cells (ts r) 0 true] [⟨Unit, fun _ => .bool true, fun _ => [gFst fT, gAcc aT, .cells (ts r) 0 true], fun _ => True, gcB⟩]
noncomputable def vWsEZ  (r : LL) (nm : List UInt8) (fT aT : List AV) : Prop := vcF VWi [(15, .quiet)] 300 [] [] 5 [.sl 2 0 0 r.length true, .slz, .str nm] [gFst fT, gAcc aT, .cells (ts r) 0 true] [⟨Unit, fun _ => .bool true, fun _ => [gFst fT, gAcc aT, .cells (ts r) 0 true], fun _ => True, gcB⟩]
noncomputable def vWsAN  (l r : LL) (nm : List UInt8) (fT aT : List AV) : Prop := vcF VWi [(15, .quiet)] 11 [] [] 5 [.sl 2 0 l.length (l.length + r.length) true, .nilsl, .str nm] [gFst fT, gAcc aT, .cells (ts (l ++ r)) 0 true] [⟨Unit, fun _ => .bool true, fun _ => [gFst fT, gAcc aT, .cells (ts (l ++ r)) 0 true], fun _ => True, gcB⟩]
noncomputable def vWsAZ  (l r : LL) (nm : List UInt8) (fT aT : List AV) : Prop := vcF VWi [(15, .quiet)] 11 [] [] 5 [.sl 2 0 l.length (l.length + r.length) true, .slz, .str nm] [gFst fT, gAcc aT, .cells (ts (l ++ r)) 0 true] [⟨Unit, fun _ => .bool true, fun _ => [gFst fT, gAcc aT, .cells (ts (l ++ r)) 0 true], fun _ => True, gcB⟩]
def gqWhS0 : Nat → Nat := (fun (b : Nat) => [(0 : Nat), (1 : Nat)].getD b (2 : Nat))
def gqWhS1 : Nat → Nat := (fun (b : Nat) => [(0 : Nat), (1 : Nat)].getD b (9 : Nat))
def gqWhS2 : Nat → Nat := (fun (b : Nat) => [(0 : Nat), (1 : Nat)].getD b (12 : Nat))
def gqWhS3 : Nat → Nat := (fun (b : Nat) => [(0 : Nat), (1 : Nat), (2 : Nat)].getD b (3 : Nat))
def gqWhS4 : Nat → Nat := (fun (b : Nat) => [(0 : Nat), (1 : Nat), (2 : Nat)].getD b (10 : Nat))
def gqWhS5 : Nat → Nat := (fun (b : Nat) => [(0 : Nat), (1 : Nat), (2 : Nat)].getD b (13 : Nat))
theorem vWsNN_eq  (nm : List UInt8) (fT aT : List AV) : vWsNN nm fT aT = (bif ltI (40 : Int) (ic nm.length) then ∃ (_x : Unit), True ∧ (((4 : Nat) = (4 : Nat) ∧ cellsP gqWhS0 fT fT) ∧ ((5 : Nat) = (5 : Nat) ∧ cellsP gqWhS0 aT aT) ∧ True) ∧ true = true ∧ True else bif le40 nm then bif !tokR nm then ∃ (_x : Unit), True ∧ (((4 : Nat) = (4 : Nat) ∧ cellsP gqWhS0 fT fT) ∧ ((5 : Nat) = (5 : Nat) ∧ cellsP gqWhS0 aT aT) ∧ True) ∧ true = true ∧ True else bif le40 nm then (utf8T fT aT ∧ fldOk [AV.str nm, AV.str []] (1 : Nat) ∧ le40 nm = true) ∧ (utf8T fT aT ∧ fldOk [AV.str (lower nm), AV.str []] (1 : Nat) ∧ le40 nm = true) ∧ bif !decide (valT (fldT [AV.str nm, AV.str []] (1 : Nat)) nm = valT (fldT [AV.str (lower nm), AV.str []] (1 : Nat)) nm) then ∃ (_x : Unit), True ∧ (((4 : Nat) = (4 : Nat) ∧ cellsP gqWhS1 fT fT) ∧ ((5 : Nat) = (5 : Nat) ∧ cellsP gqWhS1 aT aT) ∧ True) ∧ false = true ∧ True else (utf8T fT aT ∧ fldOk [AV.str nm, AV.str []] (1 : Nat) ∧ le40 nm = true) ∧ bif !decide (valT (fldT [AV.str nm, AV.str []] (1 : Nat)) nm = [(43 : UInt8)] ++ []) then ∃ (_x : Unit), True ∧ (((4 : Nat) = (4 : Nat) ∧ cellsP gqWhS1 fT fT) ∧ ((5 : Nat) = (5 : Nat) ∧ cellsP gqWhS1 aT aT) ∧ True) ∧ false = true ∧ True else (utf8T fT aT ∧ fldOk [AV.str nm, AV.str []] (1 : Nat) ∧ le40 nm = true) ∧ bif decide (valT (fldT [AV.str nm, AV.str []] (1 : Nat)) nm = [(43 : UInt8)]) then (utf8T fT aT ∧ fldOk [AV.str nm, AV.str []] (1 : Nat) ∧ le40 nm = true) ∧ bif !decide ([(45 : UInt8)] = valT (fldT [AV.str nm, AV.str []] (1 : Nat)) nm) then ∃ (_x : Unit), True ∧ (((4 : Nat) = (4 : Nat) ∧ cellsP gqWhS2 fT fT) ∧ ((5 : Nat) = (5 : Nat) ∧ cellsP gqWhS2 aT aT) ∧ True) ∧ true = true ∧ True else ∃ (_x : Unit), True ∧ (((4 : Nat) = (4 : Nat) ∧ cellsP gqWhS2 fT fT) ∧ ((5 : Nat) = (5 : Nat) ∧ cellsP gqWhS2 aT aT) ∧ True) ∧ false = true ∧ True else ∃ (_x : Unit), True ∧ (((4 : Nat) = (4 : Nat) ∧ cellsP gqWhS1 fT fT) ∧ ((5 : Nat) = (5 : Nat) ∧ cellsP gqWhS1 aT aT) ∧ True) ∧ false = true ∧ True else False else False) := by kernel_rfl
theorem vWsNZ_eq  (nm : List UInt8) (fT aT : List AV) : vWsNZ nm fT aT = (bif ltI (40 : Int) (ic nm.length) then ∃ (_x : Unit), True ∧ (((4 : Nat) = (4 : Nat) ∧ cellsP gqWhS0 fT fT) ∧ ((5 : Nat) = (5 : Nat) ∧ cellsP gqWhS0 aT aT) ∧ True) ∧ true = true ∧ True else bif le40 nm then bif !tokR nm then ∃ (_x : Unit), True ∧ (((4 : Nat) = (4 : Nat) ∧ cellsP gqWhS0 fT fT) ∧ ((5 : Nat) = (5 : Nat) ∧ cellsP gqWhS0 aT aT) ∧ True) ∧ true = true ∧ True else bif le40 nm then (utf8T fT aT ∧ fldOk [AV.str nm, AV.str []] (1 : Nat) ∧ le40 nm = true) ∧ (utf8T fT aT ∧ fldOk [AV.str (lower nm), AV.str []] (1 : Nat) ∧ le40 nm = true) ∧ bif !decide (valT (fldT [AV.str nm, AV.str []] (1 : Nat)) nm = valT (fldT [AV.str (lower nm), AV.str []] (1 : Nat)) nm) then ∃ (_x : Unit), True ∧ (((4 : Nat) = (4 : Nat) ∧ cellsP gqWhS1 fT fT) ∧ ((5 : Nat) = (5 : Nat) ∧ cellsP gqWhS1 aT aT) ∧ True) ∧ false = true ∧ True else (utf8T fT aT ∧ fldOk [AV.str nm, AV.str []] (1 : Nat) ∧ le40 nm = true) ∧ bif !decide (valT (fldT [AV.str nm, AV.str []] (1 : Nat)) nm = [(43 : UInt8)] ++ []) then ∃ (_x : Unit), True ∧ (((4 : Nat) = (4 : Nat) ∧ cellsP gqWhS1 fT fT) ∧ ((5 : Nat) = (5 : Nat) ∧ cellsP gqWhS1 aT aT) ∧ True) ∧ false = true ∧ True else (utf8T fT aT ∧ fldOk [AV.str nm, AV.str []] (1 : Nat) ∧ le40 nm = true) ∧ bif decide (valT (fldT [AV.str nm, AV.str []] (1 : Nat)) nm = [(43 : UInt8)]) then (utf8T fT aT ∧ fldOk [AV.str nm, AV.str []] (1 : Nat) ∧ le40 nm = true) ∧ bif !decide ([(45 : UInt8)] = valT (fldT [AV.str nm, AV.str []] (1 : Nat)) nm) then ∃ (_x : Unit), True ∧ (((4 : Nat) = (4 : Nat) ∧ cellsP gqWhS2 fT fT) ∧ ((5 : Nat) = (5 : Nat) ∧ cellsP gqWhS2 aT aT) ∧ True) ∧ true = true ∧ True else ∃ (_x : Unit), True ∧ (((4 : Nat) = (4 : Nat) ∧ cellsP gqWhS2 fT fT) ∧ ((5 : Nat) = (5 : Nat) ∧ cellsP gqWhS2 aT aT) ∧ True) ∧ false = true ∧ True else ∃ (_x : Unit), True ∧ (((4 : Nat) = (4 : Nat) ∧ cellsP gqWhS1 fT fT) ∧ ((5 : Nat) = (5 : Nat) ∧ cellsP gqWhS1 aT aT) ∧ True) ∧ false = true ∧ True else False else False) := by kernel_rfl
theorem vWsNA_eq  (w wr nm : List UInt8) (fT aT : List AV) : vWsNA w wr nm fT aT = (bif ltI (40 : Int) (ic nm.length) then ∃ (_x : Unit), True ∧ (((4 : Nat) = (4 : Nat) ∧ cellsP gqWhS3 fT fT) ∧ ((5 : Nat) = (5 : Nat) ∧ cellsP gqWhS3 aT aT) ∧ (cellsP gqWhS3 (bs (w ++ wr)) (bs (w ++ wr)) ∧ True) ∧ True) ∧ true = true ∧ True else bif le40 nm then bif !tokR nm then ∃ (_x : Unit), True ∧ (((4 : Nat) = (4 : Nat) ∧ cellsP gqWhS3 fT fT) ∧ ((5 : Nat) = (5 : Nat) ∧ cellsP gqWhS3 aT aT) ∧ (cellsP gqWhS3 (bs (w ++ wr)) (bs (w ++ wr)) ∧ True) ∧ True) ∧ true = true ∧ True else bif le40 nm then (utf8T fT aT ∧ fldOk [AV.str nm, AV.str []] (1 : Nat) ∧ le40 nm = true) ∧ (utf8T fT aT ∧ fldOk [AV.str (lower nm), AV.str []] (1 : Nat) ∧ le40 nm = true) ∧ bif !decide (valT (fldT [AV.str nm, AV.str []] (1 : Nat)) nm = valT (fldT [AV.str (lower nm), AV.str []] (1 : Nat)) nm) then ∃ (_x : Unit), True ∧ (((4 : Nat) = (4 : Nat) ∧ cellsP gqWhS4 fT fT) ∧ ((5 : Nat) = (5 : Nat) ∧ cellsP gqWhS4 aT aT) ∧ (cellsP gqWhS4 (bs (w ++ wr)) (bs (w ++ wr)) ∧ True) ∧ True) ∧ false = true ∧ True else (utf8T fT aT ∧ fldOk [AV.str nm, AV.str []] (1 : Nat) ∧ le40 nm = true) ∧ bif !decide (valT (fldT [AV.str nm, AV.str []] (1 : Nat)) nm = [(43 : UInt8)] ++ []) then ∃ (_x : Unit), True ∧ (((4 : Nat) = (4 : Nat) ∧ cellsP gqWhS4 fT fT) ∧ ((5 : Nat) = (5 : Nat) ∧ cellsP gqWhS4 aT aT) ∧ (cellsP gqWhS4 (bs (w ++ wr)) (bs (w ++ wr)) ∧ True) ∧ True) ∧ false = true ∧ True else (utf8T fT aT ∧ fldOk [AV.str nm, AV.str []] (1 : Nat) ∧ le40 nm = true) ∧ bif decide (valT (fldT [AV.str nm, AV.str []] (1 : Nat)) nm = [(43 : UInt8)]) then (utf8T fT aT ∧ fldOk [AV.str nm, AV.str []] (1 : Nat) ∧ le40 nm = true) ∧ bif !decide ([(45 : UInt8)] = valT (fldT [AV.str nm, AV.str []] (1 : Nat)) nm) then ∃ (_x : Unit), True ∧ (((4 : Nat) = (4 : Nat) ∧ cellsP gqWhS5 fT fT) ∧ ((5 : Nat) = (5 : Nat) ∧ cellsP gqWhS5 aT aT) ∧ (cellsP gqWhS5 (bs (w ++ wr)) (bs (w ++ wr)) ∧ True) ∧ True) ∧ true = true ∧ True else ∃ (_x : Unit), True ∧ (((4 : Nat) = (4 : Nat) ∧ cellsP gqWhS5 fT fT) ∧ ((5 : Nat) = (5 : Nat) ∧ cellsP gqWhS5 aT aT) ∧ (cellsP gqWhS5 (bs (w ++ wr)) (bs (w ++ wr)) ∧ True) ∧ True) ∧ false = true ∧ True else ∃ (_x : Unit), True ∧ (((4 : Nat) = (4 : Nat) ∧ cellsP gqWhS4 fT fT) ∧ ((5 : Nat) = (5 : Nat) ∧ cellsP gqWhS4 aT aT) ∧ (cellsP gqWhS4 (bs (w ++ wr)) (bs (w ++ wr)) ∧ True) ∧ True) ∧ false = true ∧ True else False else False) := by kernel_rfl
theorem vWsZN_eq  (nm : List UInt8) (fT aT : List AV) : vWsZN nm fT aT = (bif ltI (40 : Int) (ic nm.length) then ∃ (_x : Unit), True ∧ (((4 : Nat) = (4 : Nat) ∧ cellsP gqWhS0 fT fT) ∧ ((5 : Nat) = (5 : Nat) ∧ cellsP gqWhS0 aT aT) ∧ True) ∧ true = true ∧ True else bif le40 nm then bif !tokR nm then ∃ (_x : Unit), True ∧ (((4 : Nat) = (4 : Nat) ∧ cellsP gqWhS0 fT fT) ∧ ((5 : Nat) = (5 : Nat) ∧ cellsP gqWhS0 aT aT) ∧ True) ∧ true = true ∧ True else bif le40 nm then (utf8T fT aT ∧ fldOk [AV.str nm, AV.str []] (1 : Nat) ∧ le40 nm = true) ∧ (utf8T fT aT ∧ fldOk [AV.str (lower nm), AV.str []] (1 : Nat) ∧ le40 nm = true) ∧ bif !decide (valT (fldT [AV.str nm, AV.str []] (1 : Nat)) nm = valT (fldT [AV.str (lower nm), AV.str []] (1 : Nat)) nm) then ∃ (_x : Unit), True ∧ (((4 : Nat) = (4 : Nat) ∧ cellsP gqWhS1 fT fT) ∧ ((5 : Nat) = (5 : Nat) ∧ cellsP gqWhS1 aT aT) ∧ True) ∧ false = true ∧ True else (utf8T fT aT ∧ fldOk [AV.str nm, AV.str []] (1 : Nat) ∧ le40 nm = true) ∧ bif !decide (valT (fldT [AV.str nm, AV.str []] (1 : Nat)) nm = [(43 : UInt8)] ++ []) then ∃ (_x : Unit), True ∧ (((4 : Nat) = (4 : Nat) ∧ cellsP gqWhS1 fT fT) ∧ ((5 : Nat) = (5 : Nat) ∧ cellsP gqWhS1 aT aT) ∧ True) ∧ false = true ∧ True else (utf8T fT aT ∧ fldOk [AV.str nm, AV.str []] (1 : Nat) ∧ le40 nm = true) ∧ bif decide (valT (fldT [AV.str nm, AV.str []] (1 : Nat)) nm = [(43 : UInt8)]) then (utf8T fT aT ∧ fldOk [AV.str nm, AV.str []] (1 : Nat) ∧ le40 nm = true) ∧ bif !decide ([(45 : UInt8)] = valT (fldT [AV.str nm, AV.str []] (1 : Nat)) nm) then ∃ (_x : Unit), True ∧ (((4 : Nat) = (4 : Nat) ∧ cellsP gqWhS2 fT fT) ∧ ((5 : Nat) = (5 : Nat) ∧ cellsP gqWhS2 aT aT) ∧ True) ∧ true = true ∧ True else ∃ (_x : Unit), True ∧ (((4 : Nat) = (4 : Nat) ∧ cellsP gqWhS2 fT fT) ∧ ((5 : Nat) = (5 : Nat) ∧ cellsP gqWhS2 aT aT) ∧ True) ∧ false = true ∧ True else ∃ (_x : Unit), True ∧ (((4 : Nat) = (4 : Nat) ∧ cellsP gqWhS1 fT fT) ∧ ((5 : Nat) = (5 : Nat) ∧ cellsP gqWhS1 aT aT) ∧ True) ∧ false = true ∧ True else False else False) := by kernel_rfl
theorem vWsZZ_eq  (nm : List UInt8) (fT aT : List AV) : vWsZZ nm fT aT = (bif ltI (40 : Int) (ic nm.length) then ∃ (_x : Unit), True ∧ (((4 : Nat) = (4 : Nat) ∧ cellsP gqWhS0 fT fT) ∧ ((5 : Nat) = (5 : Nat) ∧ cellsP gqWhS0 aT aT) ∧ True) ∧ true = true ∧ True else bif le40 nm then bif !tokR nm then ∃ (_x : Unit), True ∧ (((4 : Nat) = (4 : Nat) ∧ cellsP gqWhS0 fT fT) ∧ ((5 : Nat) = (5 : Nat) ∧ cellsP gqWhS0 aT aT) ∧ True) ∧ true = true ∧ True else bif le40 nm then (utf8T fT aT ∧ fldOk [AV.str nm, AV.str []] (1 : Nat) ∧ le40 nm = true) ∧ (utf8T fT aT ∧ fldOk [AV.str (lower nm), AV.str []] (1 : Nat) ∧ le40 nm = true) ∧ bif !decide (valT (fldT [AV.str nm, AV.str []] (1 : Nat)) nm = valT (fldT [AV.str (lower nm), AV.str []] (1 : Nat)) nm) then ∃ (_x : Unit), True ∧ (((4 : Nat) = (4 : Nat) ∧ cellsP gqWhS1 fT fT) ∧ ((5 : Nat) = (5 : Nat) ∧ cellsP gqWhS1 aT aT) ∧ True) ∧ false = true ∧ True else (utf8T fT aT ∧ fldOk [AV.str nm, AV.str []] (1 : Nat) ∧ le40 nm = true) ∧ bif !decide (valT (fldT [AV.str nm, AV.str []] (1 : Nat)) nm = [(43 : UInt8)] ++ []) then ∃ (_x : Unit), True ∧ (((4 : Nat) = (4 : Nat) ∧ cellsP gqWhS1 fT fT) ∧ ((5 : Nat) = (5 : Nat) ∧ cellsP gqWhS1 aT aT) ∧ True) ∧ false = true ∧ True else (utf8T fT aT ∧ fldOk [AV.str nm, AV.str []] (1 : Nat) ∧ le40 nm = true) ∧ bif decide (valT (fldT [AV.str nm, AV.str []] (1 : Nat)) nm = [(43 : UInt8)]) then (utf8T fT aT ∧ fldOk [AV.str nm, AV.str []] (1 : Nat) ∧ le40 nm = true) ∧ bif !decide ([(45 : UInt8)] = valT (fldT [AV.str nm, AV.str []] (1 : Nat)) nm) then ∃ (_x : Unit), True ∧ (((4 : Nat) = (4 : Nat) ∧ cellsP gqWhS2 fT fT) ∧ ((5 : Nat) = (5 : Nat) ∧ cellsP gqWhS2 aT aT) ∧ True) ∧ true = true ∧ True else ∃ (_x : Unit), True ∧ (((4 : Nat) = (4 : Nat) ∧ cellsP gqWhS2 fT fT) ∧ ((5 : Nat) = (5 : Nat) ∧ cellsP gqWhS2 aT aT) ∧ True) ∧ false = true ∧ True else ∃ (_x : Unit), True ∧ (((4 : Nat) = (4 : Nat) ∧ cellsP gqWhS1 fT fT) ∧ ((5 : Nat) = (5 : Nat) ∧ cellsP gqWhS1 aT aT) ∧ True) ∧ false = true ∧ True else False else False) := by kernel_rfl
theorem vWsZA_eq  (w wr nm : List UInt8) (fT aT : List AV) : vWsZA w wr nm fT aT = (bif ltI (40 : Int) (ic nm.length) then ∃ (_x : Unit), True ∧ (((4 : Nat) = (4 : Nat) ∧ cellsP gqWhS3 fT fT) ∧ ((5 : Nat) = (5 : Nat) ∧ cellsP gqWhS3 aT aT) ∧ (cellsP gqWhS3 (bs (w ++ wr)) (bs (w ++ wr)) ∧ True) ∧ True) ∧ true = true ∧ True else bif le40 nm then bif !tokR nm then ∃ (_x : Unit), True ∧ (((4 : Nat) = (4 : Nat) ∧ cellsP gqWhS3 fT fT) ∧ ((5 : Nat) = (5 : Nat) ∧ cellsP gqWhS3 aT aT) ∧ (cellsP gqWhS3 (bs (w ++ wr)) (bs (w ++ wr)) ∧ True) ∧ True) ∧ true = true ∧ True else bif le40 nm then (utf8T fT aT ∧ fldOk [AV.str nm, AV.str []] (1 : Nat) ∧ le40 nm = true) ∧ (utf8T fT aT ∧ fldOk [AV.str (lower nm), AV.str []] (1 : Nat) ∧ le40 nm = true) ∧ bif !decide (valT (fldT [AV.str nm, AV.str []] (1 : Nat)) nm = valT (fldT [AV.str (lower nm), AV.str []] (1 : Nat)) nm) then ∃ (_x : Unit), True ∧ (((4 : Nat) = (4 : Nat) ∧ cellsP gqWhS4 fT fT) ∧ ((5 : Nat) = (5 : Nat) ∧ cellsP gqWhS4 aT aT) ∧ (cellsP gqWhS4 (bs (w ++ wr)) (bs (w ++ wr)) ∧ True) ∧ True) ∧ false = true ∧ True else (utf8T fT aT ∧ fldOk [AV.str nm, AV.str []] (1 : Nat) ∧ le40 nm = true) ∧ bif !decide (valT (fldT [AV.str nm, AV.str []] (1 : Nat)) nm = [(43 : UInt8)] ++ []) then ∃ (_x : Unit), True ∧ (((4 : Nat) = (4 : Nat) ∧ cellsP gqWhS4 fT fT) ∧ ((5 : Nat) = (5 : Nat) ∧ cellsP gqWhS4 aT aT) ∧ (cellsP gqWhS4 (bs (w ++ wr)) (bs (w ++ wr)) ∧ True) ∧ True) ∧ false = true ∧ True else (utf8T fT aT ∧ fldOk [AV.str nm, AV.str []] (1 : Nat) ∧ le40 nm = true) ∧ bif decide (valT (fldT [AV.str nm, AV.str []] (1 : Nat)) nm = [(43 : UInt8)]) then (utf8T fT aT ∧ fldOk [AV.str nm, AV.str []] (1 : Nat) ∧ le40 nm = true) ∧ bif !decide ([(45 : UInt8)] = valT (fldT [AV.str nm, AV.str []] (1 : Nat)) nm) then ∃ (_x : Unit), True ∧ (((4 : Nat) = (4 : Nat) ∧ cellsP gqWhS5 fT fT) ∧ ((5 : Nat) = (5 : Nat) ∧ cellsP gqWhS5 aT aT) ∧ (cellsP gqWhS5 (bs (w ++ wr)) (bs (w ++ wr)) ∧ True) ∧ True) ∧ true = true ∧ True else ∃ (_x : Unit), True ∧ (((4 : Nat) = (4 : Nat) ∧ cellsP gqWhS5 fT fT) ∧ ((5 : Nat) = (5 : Nat) ∧ cellsP gqWhS5 aT aT) ∧ (cellsP gqWhS5 (bs (w ++ wr)) (bs (w ++ wr)) ∧ True) ∧ True) ∧ false = true ∧ True else ∃ (_x : Unit), True ∧ (((4 : Nat) = (4 : Nat) ∧ cellsP gqWhS4 fT fT) ∧ ((5 : Nat) = (5 : Nat) ∧ cellsP gqWhS4 aT aT) ∧ (cellsP gqWhS4 (bs (w ++ wr)) (bs (w ++ wr)) ∧ True) ∧ True) ∧ false = true ∧ True else False else False) := by kernel_rfl
theorem vWsEN_eq  (r : LL) (nm : List UInt8) (fT aT : List AV) : vWsEN r nm fT aT = ((ts r = ts (getS (ts r)) ∧ (0 : Nat) ≤ List.length (getS (ts r)) ∧ ∀ (s : List UInt8), List.Mem s [] → s.length ≤ (281474976710656 : Nat)) ∧ bif ltI (40 : Int) (ic nm.length) then ∃ (_x : Unit), True ∧ (((4 : Nat) = (4 : Nat) ∧ cellsP gqWhS3 fT fT) ∧ ((5 : Nat) = (5 : Nat) ∧ cellsP gqWhS3 aT aT) ∧ (cellsP gqWhS3 (ts r) (ts r) ∧ True) ∧ True) ∧ true = true ∧ True else bif le40 nm then bif !tokR nm then ∃ (_x : Unit), True ∧ (((4 : Nat) = (4 : Nat) ∧ cellsP gqWhS3 fT fT) ∧ ((5 : Nat) = (5 : Nat) ∧ cellsP gqWhS3 aT aT) ∧ (cellsP gqWhS3 (ts r) (ts r) ∧ True) ∧ True) ∧ true = true ∧ True else bif le40 nm then (utf8T fT aT ∧ fldOk [AV.str nm, AV.str []] (1 : Nat) ∧ le40 nm = true) ∧ (utf8T fT aT ∧ fldOk [AV.str (lower nm), AV.str []] (1 : Nat) ∧ le40 nm = true) ∧ bif !decide (valT (fldT [AV.str nm, AV.str []] (1 : Nat)) nm = valT (fldT [AV.str (lower nm), AV.str []] (1 : Nat)) nm) then ∃ (_x : Unit), True ∧ (((4 : Nat) = (4 : Nat) ∧ cellsP gqWhS4 fT fT) ∧ ((5 : Nat) = (5 : Nat) ∧ cellsP gqWhS4 aT aT) ∧ (cellsP gqWhS4 (ts r) (ts r) ∧ True) ∧ True) ∧ false = true ∧ True else (utf8T fT aT ∧ fldOk [AV.str nm, AV.str []] (1 : Nat) ∧ le40 nm = true) ∧ bif !decide (valT (fldT [AV.str nm, AV.str []] (1 : Nat)) nm = [(43 : UInt8)] ++ []) then ∃ (_x : Unit), True ∧ (((4 : Nat) = (4 : Nat) ∧ cellsP gqWhS4 fT fT) ∧ ((5 : Nat) = (5 : Nat) ∧ cellsP gqWhS4 aT aT) ∧ (cellsP gqWhS4 (ts r) (ts r) ∧ True) ∧ True) ∧ false = true ∧ True else (utf8T fT aT ∧ fldOk [AV.str nm, AV.str []] (1 : Nat) ∧ le40 nm = true) ∧ bif decide (valT (fldT [AV.str nm, AV.str []] (1 : Nat)) nm = [(43 : UInt8)]) then (utf8T fT aT ∧ fldOk [AV.str nm, AV.str []] (1 : Nat) ∧ le40 nm = true) ∧ bif !decide ([(45 : UInt8)] = valT (fldT [AV.str nm, AV.str []] (1 : Nat)) nm) then ∃ (_x : Unit), True ∧ (((4 : Nat) = (4 : Nat) ∧ cellsP gqWhS5 fT fT) ∧ ((5 : Nat) = (5 : Nat) ∧ cellsP gqWhS5 aT aT) ∧ (cellsP gqWhS5 (ts r) (ts r) ∧ True) ∧ True) ∧ true = true ∧ True else ∃ (_x : Unit), True ∧ (((4 : Nat) = (4 : Nat) ∧ cellsP gqWhS5 fT fT) ∧ ((5 : Nat) = (5 : Nat) ∧ cellsP gqWhS5 aT aT) ∧ (cellsP gqWhS5 (ts r) (ts r) ∧ True) ∧ True) ∧ false = true ∧ True else ∃ (_x : Unit), True ∧ (((4 : Nat) = (4 : Nat) ∧ cellsP gqWhS4 fT fT) ∧ ((5 : Nat) = (5 : Nat) ∧ cellsP gqWhS4 aT aT) ∧ (cellsP gqWhS4 (ts r) (ts r) ∧ True) ∧ True) ∧ false = true ∧ True else False else False) := by kernel_rfl
theorem vWsEZ_eq  (r : LL) (nm : List UInt8) (fT aT : List AV) : vWsEZ r nm fT aT = ((ts r = ts (getS (ts r)) ∧ (0 : Nat) ≤ List.length (getS (ts r)) ∧ ∀ (s : List UInt8), List.Mem s [] → s.length ≤ (281474976710656 : Nat)) ∧ bif ltI (40 : Int) (ic nm.length) then ∃ (_x : Unit), True ∧ (((4 : Nat) = (4 : Nat) ∧ cellsP gqWhS3 fT fT) ∧ ((5 : Nat) = (5 : Nat) ∧ cellsP gqWhS3 aT aT) ∧ (cellsP gqWhS3 (ts r) (ts r) ∧ True) ∧ True) ∧ true = true ∧ True else bif le40 nm then bif !tokR nm then ∃ (_x : Unit), True ∧ (((4 : Nat) = (4 : Nat) ∧ cellsP gqWhS3 fT fT) ∧ ((5 : Nat) = (5 : Nat) ∧ cellsP gqWhS3 aT aT) ∧ (cellsP gqWhS3 (ts r) (ts r) ∧ True) ∧ True) ∧ true = true ∧ True else bif le40 nm then (utf8T fT aT ∧ fldOk [AV.str nm, AV.str []] (1 : Nat) ∧ le40 nm = true) ∧ (utf8T fT aT ∧ fldOk [AV.str (lower nm), AV.str []] (1 : Nat) ∧ le40 nm = true) ∧ bif !decide (valT (fldT [AV.str nm, AV.str []] (1 : Nat)) nm = valT (fldT [AV.str (lower nm), AV.str []] (1 : Nat)) nm) then ∃ (_x : Unit), True ∧ (((4 : Nat) = (4 : Nat) ∧ cellsP gqWhS4 fT fT) ∧ ((5 : Nat) = (5 : Nat) ∧ cellsP gqWhS4 aT aT) ∧ (cellsP gqWhS4 (ts r) (ts r) ∧ True) ∧ True) ∧ false = true ∧ True else (utf8T fT aT ∧ fldOk [AV.str nm, AV.str []] (1 : Nat) ∧ le40 nm = true) ∧ bif !decide (valT (fldT [AV.str nm, AV.str []] (1 : Nat)) nm = [(43 : UInt8)] ++ []) then ∃ (_x : Unit), True ∧ (((4 : Nat) = (4 : Nat) ∧ cellsP gqWhS4 fT fT) ∧ ((5 : Nat) = (5 : Nat) ∧ cellsP gqWhS4 aT aT) ∧ (cellsP gqWhS4 (ts r) (ts r) ∧ True) ∧ True) ∧ false = true ∧ True else (utf8T fT aT ∧ fldOk [AV.str nm, AV.str []] (1 : Nat) ∧ le40 nm = true) ∧ bif decide (valT (fldT [AV.str nm, AV.str []] (1 : Nat)) nm = [(43 : UInt8)]) then (utf8T fT aT ∧ fldOk [AV.str nm, AV.str []] (1 : Nat) ∧ le40 nm = true) ∧ bif !decide ([(45 : UInt8)] = valT (fldT [AV.str nm, AV.str []] (1 : Nat)) nm) then ∃ (_x : Unit), True ∧ (((4 : Nat) = (4 : Nat) ∧ cellsP gqWhS5 fT fT) ∧ ((5 : Nat) = (5 : Nat) ∧ cellsP gqWhS5 aT aT) ∧ (cellsP gqWhS5 (ts r) (ts r) ∧ True) ∧ True) ∧ true = true ∧ True else ∃ (_x : Unit), True ∧ (((4 : Nat) = (4 : Nat) ∧ cellsP gqWhS5 fT fT) ∧ ((5 : Nat) = (5 : Nat) ∧ cellsP gqWhS5 aT aT) ∧ (cellsP gqWhS5 (ts r) (ts r) ∧ True) ∧ True) ∧ false = true ∧ True else ∃ (_x : Unit), True ∧ (((4 : Nat) = (4 : Nat) ∧ cellsP gqWhS4 fT fT) ∧ ((5 : Nat) = (5 : Nat) ∧ cellsP gqWhS4 aT aT) ∧ (cellsP gqWhS4 (ts r) (ts r) ∧ True) ∧ True) ∧ false = true ∧ True else False else False) := by kernel_rfl
theorem vWsAN_eq  (l r : LL) (nm : List UInt8) (fT aT : List AV) : vWsAN l r nm fT aT = (bif ltI (10 : Int) (ic (List.length l)) then ∃ (_x : Unit), True ∧ (((4 : Nat) = (4 : Nat) ∧ cellsP gqWhS3 fT fT) ∧ ((5 : Nat) = (5 : Nat) ∧ cellsP gqWhS3 aT aT) ∧ (cellsP gqWhS3 (ts (l ++ r)) (ts (l ++ r)) ∧ True) ∧ True) ∧ true = true ∧ True else bif ltI (0 : Int) (ic (List.length l)) then ∃ (_x : Unit), True ∧ (((4 : Nat) = (4 : Nat) ∧ cellsP gqWhS3 fT fT) ∧ ((5 : Nat) = (5 : Nat) ∧ cellsP gqWhS3 aT aT) ∧ (cellsP gqWhS3 (ts (l ++ r)) (ts (l ++ r)) ∧ True) ∧ True) ∧ true = true ∧ True else (ts (l ++ r) = ts (getS (ts (l ++ r))) ∧ List.length l ≤ List.length (getS (ts (l ++ r))) ∧ ∀ (s : List UInt8), List.Mem s (List.take (List.length l) (getS (ts (l ++ r)))) → s.length ≤ (281474976710656 : Nat)) ∧ bif !litW (List.take (List.length l) (getS (ts (l ++ r)))) then ∃ (_x : Unit), True ∧ (((4 : Nat) = (4 : Nat) ∧ cellsP gqWhS3 fT fT) ∧ ((5 : Nat) = (5 : Nat) ∧ cellsP gqWhS3 aT aT) ∧ (cellsP gqWhS3 (ts (l ++ r)) (ts (l ++ r)) ∧ True) ∧ True) ∧ true = true ∧ True else bif ltI (40 : Int) (ic nm.length) then ∃ (_x : Unit), True ∧ (((4 : Nat) = (4 : Nat) ∧ cellsP gqWhS3 fT fT) ∧ ((5 : Nat) = (5 : Nat) ∧ cellsP gqWhS3 aT aT) ∧ (cellsP gqWhS3 (ts (l ++ r)) (ts (l ++ r)) ∧ True) ∧ True) ∧ true = true ∧ True else bif le40 nm then bif !tokR nm then ∃ (_x : Unit), True ∧ (((4 : Nat) = (4 : Nat) ∧ cellsP gqWhS3 fT fT) ∧ ((5 : Nat) = (5 : Nat) ∧ cellsP gqWhS3 aT aT) ∧ (cellsP gqWhS3 (ts (l ++ r)) (ts (l ++ r)) ∧ True) ∧ True) ∧ true = true ∧ True else False else False) := by kernel_rfl
theorem vWsAZ_eq  (l r : LL) (nm : List UInt8) (fT aT : List AV) : vWsAZ l r nm fT aT = (bif ltI (10 : Int) (ic (List.length l)) then ∃ (_x : Unit), True ∧ (((4 : Nat) = (4 : Nat) ∧ cellsP gqWhS3 fT fT) ∧ ((5 : Nat) = (5 : Nat) ∧ cellsP gqWhS3 aT aT) ∧ (cellsP gqWhS3 (ts (l ++ r)) (ts (l ++ r)) ∧ True) ∧ True) ∧ true = true ∧ True else bif ltI (0 : Int) (ic (List.length l)) then ∃ (_x : Unit), True ∧ (((4 : Nat) = (4 : Nat) ∧ cellsP gqWhS3 fT fT) ∧ ((5 : Nat) = (5 : Nat) ∧ cellsP gqWhS3 aT aT) ∧ (cellsP gqWhS3 (ts (l ++ r)) (ts (l ++ r)) ∧ True) ∧ True) ∧ true = true ∧ True else (ts (l ++ r) = ts (getS (ts (l ++ r))) ∧ List.length l ≤ List.length (getS (ts (l ++ r))) ∧ ∀ (s : List UInt8), List.Mem s (List.take (List.length l) (getS (ts (l ++ r)))) → s.length ≤ (281474976710656 : Nat)) ∧ bif !litW (List.take (List.length l) (getS (ts (l ++ r)))) then ∃ (_x : Unit), True ∧ (((4 : Nat) = (4 : Nat) ∧ cellsP gqWhS3 fT fT) ∧ ((5 : Nat) = (5 : Nat) ∧ cellsP gqWhS3 aT aT) ∧ (cellsP gqWhS3 (ts (l ++ r)) (ts (l ++ r)) ∧ True) ∧ True) ∧ true = true ∧ True else bif ltI (40 : Int) (ic nm.length) then ∃ (_x : Unit), True ∧ (((4 : Nat) = (4 : Nat) ∧ cellsP gqWhS3 fT fT) ∧ ((5 : Nat) = (5 : Nat) ∧ cellsP gqWhS3 aT aT) ∧ (cellsP gqWhS3 (ts (l ++ r)) (ts (l ++ r)) ∧ True) ∧ True) ∧ true = true ∧ True else bif le40 nm then bif !tokR nm then ∃ (_x : Unit), True ∧ (((4 : Nat) = (4 : Nat) ∧ cellsP gqWhS3 fT fT) ∧ ((5 : Nat) = (5 : Nat) ∧ cellsP gqWhS3 aT aT) ∧ (cellsP gqWhS3 (ts (l ++ r)) (ts (l ++ r)) ∧ True) ∧ True) ∧ true = true ∧ True else False else False) := by kernel_rfl
structure Holds5 (p : Prop) : Prop where
  h : p
theorem wsNN_vc (nm : List UInt8) (fT aT : List AV) (hT : utf8T fT aT) : Holds5 (vWsNN nm fT aT) := by
  refine ⟨?_⟩
  have hf : ∀ σ, cellsP σ fT fT = True := fun σ => eq_true (cells_refl (by rw [hT.1]; exact flats_ints _ _))
  have ha : ∀ σ, cellsP σ aT aT = True := fun σ => eq_true (cells_refl (by rw [hT.2]; exact flats_pairs _ _ _))
  have hb : ∀ (σ : Nat → Nat) (x : List UInt8), cellsP σ (bs x) (bs x) = True := fun σ x => eq_true (cellsP_flat (bs_flat _) rfl)
  rw [vWsNN_eq]
  simp only [ic, cond_F, sameB_self, Nat.beq_refl]
  simp only [cond_P, leI_t, leI_f, ltI_t, ltI_f, eqI_t, eqI_f, and_t, not_t, not_f, dec_t, dec_f, Nat.zero_add, Nat.mul_one, List.drop_zero]
  simp only [cells_tsr, cells_fld, take_ts, ts_length, and_true, true_and, and_false, false_and, or_false, false_or, exists_false, Nat.le_refl, exists_const, false_implies, not_false_eq_true, true_implies, fldT_at, fldOk_at, getS_ts]
  simp only [hf, ha, hb, hT, and_true, true_and, implies_true, fldT_o, List.nil_append, List.take_left, List.take_zero]
  intro hnm
  have hn40 : le40 nm = true := decide_eq_true (by omega)
  have hnl : (lower nm).length ≤ 40 := by simp [lower]; omega
  have v1 : valT [(nm, [])] nm = [43] := val_one rfl
  have v2 : valT [(lower nm, [])] nm = [43] := val_one (lower_low nm)
  have o1 := fld_o (a := nm) (x := []) (by omega) (by simp)
  have o2 := fld_o (a := lower nm) (x := []) (by omega) (by simp)
  rw [v1, v2]
  simp only [hn40, o1, o2, true_and, and_true]
  simp
theorem wsNZ_vc (nm : List UInt8) (fT aT : List AV) (hT : utf8T fT aT) : Holds5 (vWsNZ nm fT aT) := by
  refine ⟨?_⟩
  have hf : ∀ σ, cellsP σ fT fT = True := fun σ => eq_true (cells_refl (by rw [hT.1]; exact flats_ints _ _))
  have ha : ∀ σ, cellsP σ aT aT = True := fun σ => eq_true (cells_refl (by rw [hT.2]; exact flats_pairs _ _ _))
  have hb : ∀ (σ : Nat → Nat) (x : List UInt8), cellsP σ (bs x) (bs x) = True := fun σ x => eq_true (cellsP_flat (bs_flat _) rfl)
  rw [vWsNZ_eq]
  simp only [ic, cond_F, sameB_self, Nat.beq_refl]
  simp only [cond_P, leI_t, leI_f, ltI_t, ltI_f, eqI_t, eqI_f, and_t, not_t, not_f, dec_t, dec_f, Nat.zero_add, Nat.mul_one, List.drop_zero]
  simp only [cells_tsr, cells_fld, take_ts, ts_length, and_true, true_and, and_false, false_and, or_false, false_or, exists_false, Nat.le_refl, exists_const, false_implies, not_false_eq_true, true_implies, fldT_at, fldOk_at, getS_ts]
  simp only [hf, ha, hb, hT, and_true, true_and, implies_true, fldT_o, List.nil_append, List.take_left, List.take_zero]
  intro hnm
  have hn40 : le40 nm = true := decide_eq_true (by omega)
  have hnl : (lower nm).length ≤ 40 := by simp [lower]; omega
  have v1 : valT [(nm, [])] nm = [43] := val_one rfl
  have v2 : valT [(lower nm, [])] nm = [43] := val_one (lower_low nm)
  have o1 := fld_o (a := nm) (x := []) (by omega) (by simp)
  have o2 := fld_o (a := lower nm) (x := []) (by omega) (by simp)
  rw [v1, v2]
  simp only [hn40, o1, o2, true_and, and_true]
  simp
theorem wsNA_vc (w wr nm : List UInt8) (fT aT : List AV) (hT : utf8T fT aT) : Holds5 (vWsNA w wr nm fT aT) := by
  refine ⟨?_⟩
  have hf : ∀ σ, cellsP σ fT fT = True := fun σ => eq_true (cells_refl (by rw [hT.1]; exact flats_ints _ _))
  have ha : ∀ σ, cellsP σ aT aT = True := fun σ => eq_true (cells_refl (by rw [hT.2]; exact flats_pairs _ _ _))
  have hb : ∀ (σ : Nat → Nat) (x : List UInt8), cellsP σ (bs x) (bs x) = True := fun σ x => eq_true (cellsP_flat (bs_flat _) rfl)
  rw [vWsNA_eq]
  simp only [ic, cond_F, sameB_self, Nat.beq_refl]
  simp only [cond_P, leI_t, leI_f, ltI_t, ltI_f, eqI_t, eqI_f, and_t, not_t, not_f, dec_t, dec_f, Nat.zero_add, Nat.mul_one, List.drop_zero]
  simp only [cells_tsr, cells_fld, take_ts, ts_length, and_true, true_and, and_false, false_and, or_false, false_or, exists_false, Nat.le_refl, exists_const, false_implies, not_false_eq_true, true_implies, fldT_at, fldOk_at, getS_ts]
  simp only [hf, ha, hb, hT, and_true, true_and, implies_true, fldT_o, List.nil_append, List.take_left, List.take_zero]
  intro hnm
  have hn40 : le40 nm = true := decide_eq_true (by omega)
  have hnl : (lower nm).length ≤ 40 := by simp [lower]; omega
  have v1 : valT [(nm, [])] nm = [43] := val_one rfl
  have v2 : valT [(lower nm, [])] nm = [43] := val_one (lower_low nm)
  have o1 := fld_o (a := nm) (x := []) (by omega) (by simp)
  have o2 := fld_o (a := lower nm) (x := []) (by omega) (by simp)
  rw [v1, v2]
  simp only [hn40, o1, o2, true_and, and_true]
  simp
theorem wsZN_vc (nm : List UInt8) (fT aT : List AV) (hT : utf8T fT aT) : Holds5 (vWsZN nm fT aT) := by
  refine ⟨?_⟩
  have hf : ∀ σ, cellsP σ fT fT = True := fun σ => eq_true (cells_refl (by rw [hT.1]; exact flats_ints _ _))
  have ha : ∀ σ, cellsP σ aT aT = True := fun σ => eq_true (cells_refl (by rw [hT.2]; exact flats_pairs _ _ _))
  have hb : ∀ (σ : Nat → Nat) (x : List UInt8), cellsP σ (bs x) (bs x) = True := fun σ x => eq_true (cellsP_flat (bs_flat _) rfl)
  rw [vWsZN_eq]
  simp only [ic, cond_F, sameB_self, Nat.beq_refl]
  simp only [cond_P, leI_t, leI_f, ltI_t, ltI_f, eqI_t, eqI_f, and_t, not_t, not_f, dec_t, dec_f, Nat.zero_add, Nat.mul_one, List.drop_zero]
  simp only [cells_tsr, cells_fld, take_ts, ts_length, and_true, true_and, and_false, false_and, or_false, false_or, exists_false, Nat.le_refl, exists_const, false_implies, not_false_eq_true, true_implies, fldT_at, fldOk_at, getS_ts]
  simp only [hf, ha, hb, hT, and_true, true_and, implies_true, fldT_o, List.nil_append, List.take_left, List.take_zero]
  intro hnm
  have hn40 : le40 nm = true := decide_eq_true (by omega)
  have hnl : (lower nm).length ≤ 40 := by simp [lower]; omega
  have v1 : valT [(nm, [])] nm = [43] := val_one rfl
  have v2 : valT [(lower nm, [])] nm = [43] := val_one (lower_low nm)
  have o1 := fld_o (a := nm) (x := []) (by omega) (by simp)
  have o2 := fld_o (a := lower nm) (x := []) (by omega) (by simp)
  rw [v1, v2]
  simp only [hn40, o1, o2, true_and, and_true]
  simp
theorem wsZZ_vc (nm : List UInt8) (fT aT : List AV) (hT : utf8T fT aT) : Holds5 (vWsZZ nm fT aT) := by
  refine ⟨?_⟩
  have hf : ∀ σ, cellsP σ fT fT = True := fun σ => eq_true (cells_refl (by rw [hT.1]; exact flats_ints _ _))
  have ha : ∀ σ, cellsP σ aT aT = True := fun σ => eq_true (cells_refl (by rw [hT.2]; exact flats_pairs _ _ _))
  have hb : ∀ (σ : Nat → Nat) (x : List UInt8), cellsP σ (bs x) (bs x) = True := fun σ x => eq_true (cellsP_flat (bs_flat _) rfl)
  rw [vWsZZ_eq]
  simp only [ic, cond_F, sameB_self, Nat.beq_refl]
  simp only [cond_P, leI_t, leI_f, ltI_t, ltI_f, eqI_t, eqI_f, and_t, not_t, not_f, dec_t, dec_f, Nat.zero_add, Nat.mul_one, List.drop_zero]
  simp only [cells_tsr, cells_fld, take_ts, ts_length, and_true, true_and, and_false, false_and, or_false, false_or, exists_false, Nat.le_refl, exists_const, false_implies, not_false_eq_true, true_implies, fldT_at, fldOk_at, getS_ts]
  simp only [hf, ha, hb, hT, and_true, true_and, implies_true, fldT_o, List.nil_append, List.take_left, List.take_zero]
  intro hnm
  have hn40 : le40 nm = true := decide_eq_true (by omega)
  have hnl : (lower nm).length ≤ 40 := by simp [lower]; omega
  have v1 : valT [(nm, [])] nm = [43] := val_one rfl
  have v2 : valT [(lower nm, [])] nm = [43] := val_one (lower_low nm)
  have o1 := fld_o (a := nm) (x := []) (by omega) (by simp)
  have o2 := fld_o (a := lower nm) (x := []) (by omega) (by simp)
  rw [v1, v2]
  simp only [hn40, o1, o2, true_and, and_true]
  simp
theorem wsZA_vc (w wr nm : List UInt8) (fT aT : List AV) (hT : utf8T fT aT) : Holds5 (vWsZA w wr nm fT aT) := by
  refine ⟨?_⟩
  have hf : ∀ σ, cellsP σ fT fT = True := fun σ => eq_true (cells_refl (by rw [hT.1]; exact flats_ints _ _))
  have ha : ∀ σ, cellsP σ aT aT = True := fun σ => eq_true (cells_refl (by rw [hT.2]; exact flats_pairs _ _ _))
  have hb : ∀ (σ : Nat → Nat) (x : List UInt8), cellsP σ (bs x) (bs x) = True := fun σ x => eq_true (cellsP_flat (bs_flat _) rfl)
  rw [vWsZA_eq]
  simp only [ic, cond_F, sameB_self, Nat.beq_refl]
  simp only [cond_P, leI_t, leI_f, ltI_t, ltI_f, eqI_t, eqI_f, and_t, not_t, not_f, dec_t, dec_f, Nat.zero_add, Nat.mul_one, List.drop_zero]
  simp only [cells_tsr, cells_fld, take_ts, ts_length, and_true, true_and, and_false, false_and, or_false, false_or, exists_false, Nat.le_refl, exists_const, false_implies, not_false_eq_true, true_implies, fldT_at, fldOk_at, getS_ts]
  simp only [hf, ha, hb, hT, and_true, true_and, implies_true, fldT_o, List.nil_append, List.take_left, List.take_zero]
  intro hnm
  have hn40 : le40 nm = true := decide_eq_true (by omega)
  have hnl : (lower nm).length ≤ 40 := by simp [lower]; omega
  have v1 : valT [(nm, [])] nm = [43] := val_one rfl
  have v2 : valT [(lower nm, [])] nm = [43] := val_one (lower_low nm)
  have o1 := fld_o (a := nm) (x := []) (by omega) (by simp)
  have o2 := fld_o (a := lower nm) (x := []) (by omega) (by simp)
  rw [v1, v2]
  simp only [hn40, o1, o2, true_and, and_true]
  simp
theorem wsEN_vc (r : LL) (nm : List UInt8) (fT aT : List AV) (hT : utf8T fT aT) : Holds5 (vWsEN r nm fT aT) := by
  refine ⟨?_⟩
  have hf : ∀ σ, cellsP σ fT fT = True := fun σ => eq_true (cells_refl (by rw [hT.1]; exact flats_ints _ _))
  have ha : ∀ σ, cellsP σ aT aT = True := fun σ => eq_true (cells_refl (by rw [hT.2]; exact flats_pairs _ _ _))
  have hb : ∀ (σ : Nat → Nat) (x : List UInt8), cellsP σ (bs x) (bs x) = True := fun σ x => eq_true (cellsP_flat (bs_flat _) rfl)
  rw [vWsEN_eq]
  simp only [ic, cond_F, sameB_self, Nat.beq_refl]
  simp only [cond_P, leI_t, leI_f, ltI_t, ltI_f, eqI_t, eqI_f, and_t, not_t, not_f, dec_t, dec_f, Nat.zero_add, Nat.mul_one, List.drop_zero]
  simp only [cells_tsr, cells_fld, take_ts, ts_length, and_true, true_and, and_false, false_and, or_false, false_or, exists_false, Nat.le_refl, exists_const, false_implies, not_false_eq_true, true_implies, fldT_at, fldOk_at, getS_ts]
  simp only [hf, ha, hb, hT, and_true, true_and, implies_true, fldT_o, List.nil_append, List.take_left, List.take_zero]
  refine ⟨⟨Nat.zero_le _, fun s hs => by cases hs⟩, ?_⟩
  intro hnm
  have hn40 : le40 nm = true := decide_eq_true (by omega)
  have hnl : (lower nm).length ≤ 40 := by simp [lower]; omega
  have v1 : valT [(nm, [])] nm = [43] := val_one rfl
  have v2 : valT [(lower nm, [])] nm = [43] := val_one (lower_low nm)
  have o1 := fld_o (a := nm) (x := []) (by omega) (by simp)
  have o2 := fld_o (a := lower nm) (x := []) (by omega) (by simp)
  rw [v1, v2]
  simp only [hn40, o1, o2, true_and, and_true]
  simp
theorem wsEZ_vc (r : LL) (nm : List UInt8) (fT aT : List AV) (hT : utf8T fT aT) : Holds5 (vWsEZ r nm fT aT) := by
  refine ⟨?_⟩
  have hf : ∀ σ, cellsP σ fT fT = True := fun σ => eq_true (cells_refl (by rw [hT.1]; exact flats_ints _ _))
  have ha : ∀ σ, cellsP σ aT aT = True := fun σ => eq_true (cells_refl (by rw [hT.2]; exact flats_pairs _ _ _))
  have hb : ∀ (σ : Nat → Nat) (x : List UInt8), cellsP σ (bs x) (bs x) = True := fun σ x => eq_true (cellsP_flat (bs_flat _) rfl)
  rw [vWsEZ_eq]
  simp only [ic, cond_F, sameB_self, Nat.beq_refl]
  simp only [cond_P, leI_t, leI_f, ltI_t, ltI_f, eqI_t, eqI_f, and_t, not_t, not_f, dec_t, dec_f, Nat.zero_add, Nat.mul_one, List.drop_zero]
  simp only [cells_tsr, cells_fld, take_ts, ts_length, and_true, true_and, and_false, false_and, or_false, false_or, exists_false, Nat.le_refl, exists_const, false_implies, not_false_eq_true, true_implies, fldT_at, fldOk_at, getS_ts]
  simp only [hf, ha, hb, hT, and_true, true_and, implies_true, fldT_o, List.nil_append, List.take_left, List.take_zero]
  refine ⟨⟨Nat.zero_le _, fun s hs => by cases hs⟩, ?_⟩
  intro hnm
  have hn40 : le40 nm = true := decide_eq_true (by omega)
  have hnl : (lower nm).length ≤ 40 := by simp [lower]; omega
  have v1 : valT [(nm, [])] nm = [43] := val_one rfl
  have v2 : valT [(lower nm, [])] nm = [43] := val_one (lower_low nm)
  have o1 := fld_o (a := nm) (x := []) (by omega) (by simp)
  have o2 := fld_o (a := lower nm) (x := []) (by omega) (by simp)
  rw [v1, v2]
  simp only [hn40, o1, o2, true_and, and_true]
  simp
theorem wsAN_vc (l r : LL) (nm : List UInt8) (fT aT : List AV) (hl : 0 < l.length) (hT : utf8T fT aT) : Holds5 (vWsAN l r nm fT aT) := by
  refine ⟨?_⟩
  have hf : ∀ σ, cellsP σ fT fT = True := fun σ => eq_true (cells_refl (by rw [hT.1]; exact flats_ints _ _))
  have ha : ∀ σ, cellsP σ aT aT = True := fun σ => eq_true (cells_refl (by rw [hT.2]; exact flats_pairs _ _ _))
  have hb : ∀ (σ : Nat → Nat) (x : List UInt8), cellsP σ (bs x) (bs x) = True := fun σ x => eq_true (cellsP_flat (bs_flat _) rfl)
  rw [vWsAN_eq]
  simp only [ic, cond_F, sameB_self, Nat.beq_refl]
  simp only [cond_P, leI_t, leI_f, ltI_t, ltI_f, eqI_t, eqI_f, and_t, not_t, not_f, dec_t, dec_f, Nat.zero_add, Nat.mul_one, List.drop_zero]
  simp only [cells_tsr, cells_fld, take_ts, ts_length, and_true, true_and, and_false, false_and, or_false, false_or, exists_false, Nat.le_refl, exists_const, false_implies, not_false_eq_true, true_implies, fldT_at, fldOk_at, getS_ts]
  simp only [hf, ha, hb, hT, and_true, true_and, implies_true, fldT_o, List.nil_append, List.take_left, List.take_zero]
  intro h10 h0
  exact absurd h0 (by omega)
theorem wsAZ_vc (l r : LL) (nm : List UInt8) (fT aT : List AV) (hl : 0 < l.length) (hT : utf8T fT aT) : Holds5 (vWsAZ l r nm fT aT) := by
  refine ⟨?_⟩
  have hf : ∀ σ, cellsP σ fT fT = True := fun σ => eq_true (cells_refl (by rw [hT.1]; exact flats_ints _ _))
  have ha : ∀ σ, cellsP σ aT aT = True := fun σ => eq_true (cells_refl (by rw [hT.2]; exact flats_pairs _ _ _))
  have hb : ∀ (σ : Nat → Nat) (x : List UInt8), cellsP σ (bs x) (bs x) = True := fun σ x => eq_true (cellsP_flat (bs_flat _) rfl)
  rw [vWsAZ_eq]
  simp only [ic, cond_F, sameB_self, Nat.beq_refl]
  simp only [cond_P, leI_t, leI_f, ltI_t, ltI_f, eqI_t, eqI_f, and_t, not_t, not_f, dec_t, dec_f, Nat.zero_add, Nat.mul_one, List.drop_zero]
  simp only [cells_tsr, cells_fld, take_ts, ts_length, and_true, true_and, and_false, false_and, or_false, false_or, exists_false, Nat.le_refl, exists_const, false_implies, not_false_eq_true, true_implies, fldT_at, fldOk_at, getS_ts]
  simp only [hf, ha, hb, hT, and_true, true_and, implies_true, fldT_o, List.nil_append, List.take_left, List.take_zero]
  intro h10 h0
  exact absurd h0 (by omega)
end Go.Proofs.YtciciemaldbidaaDoor

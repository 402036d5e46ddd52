/- The law VaryCalls, walked: no names. -/
import Derived.Test.YtciciemaldbidaaGreatDoorRSm
import Derived.Test.YtciciemaldbidaaGreatDoorLtC
import Derived.Test.YtciciemaldbidaaGreatDoorVrL
set_option linter.unusedSimpArgs false
set_option linter.unusedVariables false
namespace Go.Proofs.YtciciemaldbidaaGreatDoor
open Go Go.Ve
set_option maxRecDepth 20000
noncomputable def eNmR : SpecE := fun args H =>
  match args with
  | [.nilsl] => some (.ok (.tuple [.nilsl, .bool false]) none)
  | [.sl b 0 n _ _] => match H[b]? with
    | some (.cells vs _ _) => some (.needP (fldOk vs n)
        (.br (starB (listF (fldT vs n) varyN)) (.ok (.tuple [.nilsl, .bool true]) none)
          (.br (decide (listF (fldT vs n) varyN = [])) (.ok (.tuple [.nilsl, .bool false]) none)
            (.ok (.tuple [.sl H.length 0 (nmsL (listF (fldT vs n) varyN)).length (nmsL (listF (fldT vs n) varyN)).length false, .bool false]) (some (H ++ [.cells (ts (nmsL (listF (fldT vs n) varyN))) eT false]))))))
    | _ => none
  | _ => none
noncomputable def TCa : List (Nat × SpecE) := [(4, flatE gLiv12), (5, eLit20), (6, eLtT), (7, eNames), (8, eNmR), (9, eVal), (10, eVal), (11, eSm), (12, eMat), (13, eMat), (14, eKey), (15, eKey), (16, flatE gPr), (17, flatE gPr)]
noncomputable def faCa (f : FuncId) : Option FA :=
  match Nat.beq f 36 with
  | true => some ⟨[(1, .tail 10)], [], [(13, .str [])]⟩
  | false => some ⟨[], [], []⟩
noncomputable def VCaN : VE := ⟨Tryz.prog, tabS TCa noS, noO, faCa⟩
noncomputable def VCaA : VE := ⟨Tryz.prog, tabS TCa noS, noO, fun _ => none⟩
noncomputable def aCa (l : LL) : Anns := [(8, [.mk Nat (fun i => [(15, .int .i64 i)]) (fun _ => none) (fun i => i ≤ l.length) (fun i => l.length - i) gcB gcB (fun i => [(61, .str (l.getD i [])), (67, .str (l.getD i []))]) (fun _ => [])])]

noncomputable def vCaNNN  (fT aT pT : List AV) (ho pa : List UInt8) : Prop := vcF VCaN [(10, .quiet)] 300 [] [] 3 [.nilsl, .nilsl, .nilsl, .str ho, .str pa] [gFst fT, gAcc aT, gPow pT, .cells [] 0 true, .cells [] 0 true, .cells [] 0 true] [⟨Unit, fun _ => .bool true, fun _ => [gFst fT, gAcc aT, gPow pT, .cells [] 0 true, .cells [] 0 true, .cells [] 0 true], fun _ => True, gcB⟩]
noncomputable def vCaNAN  (fT aT pT : List AV) (ho pa : List UInt8) (fb rb : FL) : Prop := vcF VCaN [(10, .quiet)] 300 [] [] 3 [.nilsl, .sl 4 0 fb.length (fb.length + rb.length) true, .nilsl, .str ho, .str pa] [gFst fT, gAcc aT, gPow pT, .cells [] 0 true, .cells (fieldC (fb ++ rb)) 0 true, .cells [] 0 true] [⟨Unit, fun _ => .bool true, fun _ => [gFst fT, gAcc aT, gPow pT, .cells [] 0 true, .cells (fieldC (fb ++ rb)) 0 true, .cells [] 0 true], fun _ => True, gcB⟩]
noncomputable def vCaANN  (fT aT pT : List AV) (ho pa : List UInt8) (fa ra : FL) : Prop := vcF VCaN [(10, .quiet)] 300 [] [] 3 [.sl 3 0 fa.length (fa.length + ra.length) true, .nilsl, .nilsl, .str ho, .str pa] [gFst fT, gAcc aT, gPow pT, .cells (fieldC (fa ++ ra)) 0 true, .cells [] 0 true, .cells [] 0 true] [⟨Unit, fun _ => .bool true, fun _ => [gFst fT, gAcc aT, gPow pT, .cells (fieldC (fa ++ ra)) 0 true, .cells [] 0 true, .cells [] 0 true], fun _ => True, gcB⟩]
noncomputable def vCaAAN  (fT aT pT : List AV) (ho pa : List UInt8) (fa ra : FL) (fb rb : FL) : Prop := vcF VCaN [(10, .quiet)] 300 [] [] 3 [.sl 3 0 fa.length (fa.length + ra.length) true, .sl 4 0 fb.length (fb.length + rb.length) true, .nilsl, .str ho, .str pa] [gFst fT, gAcc aT, gPow pT, .cells (fieldC (fa ++ ra)) 0 true, .cells (fieldC (fb ++ rb)) 0 true, .cells [] 0 true] [⟨Unit, fun _ => .bool true, fun _ => [gFst fT, gAcc aT, gPow pT, .cells (fieldC (fa ++ ra)) 0 true, .cells (fieldC (fb ++ rb)) 0 true, .cells [] 0 true], fun _ => True, gcB⟩]
def gqCaN0 : Nat → Nat := (fun (b : Nat) => [0, 1, 2, 3, 4, 5].getD b 6)
def gqCaN1 : Nat → Nat := (fun (b : Nat) => [0, 1, 2, 3, 4, 5].getD b 9)
def gqCaN2 : Nat → Nat := (fun (b : Nat) => [0, 1, 2, 3, 4, 5].getD b 7)
def gqCaN3 : Nat → Nat := (fun (b : Nat) => [0, 1, 2, 3, 4, 5].getD b 11)
def gqCaN4 : Nat → Nat := (fun (b : Nat) => [0, 1, 2, 3, 4, 5].getD b 8)
def gsCaN0 (fT : List AV) (aT : List AV) (pT : List AV) (fb : FL) (rb : FL) : Prop := ((2 = 2 ∧ cellsP gqCaN0 fT fT) ∧ (3 = 3 ∧ cellsP gqCaN0 aT aT) ∧ (1 = 1 ∧ cellsP gqCaN0 pT pT) ∧ (True ∧ True) ∧ (cellsP gqCaN0 (fieldC (fb ++ rb)) (fieldC (fb ++ rb)) ∧ True) ∧ (True ∧ True) ∧ True)
def gsCaN1 (fT : List AV) (aT : List AV) (pT : List AV) (fa : FL) (ra : FL) : Prop := ((2 = 2 ∧ cellsP gqCaN0 fT fT) ∧ (3 = 3 ∧ cellsP gqCaN0 aT aT) ∧ (1 = 1 ∧ cellsP gqCaN0 pT pT) ∧ (cellsP gqCaN0 (fieldC (fa ++ ra)) (fieldC (fa ++ ra)) ∧ True) ∧ (True ∧ True) ∧ (True ∧ True) ∧ True)
def gsCaN2 (fT : List AV) (aT : List AV) (pT : List AV) (fa : FL) (ra : FL) : Prop := ((2 = 2 ∧ cellsP gqCaN2 fT fT) ∧ (3 = 3 ∧ cellsP gqCaN2 aT aT) ∧ (1 = 1 ∧ cellsP gqCaN2 pT pT) ∧ (cellsP gqCaN2 (fieldC (fa ++ ra)) (fieldC (fa ++ ra)) ∧ True) ∧ (True ∧ True) ∧ (True ∧ True) ∧ True)
def gsCaN3 (fT : List AV) (aT : List AV) (pT : List AV) (fa : FL) (ra : FL) (fb : FL) (rb : FL) : Prop := ((2 = 2 ∧ cellsP gqCaN0 fT fT) ∧ (3 = 3 ∧ cellsP gqCaN0 aT aT) ∧ (1 = 1 ∧ cellsP gqCaN0 pT pT) ∧ (cellsP gqCaN0 (fieldC (fa ++ ra)) (fieldC (fa ++ ra)) ∧ True) ∧ (cellsP gqCaN0 (fieldC (fb ++ rb)) (fieldC (fb ++ rb)) ∧ True) ∧ (True ∧ True) ∧ True)
def gsCaN4 (fT : List AV) (aT : List AV) (pT : List AV) (fa : FL) (ra : FL) (fb : FL) (rb : FL) : Prop := ((2 = 2 ∧ cellsP gqCaN2 fT fT) ∧ (3 = 3 ∧ cellsP gqCaN2 aT aT) ∧ (1 = 1 ∧ cellsP gqCaN2 pT pT) ∧ (cellsP gqCaN2 (fieldC (fa ++ ra)) (fieldC (fa ++ ra)) ∧ True) ∧ (cellsP gqCaN2 (fieldC (fb ++ rb)) (fieldC (fb ++ rb)) ∧ True) ∧ (True ∧ True) ∧ True)
theorem vCaNNN_eq  (fT aT pT : List AV) (ho pa : List UInt8) : vCaNNN fT aT pT ho pa = (bif ltI (100 : Int) (ic ho.length) then ∃ (_x : Unit), True ∧ ((2 = 2 ∧ cellsP gqCaN0 fT fT) ∧ (3 = 3 ∧ cellsP gqCaN0 aT aT) ∧ (1 = 1 ∧ cellsP gqCaN0 pT pT) ∧ (True ∧ True) ∧ (True ∧ True) ∧ (True ∧ True) ∧ True) ∧ true = true ∧ True else bif ltI (200 : Int) (ic pa.length) then ∃ (_x : Unit), True ∧ ((2 = 2 ∧ cellsP gqCaN0 fT fT) ∧ (3 = 3 ∧ cellsP gqCaN0 aT aT) ∧ (1 = 1 ∧ cellsP gqCaN0 pT pT) ∧ (True ∧ True) ∧ (True ∧ True) ∧ (True ∧ True) ∧ True) ∧ true = true ∧ True else some (AO.val (AV.str []) none) = some (AO.val (AV.str []) none) ∧ bif le40 ho && le40 pa then bif le40 ho && le40 pa then ∃ (_x : Unit), True ∧ ((2 = 2 ∧ cellsP (fun (b : Nat) => [0, 1, 2, 3, 4, 5].getD b 9) fT fT) ∧ (3 = 3 ∧ cellsP (fun (b : Nat) => [0, 1, 2, 3, 4, 5].getD b 9) aT aT) ∧ (1 = 1 ∧ cellsP (fun (b : Nat) => [0, 1, 2, 3, 4, 5].getD b 9) pT pT) ∧ (True ∧ True) ∧ (True ∧ True) ∧ (True ∧ True) ∧ True) ∧ decide (lower ho ++ [(32 : UInt8)] ++ pa = lower ho ++ [(32 : UInt8)] ++ pa) = true ∧ True else False else False) := by kernel_rfl
theorem vCaNAN_eq  (fT aT pT : List AV) (ho pa : List UInt8) (fb rb : FL) : vCaNAN fT aT pT ho pa fb rb = ((fieldC (fb ++ rb) = fieldC (getF (fieldC (fb ++ rb))) ∧ List.length fb ≤ List.length (getF (fieldC (fb ++ rb))) ∧ ∀ (f : List UInt8 × List UInt8), List.Mem f (fldT (fieldC (fb ++ rb)) (List.length fb)) → f.fst.length ≤ 281474976710656 ∧ f.snd.length ≤ 281474976710656) ∧ bif !light20 (fldT (fieldC (fb ++ rb)) (List.length fb)) then ∃ (_x : Unit), True ∧ (gsCaN0 fT aT pT fb rb) ∧ true = true ∧ True else bif ltI (100 : Int) (ic ho.length) then ∃ (_x : Unit), True ∧ (gsCaN0 fT aT pT fb rb) ∧ true = true ∧ True else bif ltI (200 : Int) (ic pa.length) then ∃ (_x : Unit), True ∧ (gsCaN0 fT aT pT fb rb) ∧ true = true ∧ True else some (AO.val (AV.str []) none) = some (AO.val (AV.str []) none) ∧ bif le40 ho && le40 pa then bif le40 ho && le40 pa then ∃ (_x : Unit), True ∧ ((2 = 2 ∧ cellsP gqCaN1 fT fT) ∧ (3 = 3 ∧ cellsP gqCaN1 aT aT) ∧ (1 = 1 ∧ cellsP gqCaN1 pT pT) ∧ (True ∧ True) ∧ (cellsP gqCaN1 (fieldC (fb ++ rb)) (fieldC (fb ++ rb)) ∧ True) ∧ (True ∧ True) ∧ True) ∧ decide (lower ho ++ [(32 : UInt8)] ++ pa = lower ho ++ [(32 : UInt8)] ++ pa) = true ∧ True else False else False) := by kernel_rfl
theorem vCaANN_eq  (fT aT pT : List AV) (ho pa : List UInt8) (fa ra : FL) : vCaANN fT aT pT ho pa fa ra = ((fieldC (fa ++ ra) = fieldC (getF (fieldC (fa ++ ra))) ∧ List.length fa ≤ List.length (getF (fieldC (fa ++ ra))) ∧ ∀ (f : List UInt8 × List UInt8), List.Mem f (fldT (fieldC (fa ++ ra)) (List.length fa)) → f.fst.length ≤ 281474976710656 ∧ f.snd.length ≤ 281474976710656) ∧ bif !light20 (fldT (fieldC (fa ++ ra)) (List.length fa)) then ∃ (_x : Unit), True ∧ (gsCaN1 fT aT pT fa ra) ∧ true = true ∧ True else bif ltI (100 : Int) (ic ho.length) then ∃ (_x : Unit), True ∧ (gsCaN1 fT aT pT fa ra) ∧ true = true ∧ True else bif ltI (200 : Int) (ic pa.length) then ∃ (_x : Unit), True ∧ (gsCaN1 fT aT pT fa ra) ∧ true = true ∧ True else fldOk (fieldC (fa ++ ra)) (List.length fa) ∧ bif starB (listF (fldT (fieldC (fa ++ ra)) (List.length fa)) [(86 : UInt8), (97 : UInt8), (114 : UInt8), (121 : UInt8)]) then fldOk (fieldC (fa ++ ra)) (List.length fa) ∧ bif starB (listF (fldT (fieldC (fa ++ ra)) (List.length fa)) [(86 : UInt8), (97 : UInt8), (114 : UInt8), (121 : UInt8)]) then some (AO.val (AV.str []) none) = some (AO.val (AV.str []) none) ∧ bif le40 ho && le40 pa then bif le40 ho && le40 pa then ∃ (_x : Unit), True ∧ ((2 = 2 ∧ cellsP gqCaN1 fT fT) ∧ (3 = 3 ∧ cellsP gqCaN1 aT aT) ∧ (1 = 1 ∧ cellsP gqCaN1 pT pT) ∧ (cellsP gqCaN1 (fieldC (fa ++ ra)) (fieldC (fa ++ ra)) ∧ True) ∧ (True ∧ True) ∧ (True ∧ True) ∧ True) ∧ decide (lower ho ++ [(32 : UInt8)] ++ pa = lower ho ++ [(32 : UInt8)] ++ pa) = true ∧ True else False else False else bif decide (listF (fldT (fieldC (fa ++ ra)) (List.length fa)) [(86 : UInt8), (97 : UInt8), (114 : UInt8), (121 : UInt8)] = []) then ∃ (_x : Unit), True ∧ (gsCaN1 fT aT pT fa ra) ∧ false = true ∧ True else False ∧ ∃ (_x : Unit), True ∧ (gsCaN2 fT aT pT fa ra) ∧ false = true ∧ True else bif decide (listF (fldT (fieldC (fa ++ ra)) (List.length fa)) [(86 : UInt8), (97 : UInt8), (114 : UInt8), (121 : UInt8)] = []) then fldOk (fieldC (fa ++ ra)) (List.length fa) ∧ bif starB (listF (fldT (fieldC (fa ++ ra)) (List.length fa)) [(86 : UInt8), (97 : UInt8), (114 : UInt8), (121 : UInt8)]) then ∃ (_x : Unit), True ∧ (gsCaN1 fT aT pT fa ra) ∧ false = true ∧ True else bif decide (listF (fldT (fieldC (fa ++ ra)) (List.length fa)) [(86 : UInt8), (97 : UInt8), (114 : UInt8), (121 : UInt8)] = []) then some (AO.val (AV.str []) none) = some (AO.val (AV.str []) none) ∧ bif le40 ho && le40 pa then bif le40 ho && le40 pa then ∃ (_x : Unit), True ∧ ((2 = 2 ∧ cellsP gqCaN1 fT fT) ∧ (3 = 3 ∧ cellsP gqCaN1 aT aT) ∧ (1 = 1 ∧ cellsP gqCaN1 pT pT) ∧ (cellsP gqCaN1 (fieldC (fa ++ ra)) (fieldC (fa ++ ra)) ∧ True) ∧ (True ∧ True) ∧ (True ∧ True) ∧ True) ∧ decide (lower ho ++ [(32 : UInt8)] ++ pa = lower ho ++ [(32 : UInt8)] ++ pa) = true ∧ True else False else False else False ∧ ∃ (_x : Unit), True ∧ (gsCaN2 fT aT pT fa ra) ∧ false = true ∧ True else fldOk (fieldC (fa ++ ra)) (List.length fa) ∧ bif starB (listF (fldT (fieldC (fa ++ ra)) (List.length fa)) [(86 : UInt8), (97 : UInt8), (114 : UInt8), (121 : UInt8)]) then False ∧ ∃ (_x : Unit), True ∧ (gsCaN2 fT aT pT fa ra) ∧ false = true ∧ True else bif decide (listF (fldT (fieldC (fa ++ ra)) (List.length fa)) [(86 : UInt8), (97 : UInt8), (114 : UInt8), (121 : UInt8)] = []) then False ∧ ∃ (_x : Unit), True ∧ (gsCaN2 fT aT pT fa ra) ∧ false = true ∧ True else ((ts (nmsC (listF (fldT (fieldC (fa ++ ra)) (List.length fa)) [(86 : UInt8), (97 : UInt8), (114 : UInt8), (121 : UInt8)])) = ts (getS (ts (nmsC (listF (fldT (fieldC (fa ++ ra)) (List.length fa)) [(86 : UInt8), (97 : UInt8), (114 : UInt8), (121 : UInt8)])))) ∧ List.length (nmsL (listF (fldT (fieldC (fa ++ ra)) (List.length fa)) [(86 : UInt8), (97 : UInt8), (114 : UInt8), (121 : UInt8)])) ≤ List.length (getS (ts (nmsC (listF (fldT (fieldC (fa ++ ra)) (List.length fa)) [(86 : UInt8), (97 : UInt8), (114 : UInt8), (121 : UInt8)])))) ∧ List.length (nmsL (listF (fldT (fieldC (fa ++ ra)) (List.length fa)) [(86 : UInt8), (97 : UInt8), (114 : UInt8), (121 : UInt8)])) ≤ 1099511627776) ∧ (ts (nmsL (listF (fldT (fieldC (fa ++ ra)) (List.length fa)) [(86 : UInt8), (97 : UInt8), (114 : UInt8), (121 : UInt8)])) = ts (getS (ts (nmsL (listF (fldT (fieldC (fa ++ ra)) (List.length fa)) [(86 : UInt8), (97 : UInt8), (114 : UInt8), (121 : UInt8)])))) ∧ List.length (nmsL (listF (fldT (fieldC (fa ++ ra)) (List.length fa)) [(86 : UInt8), (97 : UInt8), (114 : UInt8), (121 : UInt8)])) ≤ List.length (getS (ts (nmsL (listF (fldT (fieldC (fa ++ ra)) (List.length fa)) [(86 : UInt8), (97 : UInt8), (114 : UInt8), (121 : UInt8)]))))) ∧ 6 ≠ 7) ∧ bif decide (List.take (List.length (nmsL (listF (fldT (fieldC (fa ++ ra)) (List.length fa)) [(86 : UInt8), (97 : UInt8), (114 : UInt8), (121 : UInt8)]))) (getS (ts (nmsC (listF (fldT (fieldC (fa ++ ra)) (List.length fa)) [(86 : UInt8), (97 : UInt8), (114 : UInt8), (121 : UInt8)])))) = List.take (List.length (nmsL (listF (fldT (fieldC (fa ++ ra)) (List.length fa)) [(86 : UInt8), (97 : UInt8), (114 : UInt8), (121 : UInt8)]))) (getS (ts (nmsL (listF (fldT (fieldC (fa ++ ra)) (List.length fa)) [(86 : UInt8), (97 : UInt8), (114 : UInt8), (121 : UInt8)]))))) then some (AO.val (AV.str []) none) = some (AO.val (AV.str []) none) ∧ bif le40 ho && le40 pa then bif le40 ho && le40 pa then ∃ (_x : Unit), True ∧ ((2 = 2 ∧ cellsP gqCaN3 fT fT) ∧ (3 = 3 ∧ cellsP gqCaN3 aT aT) ∧ (1 = 1 ∧ cellsP gqCaN3 pT pT) ∧ (cellsP gqCaN3 (fieldC (fa ++ ra)) (fieldC (fa ++ ra)) ∧ True) ∧ (True ∧ True) ∧ (True ∧ True) ∧ True) ∧ decide (lower ho ++ [(32 : UInt8)] ++ pa = lower ho ++ [(32 : UInt8)] ++ pa) = true ∧ True else False else False else ∃ (_x : Unit), True ∧ ((2 = 2 ∧ cellsP gqCaN4 fT fT) ∧ (3 = 3 ∧ cellsP gqCaN4 aT aT) ∧ (1 = 1 ∧ cellsP gqCaN4 pT pT) ∧ (cellsP gqCaN4 (fieldC (fa ++ ra)) (fieldC (fa ++ ra)) ∧ True) ∧ (True ∧ True) ∧ (True ∧ True) ∧ True) ∧ false = true ∧ True) := by kernel_rfl
theorem vCaAAN_eq  (fT aT pT : List AV) (ho pa : List UInt8) (fa ra : FL) (fb rb : FL) : vCaAAN fT aT pT ho pa fa ra fb rb = ((fieldC (fa ++ ra) = fieldC (getF (fieldC (fa ++ ra))) ∧ List.length fa ≤ List.length (getF (fieldC (fa ++ ra))) ∧ ∀ (f : List UInt8 × List UInt8), List.Mem f (fldT (fieldC (fa ++ ra)) (List.length fa)) → f.fst.length ≤ 281474976710656 ∧ f.snd.length ≤ 281474976710656) ∧ bif !light20 (fldT (fieldC (fa ++ ra)) (List.length fa)) then ∃ (_x : Unit), True ∧ (gsCaN3 fT aT pT fa ra fb rb) ∧ true = true ∧ True else (fieldC (fb ++ rb) = fieldC (getF (fieldC (fb ++ rb))) ∧ List.length fb ≤ List.length (getF (fieldC (fb ++ rb))) ∧ ∀ (f : List UInt8 × List UInt8), List.Mem f (fldT (fieldC (fb ++ rb)) (List.length fb)) → f.fst.length ≤ 281474976710656 ∧ f.snd.length ≤ 281474976710656) ∧ bif !light20 (fldT (fieldC (fb ++ rb)) (List.length fb)) then ∃ (_x : Unit), True ∧ (gsCaN3 fT aT pT fa ra fb rb) ∧ true = true ∧ True else bif ltI (100 : Int) (ic ho.length) then ∃ (_x : Unit), True ∧ (gsCaN3 fT aT pT fa ra fb rb) ∧ true = true ∧ True else bif ltI (200 : Int) (ic pa.length) then ∃ (_x : Unit), True ∧ (gsCaN3 fT aT pT fa ra fb rb) ∧ true = true ∧ True else fldOk (fieldC (fa ++ ra)) (List.length fa) ∧ bif starB (listF (fldT (fieldC (fa ++ ra)) (List.length fa)) [(86 : UInt8), (97 : UInt8), (114 : UInt8), (121 : UInt8)]) then fldOk (fieldC (fa ++ ra)) (List.length fa) ∧ bif starB (listF (fldT (fieldC (fa ++ ra)) (List.length fa)) [(86 : UInt8), (97 : UInt8), (114 : UInt8), (121 : UInt8)]) then some (AO.val (AV.str []) none) = some (AO.val (AV.str []) none) ∧ bif le40 ho && le40 pa then bif le40 ho && le40 pa then ∃ (_x : Unit), True ∧ ((2 = 2 ∧ cellsP gqCaN1 fT fT) ∧ (3 = 3 ∧ cellsP gqCaN1 aT aT) ∧ (1 = 1 ∧ cellsP gqCaN1 pT pT) ∧ (cellsP gqCaN1 (fieldC (fa ++ ra)) (fieldC (fa ++ ra)) ∧ True) ∧ (cellsP gqCaN1 (fieldC (fb ++ rb)) (fieldC (fb ++ rb)) ∧ True) ∧ (True ∧ True) ∧ True) ∧ decide (lower ho ++ [(32 : UInt8)] ++ pa = lower ho ++ [(32 : UInt8)] ++ pa) = true ∧ True else False else False else bif decide (listF (fldT (fieldC (fa ++ ra)) (List.length fa)) [(86 : UInt8), (97 : UInt8), (114 : UInt8), (121 : UInt8)] = []) then ∃ (_x : Unit), True ∧ (gsCaN3 fT aT pT fa ra fb rb) ∧ false = true ∧ True else False ∧ ∃ (_x : Unit), True ∧ (gsCaN4 fT aT pT fa ra fb rb) ∧ false = true ∧ True else bif decide (listF (fldT (fieldC (fa ++ ra)) (List.length fa)) [(86 : UInt8), (97 : UInt8), (114 : UInt8), (121 : UInt8)] = []) then fldOk (fieldC (fa ++ ra)) (List.length fa) ∧ bif starB (listF (fldT (fieldC (fa ++ ra)) (List.length fa)) [(86 : UInt8), (97 : UInt8), (114 : UInt8), (121 : UInt8)]) then ∃ (_x : Unit), True ∧ (gsCaN3 fT aT pT fa ra fb rb) ∧ false = true ∧ True else bif decide (listF (fldT (fieldC (fa ++ ra)) (List.length fa)) [(86 : UInt8), (97 : UInt8), (114 : UInt8), (121 : UInt8)] = []) then some (AO.val (AV.str []) none) = some (AO.val (AV.str []) none) ∧ bif le40 ho && le40 pa then bif le40 ho && le40 pa then ∃ (_x : Unit), True ∧ ((2 = 2 ∧ cellsP gqCaN1 fT fT) ∧ (3 = 3 ∧ cellsP gqCaN1 aT aT) ∧ (1 = 1 ∧ cellsP gqCaN1 pT pT) ∧ (cellsP gqCaN1 (fieldC (fa ++ ra)) (fieldC (fa ++ ra)) ∧ True) ∧ (cellsP gqCaN1 (fieldC (fb ++ rb)) (fieldC (fb ++ rb)) ∧ True) ∧ (True ∧ True) ∧ True) ∧ decide (lower ho ++ [(32 : UInt8)] ++ pa = lower ho ++ [(32 : UInt8)] ++ pa) = true ∧ True else False else False else False ∧ ∃ (_x : Unit), True ∧ (gsCaN4 fT aT pT fa ra fb rb) ∧ false = true ∧ True else fldOk (fieldC (fa ++ ra)) (List.length fa) ∧ bif starB (listF (fldT (fieldC (fa ++ ra)) (List.length fa)) [(86 : UInt8), (97 : UInt8), (114 : UInt8), (121 : UInt8)]) then False ∧ ∃ (_x : Unit), True ∧ (gsCaN4 fT aT pT fa ra fb rb) ∧ false = true ∧ True else bif decide (listF (fldT (fieldC (fa ++ ra)) (List.length fa)) [(86 : UInt8), (97 : UInt8), (114 : UInt8), (121 : UInt8)] = []) then False ∧ ∃ (_x : Unit), True ∧ (gsCaN4 fT aT pT fa ra fb rb) ∧ false = true ∧ True else ((ts (nmsC (listF (fldT (fieldC (fa ++ ra)) (List.length fa)) [(86 : UInt8), (97 : UInt8), (114 : UInt8), (121 : UInt8)])) = ts (getS (ts (nmsC (listF (fldT (fieldC (fa ++ ra)) (List.length fa)) [(86 : UInt8), (97 : UInt8), (114 : UInt8), (121 : UInt8)])))) ∧ List.length (nmsL (listF (fldT (fieldC (fa ++ ra)) (List.length fa)) [(86 : UInt8), (97 : UInt8), (114 : UInt8), (121 : UInt8)])) ≤ List.length (getS (ts (nmsC (listF (fldT (fieldC (fa ++ ra)) (List.length fa)) [(86 : UInt8), (97 : UInt8), (114 : UInt8), (121 : UInt8)])))) ∧ List.length (nmsL (listF (fldT (fieldC (fa ++ ra)) (List.length fa)) [(86 : UInt8), (97 : UInt8), (114 : UInt8), (121 : UInt8)])) ≤ 1099511627776) ∧ (ts (nmsL (listF (fldT (fieldC (fa ++ ra)) (List.length fa)) [(86 : UInt8), (97 : UInt8), (114 : UInt8), (121 : UInt8)])) = ts (getS (ts (nmsL (listF (fldT (fieldC (fa ++ ra)) (List.length fa)) [(86 : UInt8), (97 : UInt8), (114 : UInt8), (121 : UInt8)])))) ∧ List.length (nmsL (listF (fldT (fieldC (fa ++ ra)) (List.length fa)) [(86 : UInt8), (97 : UInt8), (114 : UInt8), (121 : UInt8)])) ≤ List.length (getS (ts (nmsL (listF (fldT (fieldC (fa ++ ra)) (List.length fa)) [(86 : UInt8), (97 : UInt8), (114 : UInt8), (121 : UInt8)]))))) ∧ 6 ≠ 7) ∧ bif decide (List.take (List.length (nmsL (listF (fldT (fieldC (fa ++ ra)) (List.length fa)) [(86 : UInt8), (97 : UInt8), (114 : UInt8), (121 : UInt8)]))) (getS (ts (nmsC (listF (fldT (fieldC (fa ++ ra)) (List.length fa)) [(86 : UInt8), (97 : UInt8), (114 : UInt8), (121 : UInt8)])))) = List.take (List.length (nmsL (listF (fldT (fieldC (fa ++ ra)) (List.length fa)) [(86 : UInt8), (97 : UInt8), (114 : UInt8), (121 : UInt8)]))) (getS (ts (nmsL (listF (fldT (fieldC (fa ++ ra)) (List.length fa)) [(86 : UInt8), (97 : UInt8), (114 : UInt8), (121 : UInt8)]))))) then some (AO.val (AV.str []) none) = some (AO.val (AV.str []) none) ∧ bif le40 ho && le40 pa then bif le40 ho && le40 pa then ∃ (_x : Unit), True ∧ ((2 = 2 ∧ cellsP gqCaN3 fT fT) ∧ (3 = 3 ∧ cellsP gqCaN3 aT aT) ∧ (1 = 1 ∧ cellsP gqCaN3 pT pT) ∧ (cellsP gqCaN3 (fieldC (fa ++ ra)) (fieldC (fa ++ ra)) ∧ True) ∧ (cellsP gqCaN3 (fieldC (fb ++ rb)) (fieldC (fb ++ rb)) ∧ True) ∧ (True ∧ True) ∧ True) ∧ decide (lower ho ++ [(32 : UInt8)] ++ pa = lower ho ++ [(32 : UInt8)] ++ pa) = true ∧ True else False else False else ∃ (_x : Unit), True ∧ ((2 = 2 ∧ cellsP gqCaN4 fT fT) ∧ (3 = 3 ∧ cellsP gqCaN4 aT aT) ∧ (1 = 1 ∧ cellsP gqCaN4 pT pT) ∧ (cellsP gqCaN4 (fieldC (fa ++ ra)) (fieldC (fa ++ ra)) ∧ True) ∧ (cellsP gqCaN4 (fieldC (fb ++ rb)) (fieldC (fb ++ rb)) ∧ True) ∧ (True ∧ True) ∧ True) ∧ false = true ∧ True) := by kernel_rfl
theorem light_20k {l : FL} (h : light20 l = true) : totL l ≤ 274877906944 := by
  have h1 := of_decide_eq_true h
  have h2 : totL l = sumL l + l.length := by
    clear h h1
    induction l with
    | nil => rfl
    | cons a r ih => simp only [totL, sumL, List.map_cons, List.sum_cons, List.length_cons] at ih ⊢; omega
  omega
theorem lit_300 {l : LL} (h : litT l = true) : l.length ≤ 20 ∧ ∀ s ∈ l, s.length ≤ 300 := by
  obtain ⟨h1, h2⟩ := of_decide_eq_true h
  refine ⟨h1, fun s hs => ?_⟩
  have : s.length ≤ sumT l := by
    clear h h1 h2
    induction l with
    | nil => cases hs
    | cons a r ih =>
      simp only [sumT, List.map_cons, List.sum_cons] at ih ⊢
      rcases List.mem_cons.1 hs with rfl | hs
      · omega
      · have := ih hs; omega
  omega
theorem strs_pre {l r : LL} (h1 : l.length ≤ 20) (h2 : ∀ s ∈ l, s.length ≤ 300) : strsOk (ts (l ++ r)) l.length :=
  (strs_at (r := r) (by omega) fun s hs => by have := h2 s hs; omega).1
theorem list_tot {l : FL} (hl : totL l ≤ 274877906944) (nm : List UInt8) : (listF l nm).length ≤ 1099511627776 := by
  have h1 := parts_len (allF l nm)
  have h2 := totF_all l nm
  have h3 := len_tot (allF l nm)
  unfold listF
  omega
theorem nmsC_take (ps : LL) : (nmsC ps).take (nmsL ps).length = nmsL ps := by unfold nmsC; rw [List.take_left]
theorem nmsC_len (ps : LL) : (nmsL ps).length ≤ (nmsC ps).length := by unfold nmsC; rw [List.length_append]; omega
theorem caNNN_vc (fT aT : List AV) (ho pa : List UInt8) (hT : utf8T fT aT) : Holds2 (vCaNNN fT aT powF ho pa) := by
  refine ⟨?_⟩
  have hf : ∀ σ, cellsP σ fT fT = True := fun σ => eq_true (cells_refl (by rw [hT.1]; exact flats_ints _ _))
  have ha : ∀ σ, cellsP σ aT aT = True := fun σ => eq_true (cells_refl (by rw [hT.2]; exact flats_pairs _ _ _))
  have hpp : ∀ σ, cellsP σ powF powF = True := fun σ => eq_true (cells_refl pow_flat)
  rw [vCaNNN_eq]
  try (simp only [gsCaN0, gsCaN1, gsCaN2, gsCaN3, gsCaN4])
  try (simp only [ic, cond_F, sameB_self, Nat.beq_refl])
  try (simp only [cond_P, leI_t, leI_f, ltI_t, ltI_f, eqI_t, eqI_f, and_t, not_t, not_f, dec_t, dec_f, Nat.zero_add, Nat.mul_one, List.drop_zero])
  try (simp only [cells_tsr, cells_fld, take_ts, ts_length, and_true, true_and, and_false, false_and, or_false, false_or, exists_false, Nat.le_refl, exists_const, false_implies, not_false_eq_true, true_implies, fldT_at, fldOk_at, getS_ts])
  try (simp only [hf, ha, hpp, hT, getF_fieldC, List.length_append, Nat.le_add_right, and_true, true_and, implies_true, List.take_left])
  try (simp only [decide_true, BEq.rfl, beq_self_eq_true, and_true, true_and, implies_true, Bool.true_eq_false, Bool.false_eq_true, false_implies, true_implies, reduceCtorEq, ne_eq, Nat.reduceEqDiff, not_false_eq_true, imp_self, nmsC_take])
  intro h100 h200
  have e1 : le40 ho = true := decide_eq_true (by omega)
  have e2 : le40 pa = true := decide_eq_true (by omega)
  simp only [e1, e2, and_true, true_and]
theorem caNAN_vc (fT aT : List AV) (ho pa : List UInt8) (fb rb : FL) (hT : utf8T fT aT) (hB : ∀ f ∈ fb, f.1.length ≤ 281474976710656 ∧ f.2.length ≤ 281474976710656) : Holds2 (vCaNAN fT aT powF ho pa fb rb) := by
  refine ⟨?_⟩
  have hf : ∀ σ, cellsP σ fT fT = True := fun σ => eq_true (cells_refl (by rw [hT.1]; exact flats_ints _ _))
  have ha : ∀ σ, cellsP σ aT aT = True := fun σ => eq_true (cells_refl (by rw [hT.2]; exact flats_pairs _ _ _))
  have hpp : ∀ σ, cellsP σ powF powF = True := fun σ => eq_true (cells_refl pow_flat)
  have mb : (∀ f : List UInt8 × List UInt8, List.Mem f fb → f.fst.length ≤ 281474976710656 ∧ f.snd.length ≤ 281474976710656) = True := eq_true hB
  rw [vCaNAN_eq]
  try (simp only [gsCaN0, gsCaN1, gsCaN2, gsCaN3, gsCaN4])
  try (simp only [ic, cond_F, sameB_self, Nat.beq_refl])
  try (simp only [cond_P, leI_t, leI_f, ltI_t, ltI_f, eqI_t, eqI_f, and_t, not_t, not_f, dec_t, dec_f, Nat.zero_add, Nat.mul_one, List.drop_zero])
  try (simp only [cells_tsr, cells_fld, take_ts, ts_length, and_true, true_and, and_false, false_and, or_false, false_or, exists_false, Nat.le_refl, exists_const, false_implies, not_false_eq_true, true_implies, fldT_at, fldOk_at, getS_ts])
  try (simp only [hf, ha, hpp, hT, getF_fieldC, List.length_append, Nat.le_add_right, and_true, true_and, implies_true, List.take_left, mb])
  intro gb
  have tb := light_20k gb
  have kb : (totL fb ≤ 274877906944) = True := eq_true tb
  try (simp only [decide_true, BEq.rfl, beq_self_eq_true, and_true, true_and, implies_true, Bool.true_eq_false, Bool.false_eq_true, false_implies, true_implies, reduceCtorEq, ne_eq, Nat.reduceEqDiff, not_false_eq_true, imp_self, nmsC_take, kb])
  intro h100 h200
  have e1 : le40 ho = true := decide_eq_true (by omega)
  have e2 : le40 pa = true := decide_eq_true (by omega)
  simp only [e1, e2, and_true, true_and]
theorem caANN_vc (fT aT : List AV) (ho pa : List UInt8) (fa ra : FL) (hT : utf8T fT aT) (hA : ∀ f ∈ fa, f.1.length ≤ 281474976710656 ∧ f.2.length ≤ 281474976710656) : Holds2 (vCaANN fT aT powF ho pa fa ra) := by
  refine ⟨?_⟩
  have hf : ∀ σ, cellsP σ fT fT = True := fun σ => eq_true (cells_refl (by rw [hT.1]; exact flats_ints _ _))
  have ha : ∀ σ, cellsP σ aT aT = True := fun σ => eq_true (cells_refl (by rw [hT.2]; exact flats_pairs _ _ _))
  have hpp : ∀ σ, cellsP σ powF powF = True := fun σ => eq_true (cells_refl pow_flat)
  have ma : (∀ f : List UInt8 × List UInt8, List.Mem f fa → f.fst.length ≤ 281474976710656 ∧ f.snd.length ≤ 281474976710656) = True := eq_true hA
  rw [vCaANN_eq]
  try (simp only [gsCaN0, gsCaN1, gsCaN2, gsCaN3, gsCaN4])
  try (simp only [ic, cond_F, sameB_self, Nat.beq_refl])
  try (simp only [cond_P, leI_t, leI_f, ltI_t, ltI_f, eqI_t, eqI_f, and_t, not_t, not_f, dec_t, dec_f, Nat.zero_add, Nat.mul_one, List.drop_zero])
  try (simp only [cells_tsr, cells_fld, take_ts, ts_length, and_true, true_and, and_false, false_and, or_false, false_or, exists_false, Nat.le_refl, exists_const, false_implies, not_false_eq_true, true_implies, fldT_at, fldOk_at, getS_ts])
  try (simp only [hf, ha, hpp, hT, getF_fieldC, List.length_append, Nat.le_add_right, and_true, true_and, implies_true, List.take_left, ma])
  intro ga
  have ta := light_20k ga
  have ka : (totL fa ≤ 274877906944) = True := eq_true ta
  try (simp only [decide_true, BEq.rfl, beq_self_eq_true, and_true, true_and, implies_true, Bool.true_eq_false, Bool.false_eq_true, false_implies, true_implies, reduceCtorEq, ne_eq, Nat.reduceEqDiff, not_false_eq_true, imp_self, nmsC_take, ka])
  intro h100 h200
  have e1 : le40 ho = true := decide_eq_true (by omega)
  have e2 : le40 pa = true := decide_eq_true (by omega)
  simp only [e1, e2, and_true, true_and]
  have hc := nmsC_len (listF fa [86, 97, 114, 121])
  have hb1 := nms_len (listF fa [86, 97, 114, 121])
  have hb2 := list_tot ta [86, 97, 114, 121]
  have hlen : (nmsL (listF fa [86, 97, 114, 121])).length ≤ 1099511627776 := by omega
  cases hst : starB (listF fa [86, 97, 114, 121]) <;> by_cases hem : listF fa [86, 97, 114, 121] = [] <;> simp [hst, hem, hlen, hc]
theorem caAAN_vc (fT aT : List AV) (ho pa : List UInt8) (fa ra : FL) (fb rb : FL) (hT : utf8T fT aT) (hA : ∀ f ∈ fa, f.1.length ≤ 281474976710656 ∧ f.2.length ≤ 281474976710656) (hB : ∀ f ∈ fb, f.1.length ≤ 281474976710656 ∧ f.2.length ≤ 281474976710656) : Holds2 (vCaAAN fT aT powF ho pa fa ra fb rb) := by
  refine ⟨?_⟩
  have hf : ∀ σ, cellsP σ fT fT = True := fun σ => eq_true (cells_refl (by rw [hT.1]; exact flats_ints _ _))
  have ha : ∀ σ, cellsP σ aT aT = True := fun σ => eq_true (cells_refl (by rw [hT.2]; exact flats_pairs _ _ _))
  have hpp : ∀ σ, cellsP σ powF powF = True := fun σ => eq_true (cells_refl pow_flat)
  have ma : (∀ f : List UInt8 × List UInt8, List.Mem f fa → f.fst.length ≤ 281474976710656 ∧ f.snd.length ≤ 281474976710656) = True := eq_true hA
  have mb : (∀ f : List UInt8 × List UInt8, List.Mem f fb → f.fst.length ≤ 281474976710656 ∧ f.snd.length ≤ 281474976710656) = True := eq_true hB
  rw [vCaAAN_eq]
  try (simp only [gsCaN0, gsCaN1, gsCaN2, gsCaN3, gsCaN4])
  try (simp only [ic, cond_F, sameB_self, Nat.beq_refl])
  try (simp only [cond_P, leI_t, leI_f, ltI_t, ltI_f, eqI_t, eqI_f, and_t, not_t, not_f, dec_t, dec_f, Nat.zero_add, Nat.mul_one, List.drop_zero])
  try (simp only [cells_tsr, cells_fld, take_ts, ts_length, and_true, true_and, and_false, false_and, or_false, false_or, exists_false, Nat.le_refl, exists_const, false_implies, not_false_eq_true, true_implies, fldT_at, fldOk_at, getS_ts])
  try (simp only [hf, ha, hpp, hT, getF_fieldC, List.length_append, Nat.le_add_right, and_true, true_and, implies_true, List.take_left, ma, mb])
  intro ga
  have ta := light_20k ga
  have ka : (totL fa ≤ 274877906944) = True := eq_true ta
  intro gb
  have tb := light_20k gb
  have kb : (totL fb ≤ 274877906944) = True := eq_true tb
  try (simp only [decide_true, BEq.rfl, beq_self_eq_true, and_true, true_and, implies_true, Bool.true_eq_false, Bool.false_eq_true, false_implies, true_implies, reduceCtorEq, ne_eq, Nat.reduceEqDiff, not_false_eq_true, imp_self, nmsC_take, ka, kb])
  intro h100 h200
  have e1 : le40 ho = true := decide_eq_true (by omega)
  have e2 : le40 pa = true := decide_eq_true (by omega)
  simp only [e1, e2, and_true, true_and]
  have hc := nmsC_len (listF fa [86, 97, 114, 121])
  have hb1 := nms_len (listF fa [86, 97, 114, 121])
  have hb2 := list_tot ta [86, 97, 114, 121]
  have hlen : (nmsL (listF fa [86, 97, 114, 121])).length ≤ 1099511627776 := by omega
  cases hst : starB (listF fa [86, 97, 114, 121]) <;> by_cases hem : listF fa [86, 97, 114, 121] = [] <;> simp [hst, hem, hlen, hc]

/- The law EtagLists, walked. -/
import Derived.Test.YtiobbjbodpkpjaaGreatDoorListsP
set_option linter.unusedSimpArgs false
set_option linter.unusedVariables false
namespace Go.Proofs.YtiobbjbodpkpjaaGreatDoor
open Go Go.Ve
set_option maxRecDepth 20000
def gLives (args : List AV) : Option (Bool × AV) := match args with | [] => some (true, .bool true) | _ => none
def gText (args : List AV) : Option (Bool × AV) := match args with | [.agg [.bool w, .str v]] => some (le48 v, .tuple [.str (bif valueF v then textF w v else []), .int .i64 (bif valueF v then 0 else 4)]) | _ => none
def gPick (args : List AV) : Option (Bool × AV) := match args with | [.int .i64 n, .int .i64 m] => some (Bool.and (inK .i64 n) (leI m 1000000), .int .i64 (pickF n m)) | _ => none
def strsOf : List AV → Option LL
  | [] => some []
  | .str s :: r => match strsOf r with | some l => some (s :: l) | none => none
  | _ => none
def tagsOk (ls : LL) : Bool := !decide (partsF ls = []) && (partsF ls).all fun p => eqI (pE p) 0
noncomputable def eTags : SpecE := fun args H =>
  match args with
  | [.sl b 0 n n' true] => match H[b]? with
    | some (.cells vs 0 false) => match strsOf vs with
      | some ls => match Nat.beq n ls.length, Nat.beq n' ls.length with
        | true, true => some (.need (decide (totF ls ≤ 274877906944)) (.br (decide (partsF ls = [[42]])) (.ok (.tuple [.nilsl, .bool true, .int .i64 0]) none)
            (.br (tagsOk ls) (.ok (.tuple [.sl H.length 0 (partsF ls).length (partsF ls).length false, .bool false, .int .i64 0]) (some (H ++ [.cells (tagC (tagsP (partsF ls))) eG false])))
              (.ok (.tuple [.nilsl, .bool false, .int .i64 4]) none))))
        | _, _ => none
      | none => none
    | _ => none
  | _ => none
noncomputable def T8 : List (Nat × SpecE) := [(4, flatE gLives), (6, flatE gText), (7, flatE (g1 le48 fun s => .bool (backsF s))), (5, flatE gPick), (8, eTags)]
noncomputable def faL (a b : TL) (f : FuncId) : Option FA := match Nat.beq f 9 with | true => some ⟨[(6, .quiet)], aSame a b, []⟩ | false => none
def cutN (cut : Int) (l : TL) : Nat := (pickF cut (l.length + 1)).toNat
noncomputable def V8 (l : TL) (c : Nat) : VE := ⟨Tryz.prog, tabS T8 noS, noO, faL (tagsP (partsF [aF l c l.length, bF l c l.length])) l⟩
noncomputable def aLists (l r : TL) (cut : Int) : Anns := [(8, [.mk Nat (fun i => [(7, .int .i64 i), (5, .str (aF l (cutN cut l) i)), (6, .str (bF l (cutN cut l) i))]) (fun _ => none) (fun i => i ≤ l.length ∧ ∀ t ∈ l.take i, goodT t) (fun i => l.length - i) none none (fun i => [(41, .agg [.bool (tg l i).1, .str (tg l i).2]), (57, .str (tg l i).2)]) (fun _ => [])])]

noncomputable def vLists  (l r : TL) (cut : Int) : Prop := vcF (V8 l (cutN cut l)) [] 300 (aLists l r cut) [] 3 [.sl 0 0 l.length (l.length + r.length) true, .int .i64 cut] [.cells (tagC (l ++ r)) 0 true] [⟨Unit, fun _ => .bool true, fun _ => [.cells (tagC (l ++ r)) 0 true], fun _ => True, gcB⟩]
noncomputable def vListsN  (l : TL) (c : Nat) (cut : Int) : Prop := vcF (V8 l c) [] 300 [] [] 3 [.nilsl, .int .i64 cut] [] (one (.bool true))
noncomputable def vListsZ  (l : TL) (c : Nat) (cut : Int) : Prop := vcF (V8 l c) [] 300 [] [] 3 [.slz, .int .i64 cut] [] (one (.bool true))
theorem vLists_eq  (l r : TL) (cut : Int) : vLists l r cut = (bif ltI (20 : Int) (ic (List.length l)) then ∃ (_x : Unit), True ∧ ((cellsP (fun (b : Nat) => [(0 : Nat)].getD b (1 : Nat)) (tagC (l ++ r)) (tagC (l ++ r)) ∧ True) ∧ True) ∧ true = true ∧ True else bif eqI (ic (List.length l)) (0 : Int) then ∃ (_x : Unit), True ∧ ((cellsP (fun (b : Nat) => [(0 : Nat)].getD b (1 : Nat)) (tagC (l ++ r)) (tagC (l ++ r)) ∧ True) ∧ True) ∧ true = true ∧ True else bif leI (ic (List.length l) + (1 : Int)) (9223372036854775807 : Int) then bif leI (-9223372036854775808 : Int) cut && leI cut (9223372036854775807 : Int) && leI (ic (List.length l) + (1 : Int)) (1000000 : Int) then (∃ (x : Nat), (x ≤ List.length l ∧ ∀ (t : Bool × List UInt8), t ∈ List.take x l → goodT t) ∧ ((cellsP (fun (b : Nat) => [(0 : Nat)].getD b (1 : Nat)) (tagC (l ++ r)) (tagC (l ++ r)) ∧ True) ∧ True) ∧ (0 : Int) = ic x ∧ [] = aF l (cutN cut l) x ∧ [] = bF l (cutN cut l) x ∧ True) ∧ ∀ (x : Nat), (x ≤ List.length l ∧ ∀ (t : Bool × List UInt8), t ∈ List.take x l → goodT t) → bif ltI (ic x) (ic (List.length l)) then bif ltI (ic x) (ic (List.length l)) then bif decide ((0 : Nat) + x * (2 : Nat) + (2 : Nat) ≤ (tagC (l ++ r)).length) then List.take (2 : Nat) (List.drop ((0 : Nat) + x * (2 : Nat)) (tagC (l ++ r))) = [AV.bool (tg l x).fst, AV.str (tg l x).snd] ∧ bif le48 (tg l x).snd then bif !eqI (bif valueF (tg l x).snd then (0 : Int) else (4 : Int)) (0 : Int) then ∃ (_x : Unit), True ∧ ((cellsP (fun (b : Nat) => [(0 : Nat)].getD b (1 : Nat)) (tagC (l ++ r)) (tagC (l ++ r)) ∧ True) ∧ True) ∧ true = true ∧ True else bif ltI (100 : Int) (ic (bif valueF (tg l x).snd then textF (tg l x).fst (tg l x).snd else []).length) then ∃ (_x : Unit), True ∧ ((cellsP (fun (b : Nat) => [(0 : Nat)].getD b (1 : Nat)) (tagC (l ++ r)) (tagC (l ++ r)) ∧ True) ∧ True) ∧ true = true ∧ True else bif ltI (ic x) (ic (List.length l)) then (tagC (l ++ r))[(0 : Nat) + x * (2 : Nat) + (1 : Nat)]? = some (AV.str (tg l x).snd) ∧ bif le48 (tg l x).snd then bif backsF (tg l x).snd then ∃ (_x : Unit), True ∧ ((cellsP (fun (b : Nat) => [(0 : Nat)].getD b (1 : Nat)) (tagC (l ++ r)) (tagC (l ++ r)) ∧ True) ∧ True) ∧ true = true ∧ True else bif ltI (ic x) (pickF cut (ic (List.length l) + (1 : Int))) then bif decide ((aF l (cutN cut l) x).length + (bif valueF (tg l x).snd then textF (tg l x).fst (tg l x).snd else []).length ≤ (9223372036854775807 : Nat)) then bif decide ((aF l (cutN cut l) x ++ bif valueF (tg l x).snd then textF (tg l x).fst (tg l x).snd else []).length + (3 : Nat) ≤ (9223372036854775807 : Nat)) then bif leI (ic x + (1 : Int)) (9223372036854775807 : Int) then ∃ (y : Nat), (y ≤ List.length l ∧ ∀ (t : Bool × List UInt8), t ∈ List.take y l → goodT t) ∧ List.length l - y < List.length l - x ∧ ((cellsP (fun (b : Nat) => [(0 : Nat)].getD b (1 : Nat)) (tagC (l ++ r)) (tagC (l ++ r)) ∧ True) ∧ True) ∧ ic x + (1 : Int) = ic y ∧ (aF l (cutN cut l) x ++ bif valueF (tg l x).snd then textF (tg l x).fst (tg l x).snd else []) ++ [(32 : UInt8), (44 : UInt8), (32 : UInt8)] = aF l (cutN cut l) y ∧ bF l (cutN cut l) x = bF l (cutN cut l) y ∧ True else False else False else False else bif decide ((bF l (cutN cut l) x).length + (1 : Nat) ≤ (9223372036854775807 : Nat)) then bif decide ((bF l (cutN cut l) x ++ [(44 : UInt8)]).length + (bif valueF (tg l x).snd then textF (tg l x).fst (tg l x).snd else []).length ≤ (9223372036854775807 : Nat)) then bif leI (ic x + (1 : Int)) (9223372036854775807 : Int) then ∃ (y : Nat), (y ≤ List.length l ∧ ∀ (t : Bool × List UInt8), t ∈ List.take y l → goodT t) ∧ List.length l - y < List.length l - x ∧ ((cellsP (fun (b : Nat) => [(0 : Nat)].getD b (1 : Nat)) (tagC (l ++ r)) (tagC (l ++ r)) ∧ True) ∧ True) ∧ ic x + (1 : Int) = ic y ∧ aF l (cutN cut l) x = aF l (cutN cut l) y ∧ (bF l (cutN cut l) x ++ [(44 : UInt8)] ++ bif valueF (tg l x).snd then textF (tg l x).fst (tg l x).snd else []) = bF l (cutN cut l) y ∧ True else False else False else False else False else False else False else False else False else bif decide (totF [aF l (cutN cut l) x, bF l (cutN cut l) x] ≤ (274877906944 : Nat)) then bif decide (partsF [aF l (cutN cut l) x, bF l (cutN cut l) x] = [[(42 : UInt8)]]) then bif decide (totF [aF l (cutN cut l) x, [(42 : UInt8)], bF l (cutN cut l) x] ≤ (274877906944 : Nat)) then bif decide (partsF [aF l (cutN cut l) x, [(42 : UInt8)], bF l (cutN cut l) x] = [[(42 : UInt8)]]) then ∃ (_x : Unit), True ∧ ((cellsP (fun (b : Nat) => [(0 : Nat)].getD b (3 : Nat)) (tagC (l ++ r)) (tagC (l ++ r)) ∧ True) ∧ True) ∧ false = true ∧ True else bif tagsOk [aF l (cutN cut l) x, [(42 : UInt8)], bF l (cutN cut l) x] then ∃ (_x : Unit), True ∧ ((cellsP (fun (b : Nat) => [(0 : Nat)].getD b (4 : Nat)) (tagC (l ++ r)) (tagC (l ++ r)) ∧ True) ∧ True) ∧ false = true ∧ True else ∃ (_x : Unit), True ∧ ((cellsP (fun (b : Nat) => [(0 : Nat)].getD b (3 : Nat)) (tagC (l ++ r)) (tagC (l ++ r)) ∧ True) ∧ True) ∧ false = true ∧ True else False else bif tagsOk [aF l (cutN cut l) x, bF l (cutN cut l) x] then bif decide (totF [aF l (cutN cut l) x, [(42 : UInt8)], bF l (cutN cut l) x] ≤ (274877906944 : Nat)) then bif decide (partsF [aF l (cutN cut l) x, [(42 : UInt8)], bF l (cutN cut l) x] = [[(42 : UInt8)]]) then bif !eqI (ic (partsF [aF l (cutN cut l) x, bF l (cutN cut l) x]).length) (ic (List.length l)) then ∃ (_x : Unit), True ∧ ((cellsP (fun (b : Nat) => [(0 : Nat)].getD b (4 : Nat)) (tagC (l ++ r)) (tagC (l ++ r)) ∧ True) ∧ True) ∧ false = true ∧ True else (∃ (x_1 : Nat), (x_1 ≤ (tagsP (partsF [aF l (cutN cut l) (List.length l), bF l (cutN cut l) (List.length l)])).length ∧ List.take x_1 (tagsP (partsF [aF l (cutN cut l) (List.length l), bF l (cutN cut l) (List.length l)])) = List.take x_1 l) ∧ ((cellsP (fun (b : Nat) => [(0 : Nat), (1 : Nat), (2 : Nat), (3 : Nat)].getD b (4 : Nat)) (tagC (l ++ r)) (tagC (l ++ r)) ∧ True) ∧ ((aF l (cutN cut l) x = aF l (cutN cut l) x ∧ bF l (cutN cut l) x = bF l (cutN cut l) x ∧ True) ∧ True) ∧ (cellsP (fun (b : Nat) => [(0 : Nat), (1 : Nat), (2 : Nat), (3 : Nat)].getD b (4 : Nat)) (tagC (tagsP (partsF [aF l (cutN cut l) x, bF l (cutN cut l) x]))) (tagC (tagsP (partsF [aF l (cutN cut l) x, bF l (cutN cut l) x]))) ∧ True) ∧ ((aF l (cutN cut l) x = aF l (cutN cut l) x ∧ [(42 : UInt8)] = [(42 : UInt8)] ∧ bF l (cutN cut l) x = bF l (cutN cut l) x ∧ True) ∧ True) ∧ True) ∧ (0 : Int) = ic x_1 ∧ True) ∧ ∀ (x_1 : Nat), x_1 ≤ (tagsP (partsF [aF l (cutN cut l) (List.length l), bF l (cutN cut l) (List.length l)])).length ∧ List.take x_1 (tagsP (partsF [aF l (cutN cut l) (List.length l), bF l (cutN cut l) (List.length l)])) = List.take x_1 l → bif ltI (ic x_1) (ic (partsF [aF l (cutN cut l) x, bF l (cutN cut l) x]).length) then bif ltI (ic x_1) (ic (partsF [aF l (cutN cut l) x, bF l (cutN cut l) x]).length) then bif decide ((0 : Nat) + x_1 * (2 : Nat) + (2 : Nat) ≤ (tagC (tagsP (partsF [aF l (cutN cut l) x, bF l (cutN cut l) x]))).length) then List.take (2 : Nat) (List.drop ((0 : Nat) + x_1 * (2 : Nat)) (tagC (tagsP (partsF [aF l (cutN cut l) x, bF l (cutN cut l) x])))) = [AV.bool (tg (tagsP (partsF [aF l (cutN cut l) (List.length l), bF l (cutN cut l) (List.length l)])) x_1).fst, AV.str (tg (tagsP (partsF [aF l (cutN cut l) (List.length l), bF l (cutN cut l) (List.length l)])) x_1).snd] ∧ bif ltI (ic x_1) (ic (List.length l)) then bif decide ((0 : Nat) + x_1 * (2 : Nat) + (2 : Nat) ≤ (tagC (l ++ r)).length) then List.take (2 : Nat) (List.drop ((0 : Nat) + x_1 * (2 : Nat)) (tagC (l ++ r))) = [AV.bool (tg l x_1).fst, AV.str (tg l x_1).snd] ∧ aeqX Tryz.prog BinOp.neq (29 : Nat) (Operand.tmp (20 : Nat)) (Operand.tmp (24 : Nat)) (AV.agg [AV.bool (tg (tagsP (partsF [aF l (cutN cut l) (List.length l), bF l (cutN cut l) (List.length l)])) x_1).fst, AV.str (tg (tagsP (partsF [aF l (cutN cut l) (List.length l), bF l (cutN cut l) (List.length l)])) x_1).snd]) (AV.agg [AV.bool (tg l x_1).fst, AV.str (tg l x_1).snd]) = some !eqT (tg (tagsP (partsF [aF l (cutN cut l) (List.length l), bF l (cutN cut l) (List.length l)])) x_1) (tg l x_1) ∧ bif !eqT (tg (tagsP (partsF [aF l (cutN cut l) (List.length l), bF l (cutN cut l) (List.length l)])) x_1) (tg l x_1) then ∃ (_x : Unit), True ∧ ((cellsP (fun (b : Nat) => [(0 : Nat)].getD b (4 : Nat)) (tagC (l ++ r)) (tagC (l ++ r)) ∧ True) ∧ True) ∧ false = true ∧ True else bif leI (ic x_1 + (1 : Int)) (9223372036854775807 : Int) then ∃ (y : Nat), (y ≤ (tagsP (partsF [aF l (cutN cut l) (List.length l), bF l (cutN cut l) (List.length l)])).length ∧ List.take y (tagsP (partsF [aF l (cutN cut l) (List.length l), bF l (cutN cut l) (List.length l)])) = List.take y l) ∧ (tagsP (partsF [aF l (cutN cut l) (List.length l), bF l (cutN cut l) (List.length l)])).length - y < (tagsP (partsF [aF l (cutN cut l) (List.length l), bF l (cutN cut l) (List.length l)])).length - x_1 ∧ ((cellsP (fun (b : Nat) => [(0 : Nat), (1 : Nat), (2 : Nat), (3 : Nat)].getD b (4 : Nat)) (tagC (l ++ r)) (tagC (l ++ r)) ∧ True) ∧ ((aF l (cutN cut l) x = aF l (cutN cut l) x ∧ bF l (cutN cut l) x = bF l (cutN cut l) x ∧ True) ∧ True) ∧ (cellsP (fun (b : Nat) => [(0 : Nat), (1 : Nat), (2 : Nat), (3 : Nat)].getD b (4 : Nat)) (tagC (tagsP (partsF [aF l (cutN cut l) x, bF l (cutN cut l) x]))) (tagC (tagsP (partsF [aF l (cutN cut l) x, bF l (cutN cut l) x]))) ∧ True) ∧ ((aF l (cutN cut l) x = aF l (cutN cut l) x ∧ [(42 : UInt8)] = [(42 : UInt8)] ∧ bF l (cutN cut l) x = bF l (cutN cut l) x ∧ True) ∧ True) ∧ True) ∧ ic x_1 + (1 : Int) = ic y ∧ True else False else False else False else False else False else ∃ (_x : Unit), True ∧ ((cellsP (fun (b : Nat) => [(0 : Nat)].getD b (4 : Nat)) (tagC (l ++ r)) (tagC (l ++ r)) ∧ True) ∧ True) ∧ false = true ∧ True else bif tagsOk [aF l (cutN cut l) x, [(42 : UInt8)], bF l (cutN cut l) x] then bif !eqI (ic (partsF [aF l (cutN cut l) x, bF l (cutN cut l) x]).length) (ic (List.length l)) then ∃ (_x : Unit), True ∧ ((cellsP (fun (b : Nat) => [(0 : Nat)].getD b (5 : Nat)) (tagC (l ++ r)) (tagC (l ++ r)) ∧ True) ∧ True) ∧ false = true ∧ True else (∃ (x_1 : Nat), (x_1 ≤ (tagsP (partsF [aF l (cutN cut l) (List.length l), bF l (cutN cut l) (List.length l)])).length ∧ List.take x_1 (tagsP (partsF [aF l (cutN cut l) (List.length l), bF l (cutN cut l) (List.length l)])) = List.take x_1 l) ∧ ((cellsP (fun (b : Nat) => [(0 : Nat), (1 : Nat), (2 : Nat), (3 : Nat), (4 : Nat)].getD b (5 : Nat)) (tagC (l ++ r)) (tagC (l ++ r)) ∧ True) ∧ ((aF l (cutN cut l) x = aF l (cutN cut l) x ∧ bF l (cutN cut l) x = bF l (cutN cut l) x ∧ True) ∧ True) ∧ (cellsP (fun (b : Nat) => [(0 : Nat), (1 : Nat), (2 : Nat), (3 : Nat), (4 : Nat)].getD b (5 : Nat)) (tagC (tagsP (partsF [aF l (cutN cut l) x, bF l (cutN cut l) x]))) (tagC (tagsP (partsF [aF l (cutN cut l) x, bF l (cutN cut l) x]))) ∧ True) ∧ ((aF l (cutN cut l) x = aF l (cutN cut l) x ∧ [(42 : UInt8)] = [(42 : UInt8)] ∧ bF l (cutN cut l) x = bF l (cutN cut l) x ∧ True) ∧ True) ∧ (cellsP (fun (b : Nat) => [(0 : Nat), (1 : Nat), (2 : Nat), (3 : Nat), (4 : Nat)].getD b (5 : Nat)) (tagC (tagsP (partsF [aF l (cutN cut l) x, [(42 : UInt8)], bF l (cutN cut l) x]))) (tagC (tagsP (partsF [aF l (cutN cut l) x, [(42 : UInt8)], bF l (cutN cut l) x]))) ∧ True) ∧ True) ∧ (0 : Int) = ic x_1 ∧ True) ∧ ∀ (x_1 : Nat), x_1 ≤ (tagsP (partsF [aF l (cutN cut l) (List.length l), bF l (cutN cut l) (List.length l)])).length ∧ List.take x_1 (tagsP (partsF [aF l (cutN cut l) (List.length l), bF l (cutN cut l) (List.length l)])) = List.take x_1 l → bif ltI (ic x_1) (ic (partsF [aF l (cutN cut l) x, bF l (cutN cut l) x]).length) then bif ltI (ic x_1) (ic (partsF [aF l (cutN cut l) x, bF l (cutN cut l) x]).length) then bif decide ((0 : Nat) + x_1 * (2 : Nat) + (2 : Nat) ≤ (tagC (tagsP (partsF [aF l (cutN cut l) x, bF l (cutN cut l) x]))).length) then List.take (2 : Nat) (List.drop ((0 : Nat) + x_1 * (2 : Nat)) (tagC (tagsP (partsF [aF l (cutN cut l) x, bF l (cutN cut l) x])))) = [AV.bool (tg (tagsP (partsF [aF l (cutN cut l) (List.length l), bF l (cutN cut l) (List.length l)])) x_1).fst, AV.str (tg (tagsP (partsF [aF l (cutN cut l) (List.length l), bF l (cutN cut l) (List.length l)])) x_1).snd] ∧ bif ltI (ic x_1) (ic (List.length l)) then bif decide ((0 : Nat) + x_1 * (2 : Nat) + (2 : Nat) ≤ (tagC (l ++ r)).length) then List.take (2 : Nat) (List.drop ((0 : Nat) + x_1 * (2 : Nat)) (tagC (l ++ r))) = [AV.bool (tg l x_1).fst, AV.str (tg l x_1).snd] ∧ aeqX Tryz.prog BinOp.neq (29 : Nat) (Operand.tmp (20 : Nat)) (Operand.tmp (24 : Nat)) (AV.agg [AV.bool (tg (tagsP (partsF [aF l (cutN cut l) (List.length l), bF l (cutN cut l) (List.length l)])) x_1).fst, AV.str (tg (tagsP (partsF [aF l (cutN cut l) (List.length l), bF l (cutN cut l) (List.length l)])) x_1).snd]) (AV.agg [AV.bool (tg l x_1).fst, AV.str (tg l x_1).snd]) = some !eqT (tg (tagsP (partsF [aF l (cutN cut l) (List.length l), bF l (cutN cut l) (List.length l)])) x_1) (tg l x_1) ∧ bif !eqT (tg (tagsP (partsF [aF l (cutN cut l) (List.length l), bF l (cutN cut l) (List.length l)])) x_1) (tg l x_1) then ∃ (_x : Unit), True ∧ ((cellsP (fun (b : Nat) => [(0 : Nat)].getD b (5 : Nat)) (tagC (l ++ r)) (tagC (l ++ r)) ∧ True) ∧ True) ∧ false = true ∧ True else bif leI (ic x_1 + (1 : Int)) (9223372036854775807 : Int) then ∃ (y : Nat), (y ≤ (tagsP (partsF [aF l (cutN cut l) (List.length l), bF l (cutN cut l) (List.length l)])).length ∧ List.take y (tagsP (partsF [aF l (cutN cut l) (List.length l), bF l (cutN cut l) (List.length l)])) = List.take y l) ∧ (tagsP (partsF [aF l (cutN cut l) (List.length l), bF l (cutN cut l) (List.length l)])).length - y < (tagsP (partsF [aF l (cutN cut l) (List.length l), bF l (cutN cut l) (List.length l)])).length - x_1 ∧ ((cellsP (fun (b : Nat) => [(0 : Nat), (1 : Nat), (2 : Nat), (3 : Nat), (4 : Nat)].getD b (5 : Nat)) (tagC (l ++ r)) (tagC (l ++ r)) ∧ True) ∧ ((aF l (cutN cut l) x = aF l (cutN cut l) x ∧ bF l (cutN cut l) x = bF l (cutN cut l) x ∧ True) ∧ True) ∧ (cellsP (fun (b : Nat) => [(0 : Nat), (1 : Nat), (2 : Nat), (3 : Nat), (4 : Nat)].getD b (5 : Nat)) (tagC (tagsP (partsF [aF l (cutN cut l) x, bF l (cutN cut l) x]))) (tagC (tagsP (partsF [aF l (cutN cut l) x, bF l (cutN cut l) x]))) ∧ True) ∧ ((aF l (cutN cut l) x = aF l (cutN cut l) x ∧ [(42 : UInt8)] = [(42 : UInt8)] ∧ bF l (cutN cut l) x = bF l (cutN cut l) x ∧ True) ∧ True) ∧ (cellsP (fun (b : Nat) => [(0 : Nat), (1 : Nat), (2 : Nat), (3 : Nat), (4 : Nat)].getD b (5 : Nat)) (tagC (tagsP (partsF [aF l (cutN cut l) x, [(42 : UInt8)], bF l (cutN cut l) x]))) (tagC (tagsP (partsF [aF l (cutN cut l) x, [(42 : UInt8)], bF l (cutN cut l) x]))) ∧ True) ∧ True) ∧ ic x_1 + (1 : Int) = ic y ∧ True else False else False else False else False else False else ∃ (_x : Unit), True ∧ ((cellsP (fun (b : Nat) => [(0 : Nat)].getD b (5 : Nat)) (tagC (l ++ r)) (tagC (l ++ r)) ∧ True) ∧ True) ∧ false = true ∧ True else bif !eqI (ic (partsF [aF l (cutN cut l) x, bF l (cutN cut l) x]).length) (ic (List.length l)) then ∃ (_x : Unit), True ∧ ((cellsP (fun (b : Nat) => [(0 : Nat)].getD b (4 : Nat)) (tagC (l ++ r)) (tagC (l ++ r)) ∧ True) ∧ True) ∧ false = true ∧ True else (∃ (x_1 : Nat), (x_1 ≤ (tagsP (partsF [aF l (cutN cut l) (List.length l), bF l (cutN cut l) (List.length l)])).length ∧ List.take x_1 (tagsP (partsF [aF l (cutN cut l) (List.length l), bF l (cutN cut l) (List.length l)])) = List.take x_1 l) ∧ ((cellsP (fun (b : Nat) => [(0 : Nat), (1 : Nat), (2 : Nat), (3 : Nat)].getD b (4 : Nat)) (tagC (l ++ r)) (tagC (l ++ r)) ∧ True) ∧ ((aF l (cutN cut l) x = aF l (cutN cut l) x ∧ bF l (cutN cut l) x = bF l (cutN cut l) x ∧ True) ∧ True) ∧ (cellsP (fun (b : Nat) => [(0 : Nat), (1 : Nat), (2 : Nat), (3 : Nat)].getD b (4 : Nat)) (tagC (tagsP (partsF [aF l (cutN cut l) x, bF l (cutN cut l) x]))) (tagC (tagsP (partsF [aF l (cutN cut l) x, bF l (cutN cut l) x]))) ∧ True) ∧ ((aF l (cutN cut l) x = aF l (cutN cut l) x ∧ [(42 : UInt8)] = [(42 : UInt8)] ∧ bF l (cutN cut l) x = bF l (cutN cut l) x ∧ True) ∧ True) ∧ True) ∧ (0 : Int) = ic x_1 ∧ True) ∧ ∀ (x_1 : Nat), x_1 ≤ (tagsP (partsF [aF l (cutN cut l) (List.length l), bF l (cutN cut l) (List.length l)])).length ∧ List.take x_1 (tagsP (partsF [aF l (cutN cut l) (List.length l), bF l (cutN cut l) (List.length l)])) = List.take x_1 l → bif ltI (ic x_1) (ic (partsF [aF l (cutN cut l) x, bF l (cutN cut l) x]).length) then bif ltI (ic x_1) (ic (partsF [aF l (cutN cut l) x, bF l (cutN cut l) x]).length) then bif decide ((0 : Nat) + x_1 * (2 : Nat) + (2 : Nat) ≤ (tagC (tagsP (partsF [aF l (cutN cut l) x, bF l (cutN cut l) x]))).length) then List.take (2 : Nat) (List.drop ((0 : Nat) + x_1 * (2 : Nat)) (tagC (tagsP (partsF [aF l (cutN cut l) x, bF l (cutN cut l) x])))) = [AV.bool (tg (tagsP (partsF [aF l (cutN cut l) (List.length l), bF l (cutN cut l) (List.length l)])) x_1).fst, AV.str (tg (tagsP (partsF [aF l (cutN cut l) (List.length l), bF l (cutN cut l) (List.length l)])) x_1).snd] ∧ bif ltI (ic x_1) (ic (List.length l)) then bif decide ((0 : Nat) + x_1 * (2 : Nat) + (2 : Nat) ≤ (tagC (l ++ r)).length) then List.take (2 : Nat) (List.drop ((0 : Nat) + x_1 * (2 : Nat)) (tagC (l ++ r))) = [AV.bool (tg l x_1).fst, AV.str (tg l x_1).snd] ∧ aeqX Tryz.prog BinOp.neq (29 : Nat) (Operand.tmp (20 : Nat)) (Operand.tmp (24 : Nat)) (AV.agg [AV.bool (tg (tagsP (partsF [aF l (cutN cut l) (List.length l), bF l (cutN cut l) (List.length l)])) x_1).fst, AV.str (tg (tagsP (partsF [aF l (cutN cut l) (List.length l), bF l (cutN cut l) (List.length l)])) x_1).snd]) (AV.agg [AV.bool (tg l x_1).fst, AV.str (tg l x_1).snd]) = some !eqT (tg (tagsP (partsF [aF l (cutN cut l) (List.length l), bF l (cutN cut l) (List.length l)])) x_1) (tg l x_1) ∧ bif !eqT (tg (tagsP (partsF [aF l (cutN cut l) (List.length l), bF l (cutN cut l) (List.length l)])) x_1) (tg l x_1) then ∃ (_x : Unit), True ∧ ((cellsP (fun (b : Nat) => [(0 : Nat)].getD b (4 : Nat)) (tagC (l ++ r)) (tagC (l ++ r)) ∧ True) ∧ True) ∧ false = true ∧ True else bif leI (ic x_1 + (1 : Int)) (9223372036854775807 : Int) then ∃ (y : Nat), (y ≤ (tagsP (partsF [aF l (cutN cut l) (List.length l), bF l (cutN cut l) (List.length l)])).length ∧ List.take y (tagsP (partsF [aF l (cutN cut l) (List.length l), bF l (cutN cut l) (List.length l)])) = List.take y l) ∧ (tagsP (partsF [aF l (cutN cut l) (List.length l), bF l (cutN cut l) (List.length l)])).length - y < (tagsP (partsF [aF l (cutN cut l) (List.length l), bF l (cutN cut l) (List.length l)])).length - x_1 ∧ ((cellsP (fun (b : Nat) => [(0 : Nat), (1 : Nat), (2 : Nat), (3 : Nat)].getD b (4 : Nat)) (tagC (l ++ r)) (tagC (l ++ r)) ∧ True) ∧ ((aF l (cutN cut l) x = aF l (cutN cut l) x ∧ bF l (cutN cut l) x = bF l (cutN cut l) x ∧ True) ∧ True) ∧ (cellsP (fun (b : Nat) => [(0 : Nat), (1 : Nat), (2 : Nat), (3 : Nat)].getD b (4 : Nat)) (tagC (tagsP (partsF [aF l (cutN cut l) x, bF l (cutN cut l) x]))) (tagC (tagsP (partsF [aF l (cutN cut l) x, bF l (cutN cut l) x]))) ∧ True) ∧ ((aF l (cutN cut l) x = aF l (cutN cut l) x ∧ [(42 : UInt8)] = [(42 : UInt8)] ∧ bF l (cutN cut l) x = bF l (cutN cut l) x ∧ True) ∧ True) ∧ True) ∧ ic x_1 + (1 : Int) = ic y ∧ True else False else False else False else False else False else ∃ (_x : Unit), True ∧ ((cellsP (fun (b : Nat) => [(0 : Nat)].getD b (4 : Nat)) (tagC (l ++ r)) (tagC (l ++ r)) ∧ True) ∧ True) ∧ true = true ∧ True else False else bif decide (totF [aF l (cutN cut l) x, [(42 : UInt8)], bF l (cutN cut l) x] ≤ (274877906944 : Nat)) then bif decide (partsF [aF l (cutN cut l) x, [(42 : UInt8)], bF l (cutN cut l) x] = [[(42 : UInt8)]]) then ∃ (_x : Unit), True ∧ ((cellsP (fun (b : Nat) => [(0 : Nat)].getD b (3 : Nat)) (tagC (l ++ r)) (tagC (l ++ r)) ∧ True) ∧ True) ∧ false = true ∧ True else bif tagsOk [aF l (cutN cut l) x, [(42 : UInt8)], bF l (cutN cut l) x] then ∃ (_x : Unit), True ∧ ((cellsP (fun (b : Nat) => [(0 : Nat)].getD b (4 : Nat)) (tagC (l ++ r)) (tagC (l ++ r)) ∧ True) ∧ True) ∧ false = true ∧ True else ∃ (_x : Unit), True ∧ ((cellsP (fun (b : Nat) => [(0 : Nat)].getD b (3 : Nat)) (tagC (l ++ r)) (tagC (l ++ r)) ∧ True) ∧ True) ∧ false = true ∧ True else False else False else False else False) := by kernel_rfl
theorem vListsN_eq  (l : TL) (c : Nat) (cut : Int) : vListsN l c cut = (∃ (_x : Unit), True ∧ True ∧ true = true ∧ True) := by kernel_rfl
theorem vListsZ_eq  (l : TL) (c : Nat) (cut : Int) : vListsZ l c cut = (∃ (_x : Unit), True ∧ True ∧ true = true ∧ True) := by kernel_rfl
theorem tg_mem {l : TL} {i : Nat} (h : i < l.length) : tg l i ∈ l := by
  rw [tg, List.getD_eq_getElem?_getD, List.getElem?_eq_getElem h]
  exact List.getElem_mem h
theorem tagsOk_ab {l : TL} {c n : Nat} (hn : l.length ≤ n) (h0 : l ≠ []) (hg : ∀ t ∈ l, goodT t) : tagsOk [aF l c n, bF l c n] = true := by
  unfold tagsOk
  rw [parts_ab hn hg, Bool.and_eq_true]
  refine ⟨by simpa using h0, ?_⟩
  rw [List.all_eq_true]
  intro p hp
  obtain ⟨t, ht, rfl⟩ := List.mem_map.1 hp
  rw [pE_txt (hg t ht).1]; rfl
theorem tagsOk_asb {l : TL} {c n : Nat} (hn : l.length ≤ n) (hg : ∀ t ∈ l, goodT t) : tagsOk [aF l c n, [42], bF l c n] = false := by
  unfold tagsOk
  rw [parts_asb hn hg, Bool.and_eq_false_iff]
  right
  rw [List.all_eq_false]
  exact ⟨[42], by simp, by rw [pE_star]; decide⟩
theorem star_ab {l : TL} {c n : Nat} (hn : l.length ≤ n) (hg : ∀ t ∈ l, goodT t) : ¬ partsF [aF l c n, bF l c n] = [[42]] := by
  rw [parts_ab hn hg]
  intro h
  match l, h with
  | [], h => simp at h
  | [t], h => simp at h; exact txt_star t h
  | _ :: _ :: _, h => simp at h
theorem star_asb {l : TL} {c n : Nat} (hn : l.length ≤ n) (h0 : l ≠ []) (hg : ∀ t ∈ l, goodT t) : ¬ partsF [aF l c n, [42], bF l c n] = [[42]] := by
  rw [parts_asb hn hg]
  intro h
  have := congrArg List.length h
  simp only [List.length_append, List.length_map, List.length_cons, List.length_nil, List.length_take, List.length_drop] at this
  exact h0 (List.length_eq_zero_iff.1 (by omega))
theorem flat_len {f : Bool × List UInt8 → List UInt8} {k : Nat} : ∀ {l : TL}, (∀ t ∈ l, (f t).length ≤ k) → (l.flatMap f).length ≤ k * l.length
  | [], _ => Nat.zero_le _
  | t :: l, h => by
    have h1 := flat_len (f := f) (k := k) (l := l) fun x hx => h x (by simp [hx])
    have h2 := h t (by simp)
    rw [List.flatMap_cons, List.length_append, List.length_cons, Nat.mul_succ]
    omega
theorem aF_len {l : TL} {c n : Nat} (hl : l.length ≤ 20) (hg : ∀ t ∈ l.take n, goodT t) : (aF l c n).length ≤ 2060 := by
  have h1 := flat_len (f := fun t => txt t ++ [32, 44, 32]) (k := 103) (l := l.take (min n c)) fun t ht => by
    have := (hg t (List.mem_of_mem_take (by rw [List.take_take, Nat.min_comm]; exact ht))).2.1
    simp; omega
  have h2 : (l.take (min n c)).length ≤ 20 := by rw [List.length_take]; omega
  have : 103 * (l.take (min n c)).length ≤ 103 * 20 := Nat.mul_le_mul_left _ h2
  exact Nat.le_trans h1 this
theorem bF_len {l : TL} {c n : Nat} (hl : l.length ≤ 20) (hg : ∀ t ∈ l.take n, goodT t) : (bF l c n).length ≤ 2060 := by
  have h1 := flat_len (f := fun t => [44] ++ txt t) (k := 103) (l := (l.take n).drop c) fun t ht => by
    have := (hg t (List.mem_of_mem_drop ht)).2.1
    simp; omega
  have h2 : ((l.take n).drop c).length ≤ 20 := by rw [List.length_drop, List.length_take]; omega
  have : 103 * ((l.take n).drop c).length ≤ 103 * 20 := Nat.mul_le_mul_left _ h2
  exact Nat.le_trans h1 this
theorem good_step {l : TL} {i : Nat} (h : i < l.length) (hg : ∀ t ∈ l.take i, goodT t) (hv : goodT (tg l i)) : ∀ t ∈ l.take (i + 1), goodT t := by
  rw [tg_take h]
  intro t ht
  rcases List.mem_append.1 ht with ht | ht
  · exact hg t ht
  · rw [List.mem_singleton.1 ht]; exact hv
theorem aF_lt {l : TL} {c i : Nat} (h : i < l.length) (hc : i < c) : aF l c (i + 1) = aF l c i ++ txt (tg l i) ++ [32, 44, 32] := by
  unfold aF
  rw [show min (i + 1) c = i + 1 by omega, show min i c = i by omega, tg_take h]
  simp [aA]
theorem aF_ge {l : TL} {c i : Nat} (hc : c ≤ i) : aF l c (i + 1) = aF l c i := by
  unfold aF
  rw [show min (i + 1) c = c by omega, show min i c = c by omega]
theorem bF_lt {l : TL} {c i : Nat} (hc : i < c) : bF l c (i + 1) = bF l c i := by
  unfold bF
  rw [List.drop_of_length_le (by rw [List.length_take]; omega), List.drop_of_length_le (by rw [List.length_take]; omega)]
theorem bF_ge {l : TL} {c i : Nat} (h : i < l.length) (hc : c ≤ i) : bF l c (i + 1) = bF l c i ++ [44] ++ txt (tg l i) := by
  unfold bF
  rw [tg_take h, List.drop_append_of_le_length (by rw [List.length_take]; omega)]
  simp [bA]
theorem lists_vc (l r : TL) (cut : Int) (hcut : inK .i64 cut = true) (hlen : ∀ t ∈ l, t.2.length ≤ 281474976710656) : vLists l r cut := by
  rw [vLists_eq]
  simp only [ic, cond_F]
  simp only [cond_P, leI_t, leI_f, ltI_t, ltI_f, eqI_t, eqI_f, and_t, not_t, not_f, dec_t, dec_f, Nat.zero_add, Nat.mul_one, List.drop_zero]
  simp only [true_and, and_true, exists_const, cells_tag]
  have hcut' := hcut
  simp only [inK, leI_eq, Bool.and_eq_true, decide_eq_true_eq] at hcut'
  refine ⟨fun _ => trivial, fun h20 => ⟨fun _ => trivial, fun h0 => ⟨by omega, ⟨hcut', by omega⟩, ⟨0, ⟨Nat.zero_le _, by simp⟩, rfl, by simp [aF, aA], by simp [bF, bA]⟩, fun x hx => ⟨fun hl => ?_, fun hl => ?_⟩⟩⟩⟩
  · have hxl : x < l.length := by omega
    have hle : le48 (tg l x).2 = true := decide_eq_true (by have := hlen _ (tg_mem hxl); omega)
    have hdr : List.take 2 (List.drop (x * 2) (tagC (l ++ r))) = [AV.bool (tg l x).fst, AV.str (tg l x).snd] := by
      rw [tagC_drop _ _ (by rw [List.length_append]; omega), tg_app _ _ _ hxl]
    have hget : (tagC (l ++ r))[x * 2 + 1]? = some (AV.str (tg l x).snd) := by
      have := congrArg (fun q => q[1]?) hdr
      simp only [List.getElem?_take, List.getElem?_drop] at this
      simpa using this
    have hla := aF_len (c := cutN cut l) (n := x) (l := l) (by omega) hx.2
    have hlb := bF_len (c := cutN cut l) (n := x) (l := l) (by omega) hx.2
    refine ⟨hl, by rw [tagC_length, List.length_append]; omega, hdr, hle, fun _ => trivial, fun hE => ?_⟩
    have hv : valueF (tg l x).2 = true := by
      cases hv : valueF (tg l x).2 with
      | true => rfl
      | false => rw [hv] at hE; cases hE
    have e : (bif valueF (tg l x).snd then textF (tg l x).fst (tg l x).snd else []) = txt (tg l x) := by rw [hv]; rfl
    simp only [e]
    refine ⟨fun _ => trivial, fun hL => ⟨hl, hget, hle, fun _ => trivial, fun hB => ?_⟩⟩
    have hgood := good_step hxl hx.2 ⟨hv, by omega, hB⟩
    refine ⟨fun hc => ?_, fun hc => ?_⟩
    · have hc' : x < cutN cut l := by unfold cutN; omega
      refine ⟨by omega, by rw [List.length_append]; omega, by omega, x + 1, ⟨by omega, hgood⟩, by omega, rfl, (aF_lt hxl hc').symm, (bF_lt hc').symm⟩
    · have hc' : cutN cut l ≤ x := by unfold cutN; omega
      refine ⟨by omega, by rw [List.length_append]; simp; omega, by omega, x + 1, ⟨by omega, hgood⟩, by omega, rfl, (aF_ge hc').symm, (bF_ge hxl hc').symm⟩
  · obtain rfl : x = l.length := by omega
    have hg : ∀ t ∈ l, goodT t := by
      have := hx.2
      rwa [List.take_length] at this
    have hne : l ≠ [] := by rintro rfl; simp at h0
    have hla := aF_len (c := cutN cut l) (n := l.length) (l := l) (by omega) hx.2
    have hlb := bF_len (c := cutN cut l) (n := l.length) (l := l) (by omega) hx.2
    have e1 := parts_ab (c := cutN cut l) (Nat.le_refl l.length) hg
    have e2 := tagsOk_ab (c := cutN cut l) (Nat.le_refl l.length) hne hg
    have e3 := tagsOk_asb (c := cutN cut l) (Nat.le_refl l.length) hg
    have e4 := star_asb (c := cutN cut l) (Nat.le_refl l.length) hne hg
    have e5 := star_ab (c := cutN cut l) (Nat.le_refl l.length) hg
    have e6 := tagsP_txt hg
    have t1 : totF [aF l (cutN cut l) l.length, bF l (cutN cut l) l.length] ≤ 274877906944 := by
      simp only [totF, List.map_cons, List.map_nil, List.sum_cons, List.sum_nil]; omega
    have t2 : totF [aF l (cutN cut l) l.length, [42], bF l (cutN cut l) l.length] ≤ 274877906944 := by
      simp only [totF, List.map_cons, List.map_nil, List.sum_cons, List.sum_nil, List.length_cons, List.length_nil]; omega
    refine ⟨t1, fun h => absurd h e5, fun _ => ⟨fun _ => ⟨t2, fun h => absurd h e4, fun _ => ?_⟩, fun h => by rw [e2] at h; cases h⟩⟩
    simp only [e1, e2, e3, e6, List.length_map, Bool.false_eq_true, false_implies, true_implies, true_and, and_true, cells_tag, not_true, ne_eq]
    have eT : ∀ i, eqT (tg l i) (tg l i) = true := fun i => (eqT_iff _ _).2 rfl
    refine ⟨⟨0, Nat.zero_le _, rfl⟩, fun i hi => ⟨fun h => ⟨h, by rw [tagC_length]; omega, tagC_drop _ _ (by omega), h, by rw [tagC_length, List.length_append]; omega, ?_, aeqX_tagN _ _ _ _, (fun h => by rw [eT] at h; cases h), fun _ => ⟨by omega, i + 1, by omega, by omega, rfl⟩⟩, fun _ => trivial⟩⟩
    rw [tagC_drop _ _ (by rw [List.length_append]; omega), tg_app _ _ _ (by omega)]
theorem listsN_vc (l : TL) (c : Nat) (cut : Int) : vListsN l c cut := by
  rw [vListsN_eq]
  simp only [ic, cond_F]
  simp
theorem listsZ_vc (l : TL) (c : Nat) (cut : Int) : vListsZ l c cut := by
  rw [vListsZ_eq]
  simp only [ic, cond_F]
  simp
end Go.Proofs.YtiobbjbodpkpjaaGreatDoor

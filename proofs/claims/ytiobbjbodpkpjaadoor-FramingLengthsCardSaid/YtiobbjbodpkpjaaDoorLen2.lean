/- The law FramingLengths, walked. -/
import Derived.Test.YtiobbjbodpkpjaaDoorLen
import Derived.Test.YtiobbjbodpkpjaaDoorLivL
set_option linter.unusedSimpArgs false
set_option linter.unusedVariables false
namespace Go.Proofs.YtiobbjbodpkpjaaDoor
open Go Go.Ve
set_option maxRecDepth 20000
def ePick : SpecE := fun args _ =>
  match args with
  | [.int .i64 n, .int .i64 m] => some (.needP (inK .i64 m = true) (.all Int (fun x => pickN n m = x) fun x => .ok (.int .i64 x) none))
  | _ => none
noncomputable def TLe : List (Nat × SpecE) := [(6, eLv), (16, ePick), (17, flatE gDigits), (18, eLength)]
noncomputable def faLe (f : FuncId) : Option FA := match Nat.beq f 11 with
  | true => some ⟨[], [], []⟩
  | false => none
noncomputable def VLe : VE := ⟨Tryd.prog, tabS TLe noS, noO, faLe⟩
noncomputable def aLenL (te : Nat) (d e : List UInt8) (a T : Nat) : Anns := [(10, [
  .mk Unit (fun _ => [(13, .int .i64 0), (9, .str []), (10, .str []), (11, .nilsl), (12, .nilsl)]) (fun _ => some [gErr te]) (fun _ => True) (fun _ => T + 1) gcB gcB (fun _ => []) (fun _ => []),
  .mk (Nat × Nat) (fun x => [(13, .int .i64 ((x.1 + 1 : Nat) : Int)), (9, .str (txtI d x.2)), (10, .str (badI (pickX d e a) x.2)), (11, .sl 1 0 x.2 x.2 false), (12, .sl 2 0 x.2 x.2 false)]) (fun x => some [gErr te, .cells (fieldC (fL d x.2)) eF false, .cells (fieldC (fM d e a x.2)) eF false]) (fun x => x.2 = x.1 + 1 ∧ x.2 ≤ T) (fun x => T - x.2) gcB gcB (fun _ => [(79, .nilsl), (85, .nilsl)]) (fun _ => [])])]

noncomputable def vLen  (te : Nat) (n o times at' : Int) : Prop := vcF VLe [] 300 (aLenL te (digN n.toNat) (digN o.toNat) (pickN at' (1 + pickN times 5)).toNat (1 + pickN times 5).toNat) [] 5 [.int .i64 n, .int .i64 times, .int .i64 o, .int .i64 at'] [gErr te] [⟨Unit, fun _ => .bool true, fun _ => [gErr te], fun _ => True, gcB⟩]
theorem vLen_eq  (te : Nat) (n o times at' : Int) : vLen te n o times at' = (bif ltI n (0 : Int) then ∃ (_x : Unit), True ∧ (((1 : Nat) = (1 : Nat) ∧ (te = te ∧ True) ∧ True) ∧ True) ∧ true = true ∧ True else bif ltI (9007199254740991 : Int) n then ∃ (_x : Unit), True ∧ (((1 : Nat) = (1 : Nat) ∧ (te = te ∧ True) ∧ True) ∧ True) ∧ true = true ∧ True else bif ltI o (0 : Int) then ∃ (_x : Unit), True ∧ (((1 : Nat) = (1 : Nat) ∧ (te = te ∧ True) ∧ True) ∧ True) ∧ true = true ∧ True else bif ltI (9007199254740991 : Int) o then ∃ (_x : Unit), True ∧ (((1 : Nat) = (1 : Nat) ∧ (te = te ∧ True) ∧ True) ∧ True) ∧ true = true ∧ True else true = true ∧ ∀ (x : Int), pickN times (5 : Int) = x → bif inK IntKind.i64 ((1 : Int) + x) then inK IntKind.i64 ((1 : Int) + x) = true ∧ ∀ (x_1 : Int), pickN at' ((1 : Int) + x) = x_1 → ((∃ (_x : Unit), True ∧ (((1 : Nat) = (1 : Nat) ∧ (te = te ∧ True) ∧ True) ∧ True) ∧ (0 : Int) = (0 : Int) ∧ ([] : List UInt8) = [] ∧ ([] : List UInt8) = [] ∧ True ∧ True ∧ True) ∨ ∃ (x : Nat × Nat), (x.snd = x.fst + (1 : Nat) ∧ x.snd ≤ ((1 : Int) + pickN times (5 : Int)).toNat) ∧ False) ∧ (∀ (x_2 : Unit), True → bif ltI (0 : Int) ((1 : Int) + x) then bif eqI (0 : Int) x_1 then bif leI (0 : Int) n && leI n (9007199254740991 : Int) then bif decide ((0 : Nat) + (digN n.toNat).length ≤ (9223372036854775807 : Nat)) then bif leI (0 : Int) o && leI o (9007199254740991 : Int) then bif decide ((0 : Nat) + (digN o.toNat).length ≤ (9223372036854775807 : Nat)) then bif leI (0 : Int) n && leI n (9007199254740991 : Int) then bif leI (0 : Int) o && leI o (9007199254740991 : Int) then (∃ (_x : Unit), True ∧ ((1 : Int) + pickN times (5 : Int)).toNat + (1 : Nat) < ((1 : Int) + pickN times (5 : Int)).toNat + (1 : Nat) ∧ (((1 : Nat) = (1 : Nat) ∧ (te = te ∧ True) ∧ True) ∧ True) ∧ (1 : Int) = (0 : Int) ∧ ([] : List UInt8) ++ digN n.toNat = [] ∧ ([] : List UInt8) ++ digN o.toNat = [] ∧ False ∧ False ∧ True) ∨ ∃ (y : Nat × Nat), (y.snd = y.fst + (1 : Nat) ∧ y.snd ≤ ((1 : Int) + pickN times (5 : Int)).toNat) ∧ ((1 : Int) + pickN times (5 : Int)).toNat - y.snd < ((1 : Int) + pickN times (5 : Int)).toNat + (1 : Nat) ∧ (((1 : Nat) = (1 : Nat) ∧ (te = te ∧ True) ∧ True) ∧ (cellsP (fun (b : Nat) => [(0 : Nat), (3 : Nat), (6 : Nat)].getD b (7 : Nat)) (fieldC (fL (digN n.toNat) y.snd)) [AV.str [(67 : UInt8), (111 : UInt8), (110 : UInt8), (116 : UInt8), (101 : UInt8), (110 : UInt8), (116 : UInt8), (45 : UInt8), (108 : UInt8), (101 : UInt8), (110 : UInt8), (103 : UInt8), (116 : UInt8), (104 : UInt8)], AV.str (digN n.toNat)] ∧ True) ∧ (cellsP (fun (b : Nat) => [(0 : Nat), (3 : Nat), (6 : Nat)].getD b (7 : Nat)) (fieldC (fM (digN n.toNat) (digN o.toNat) (pickN at' ((1 : Int) + pickN times (5 : Int))).toNat y.snd)) [AV.str [(67 : UInt8), (79 : UInt8), (78 : UInt8), (84 : UInt8), (69 : UInt8), (78 : UInt8), (84 : UInt8), (45 : UInt8), (76 : UInt8), (69 : UInt8), (78 : UInt8), (71 : UInt8), (84 : UInt8), (72 : UInt8)], AV.str (digN o.toNat)] ∧ True) ∧ True) ∧ (1 : Int) = ic (y.fst + (1 : Nat)) ∧ ([] : List UInt8) ++ digN n.toNat = txtI (digN n.toNat) y.snd ∧ ([] : List UInt8) ++ digN o.toNat = badI (pickX (digN n.toNat) (digN o.toNat) (pickN at' ((1 : Int) + pickN times (5 : Int))).toNat) y.snd ∧ ((0 : Nat) = (0 : Nat) ∧ (1 : Nat) = y.snd ∧ (1 : Nat) = y.snd ∧ false = false) ∧ ((0 : Nat) = (0 : Nat) ∧ (1 : Nat) = y.snd ∧ (1 : Nat) = y.snd ∧ false = false) ∧ True else False else False else False else False else False else False else bif leI (0 : Int) n && leI n (9007199254740991 : Int) then bif decide ((0 : Nat) + (digN n.toNat).length ≤ (9223372036854775807 : Nat)) then bif leI (0 : Int) n && leI n (9007199254740991 : Int) then bif decide ((0 : Nat) + (digN n.toNat).length ≤ (9223372036854775807 : Nat)) then bif leI (0 : Int) n && leI n (9007199254740991 : Int) then bif leI (0 : Int) n && leI n (9007199254740991 : Int) then (∃ (_x : Unit), True ∧ ((1 : Int) + pickN times (5 : Int)).toNat + (1 : Nat) < ((1 : Int) + pickN times (5 : Int)).toNat + (1 : Nat) ∧ (((1 : Nat) = (1 : Nat) ∧ (te = te ∧ True) ∧ True) ∧ True) ∧ (1 : Int) = (0 : Int) ∧ ([] : List UInt8) ++ digN n.toNat = [] ∧ ([] : List UInt8) ++ digN n.toNat = [] ∧ False ∧ False ∧ True) ∨ ∃ (y : Nat × Nat), (y.snd = y.fst + (1 : Nat) ∧ y.snd ≤ ((1 : Int) + pickN times (5 : Int)).toNat) ∧ ((1 : Int) + pickN times (5 : Int)).toNat - y.snd < ((1 : Int) + pickN times (5 : Int)).toNat + (1 : Nat) ∧ (((1 : Nat) = (1 : Nat) ∧ (te = te ∧ True) ∧ True) ∧ (cellsP (fun (b : Nat) => [(0 : Nat), (3 : Nat), (6 : Nat)].getD b (7 : Nat)) (fieldC (fL (digN n.toNat) y.snd)) [AV.str [(67 : UInt8), (111 : UInt8), (110 : UInt8), (116 : UInt8), (101 : UInt8), (110 : UInt8), (116 : UInt8), (45 : UInt8), (108 : UInt8), (101 : UInt8), (110 : UInt8), (103 : UInt8), (116 : UInt8), (104 : UInt8)], AV.str (digN n.toNat)] ∧ True) ∧ (cellsP (fun (b : Nat) => [(0 : Nat), (3 : Nat), (6 : Nat)].getD b (7 : Nat)) (fieldC (fM (digN n.toNat) (digN o.toNat) (pickN at' ((1 : Int) + pickN times (5 : Int))).toNat y.snd)) [AV.str [(67 : UInt8), (79 : UInt8), (78 : UInt8), (84 : UInt8), (69 : UInt8), (78 : UInt8), (84 : UInt8), (45 : UInt8), (76 : UInt8), (69 : UInt8), (78 : UInt8), (71 : UInt8), (84 : UInt8), (72 : UInt8)], AV.str (digN n.toNat)] ∧ True) ∧ True) ∧ (1 : Int) = ic (y.fst + (1 : Nat)) ∧ ([] : List UInt8) ++ digN n.toNat = txtI (digN n.toNat) y.snd ∧ ([] : List UInt8) ++ digN n.toNat = badI (pickX (digN n.toNat) (digN o.toNat) (pickN at' ((1 : Int) + pickN times (5 : Int))).toNat) y.snd ∧ ((0 : Nat) = (0 : Nat) ∧ (1 : Nat) = y.snd ∧ (1 : Nat) = y.snd ∧ false = false) ∧ ((0 : Nat) = (0 : Nat) ∧ (1 : Nat) = y.snd ∧ (1 : Nat) = y.snd ∧ false = false) ∧ True else False else False else False else False else False else False else (fldOk [AV.str [(67 : UInt8), (111 : UInt8), (110 : UInt8), (116 : UInt8), (101 : UInt8), (110 : UInt8), (116 : UInt8), (45 : UInt8), (76 : UInt8), (101 : UInt8), (110 : UInt8), (103 : UInt8), (116 : UInt8), (104 : UInt8)], AV.str []] (1 : Nat) ∧ true = true) ∧ (True ∧ true = true) ∧ (fldOk [AV.str [(67 : UInt8), (111 : UInt8), (110 : UInt8), (116 : UInt8), (101 : UInt8), (110 : UInt8), (116 : UInt8), (45 : UInt8), (76 : UInt8), (101 : UInt8), (110 : UInt8), (103 : UInt8), (116 : UInt8), (104 : UInt8)], AV.str []] (1 : Nat) ∧ true = true) ∧ (True ∧ true = true) ∧ bif eqI n o then ∃ (_x : Unit), True ∧ (((1 : Nat) = (1 : Nat) ∧ (te = te ∧ True) ∧ True) ∧ True) ∧ false = true ∧ True else ∃ (_x : Unit), True ∧ (((1 : Nat) = (1 : Nat) ∧ (te = te ∧ True) ∧ True) ∧ True) ∧ false = true ∧ True) ∧ ∀ (x_2 : Nat × Nat), x_2.snd = x_2.fst + (1 : Nat) ∧ x_2.snd ≤ ((1 : Int) + pickN times (5 : Int)).toNat → bif ltI (ic (x_2.fst + (1 : Nat))) ((1 : Int) + x) then bif decide ((txtI (digN n.toNat) x_2.snd).length + (2 : Nat) ≤ (9223372036854775807 : Nat)) then bif decide ((badI (pickX (digN n.toNat) (digN o.toNat) (pickN at' ((1 : Int) + pickN times (5 : Int))).toNat) x_2.snd).length + (2 : Nat) ≤ (9223372036854775807 : Nat)) then bif eqI (ic (x_2.fst + (1 : Nat))) x_1 then bif leI (0 : Int) n && leI n (9007199254740991 : Int) then bif decide ((txtI (digN n.toNat) x_2.snd ++ [(44 : UInt8), (32 : UInt8)]).length + (digN n.toNat).length ≤ (9223372036854775807 : Nat)) then bif leI (0 : Int) o && leI o (9007199254740991 : Int) then bif decide ((badI (pickX (digN n.toNat) (digN o.toNat) (pickN at' ((1 : Int) + pickN times (5 : Int))).toNat) x_2.snd ++ [(32 : UInt8), (44 : UInt8)]).length + (digN o.toNat).length ≤ (9223372036854775807 : Nat)) then bif leI (0 : Int) n && leI n (9007199254740991 : Int) then bif decide (x_2.snd ≤ x_2.snd) && decide ((0 : Nat) + x_2.snd * (2 : Nat) ≤ (fieldC (fL (digN n.toNat) x_2.snd)).length) then bif decide (x_2.snd < x_2.snd + (1 : Nat)) then bif decide (x_2.snd + (1 : Nat) ≤ (9223372036854775807 : Nat)) && decide ((x_2.snd + (1 : Nat)) * (32 : Nat) ≤ (140737488355328 : Nat)) then bif decide (x_2.snd = x_2.snd) && (decide ((0 : Nat) + x_2.snd * (2 : Nat) = (fieldC (fL (digN n.toNat) x_2.snd)).length) && true) then bif leI (0 : Int) o && leI o (9007199254740991 : Int) then bif decide (x_2.snd ≤ x_2.snd) && decide ((0 : Nat) + x_2.snd * (2 : Nat) ≤ (fieldC (fM (digN n.toNat) (digN o.toNat) (pickN at' ((1 : Int) + pickN times (5 : Int))).toNat x_2.snd)).length) then bif decide (x_2.snd < x_2.snd + (1 : Nat)) then bif decide (x_2.snd + (1 : Nat) ≤ (9223372036854775807 : Nat)) && decide ((x_2.snd + (1 : Nat)) * (32 : Nat) ≤ (140737488355328 : Nat)) then bif decide (x_2.snd = x_2.snd) && (decide ((0 : Nat) + x_2.snd * (2 : Nat) = (fieldC (fM (digN n.toNat) (digN o.toNat) (pickN at' ((1 : Int) + pickN times (5 : Int))).toNat x_2.snd)).length) && true) then bif inK IntKind.i64 (ic (x_2.fst + (1 : Nat)) + (1 : Int)) then (∃ (_x : Unit), True ∧ ((1 : Int) + pickN times (5 : Int)).toNat + (1 : Nat) < ((1 : Int) + pickN times (5 : Int)).toNat - x_2.snd ∧ (((1 : Nat) = (1 : Nat) ∧ (te = te ∧ True) ∧ True) ∧ True) ∧ ic (x_2.fst + (1 : Nat)) + (1 : Int) = (0 : Int) ∧ txtI (digN n.toNat) x_2.snd ++ [(44 : UInt8), (32 : UInt8)] ++ digN n.toNat = [] ∧ badI (pickX (digN n.toNat) (digN o.toNat) (pickN at' ((1 : Int) + pickN times (5 : Int))).toNat) x_2.snd ++ [(32 : UInt8), (44 : UInt8)] ++ digN o.toNat = [] ∧ False ∧ False ∧ True) ∨ ∃ (y : Nat × Nat), (y.snd = y.fst + (1 : Nat) ∧ y.snd ≤ ((1 : Int) + pickN times (5 : Int)).toNat) ∧ ((1 : Int) + pickN times (5 : Int)).toNat - y.snd < ((1 : Int) + pickN times (5 : Int)).toNat - x_2.snd ∧ (((1 : Nat) = (1 : Nat) ∧ (te = te ∧ True) ∧ True) ∧ (cellsP (fun (b : Nat) => [(0 : Nat), (5 : Nat), (8 : Nat)].getD b (9 : Nat)) (fieldC (fL (digN n.toNat) y.snd)) (List.drop (0 : Nat) (fieldC (fL (digN n.toNat) x_2.snd)) ++ [AV.str [(67 : UInt8), (111 : UInt8), (110 : UInt8), (116 : UInt8), (101 : UInt8), (110 : UInt8), (116 : UInt8), (45 : UInt8), (108 : UInt8), (101 : UInt8), (110 : UInt8), (103 : UInt8), (116 : UInt8), (104 : UInt8)], AV.str (digN n.toNat)]) ∧ True) ∧ (cellsP (fun (b : Nat) => [(0 : Nat), (5 : Nat), (8 : Nat)].getD b (9 : Nat)) (fieldC (fM (digN n.toNat) (digN o.toNat) (pickN at' ((1 : Int) + pickN times (5 : Int))).toNat y.snd)) (List.drop (0 : Nat) (fieldC (fM (digN n.toNat) (digN o.toNat) (pickN at' ((1 : Int) + pickN times (5 : Int))).toNat x_2.snd)) ++ [AV.str [(67 : UInt8), (79 : UInt8), (78 : UInt8), (84 : UInt8), (69 : UInt8), (78 : UInt8), (84 : UInt8), (45 : UInt8), (76 : UInt8), (69 : UInt8), (78 : UInt8), (71 : UInt8), (84 : UInt8), (72 : UInt8)], AV.str (digN o.toNat)]) ∧ True) ∧ True) ∧ ic (x_2.fst + (1 : Nat)) + (1 : Int) = ic (y.fst + (1 : Nat)) ∧ txtI (digN n.toNat) x_2.snd ++ [(44 : UInt8), (32 : UInt8)] ++ digN n.toNat = txtI (digN n.toNat) y.snd ∧ badI (pickX (digN n.toNat) (digN o.toNat) (pickN at' ((1 : Int) + pickN times (5 : Int))).toNat) x_2.snd ++ [(32 : UInt8), (44 : UInt8)] ++ digN o.toNat = badI (pickX (digN n.toNat) (digN o.toNat) (pickN at' ((1 : Int) + pickN times (5 : Int))).toNat) y.snd ∧ ((0 : Nat) = (0 : Nat) ∧ x_2.snd + (1 : Nat) = y.snd ∧ x_2.snd + (1 : Nat) = y.snd ∧ false = false) ∧ ((0 : Nat) = (0 : Nat) ∧ x_2.snd + (1 : Nat) = y.snd ∧ x_2.snd + (1 : Nat) = y.snd ∧ false = false) ∧ True else False else False else False else False else False else False else False else False else False else False else False else False else False else False else False else bif leI (0 : Int) n && leI n (9007199254740991 : Int) then bif decide ((txtI (digN n.toNat) x_2.snd ++ [(44 : UInt8), (32 : UInt8)]).length + (digN n.toNat).length ≤ (9223372036854775807 : Nat)) then bif leI (0 : Int) n && leI n (9007199254740991 : Int) then bif decide ((badI (pickX (digN n.toNat) (digN o.toNat) (pickN at' ((1 : Int) + pickN times (5 : Int))).toNat) x_2.snd ++ [(32 : UInt8), (44 : UInt8)]).length + (digN n.toNat).length ≤ (9223372036854775807 : Nat)) then bif leI (0 : Int) n && leI n (9007199254740991 : Int) then bif decide (x_2.snd ≤ x_2.snd) && decide ((0 : Nat) + x_2.snd * (2 : Nat) ≤ (fieldC (fL (digN n.toNat) x_2.snd)).length) then bif decide (x_2.snd < x_2.snd + (1 : Nat)) then bif decide (x_2.snd + (1 : Nat) ≤ (9223372036854775807 : Nat)) && decide ((x_2.snd + (1 : Nat)) * (32 : Nat) ≤ (140737488355328 : Nat)) then bif decide (x_2.snd = x_2.snd) && (decide ((0 : Nat) + x_2.snd * (2 : Nat) = (fieldC (fL (digN n.toNat) x_2.snd)).length) && true) then bif leI (0 : Int) n && leI n (9007199254740991 : Int) then bif decide (x_2.snd ≤ x_2.snd) && decide ((0 : Nat) + x_2.snd * (2 : Nat) ≤ (fieldC (fM (digN n.toNat) (digN o.toNat) (pickN at' ((1 : Int) + pickN times (5 : Int))).toNat x_2.snd)).length) then bif decide (x_2.snd < x_2.snd + (1 : Nat)) then bif decide (x_2.snd + (1 : Nat) ≤ (9223372036854775807 : Nat)) && decide ((x_2.snd + (1 : Nat)) * (32 : Nat) ≤ (140737488355328 : Nat)) then bif decide (x_2.snd = x_2.snd) && (decide ((0 : Nat) + x_2.snd * (2 : Nat) = (fieldC (fM (digN n.toNat) (digN o.toNat) (pickN at' ((1 : Int) + pickN times (5 : Int))).toNat x_2.snd)).length) && true) then bif inK IntKind.i64 (ic (x_2.fst + (1 : Nat)) + (1 : Int)) then (∃ (_x : Unit), True ∧ ((1 : Int) + pickN times (5 : Int)).toNat + (1 : Nat) < ((1 : Int) + pickN times (5 : Int)).toNat - x_2.snd ∧ (((1 : Nat) = (1 : Nat) ∧ (te = te ∧ True) ∧ True) ∧ True) ∧ ic (x_2.fst + (1 : Nat)) + (1 : Int) = (0 : Int) ∧ txtI (digN n.toNat) x_2.snd ++ [(44 : UInt8), (32 : UInt8)] ++ digN n.toNat = [] ∧ badI (pickX (digN n.toNat) (digN o.toNat) (pickN at' ((1 : Int) + pickN times (5 : Int))).toNat) x_2.snd ++ [(32 : UInt8), (44 : UInt8)] ++ digN n.toNat = [] ∧ False ∧ False ∧ True) ∨ ∃ (y : Nat × Nat), (y.snd = y.fst + (1 : Nat) ∧ y.snd ≤ ((1 : Int) + pickN times (5 : Int)).toNat) ∧ ((1 : Int) + pickN times (5 : Int)).toNat - y.snd < ((1 : Int) + pickN times (5 : Int)).toNat - x_2.snd ∧ (((1 : Nat) = (1 : Nat) ∧ (te = te ∧ True) ∧ True) ∧ (cellsP (fun (b : Nat) => [(0 : Nat), (5 : Nat), (8 : Nat)].getD b (9 : Nat)) (fieldC (fL (digN n.toNat) y.snd)) (List.drop (0 : Nat) (fieldC (fL (digN n.toNat) x_2.snd)) ++ [AV.str [(67 : UInt8), (111 : UInt8), (110 : UInt8), (116 : UInt8), (101 : UInt8), (110 : UInt8), (116 : UInt8), (45 : UInt8), (108 : UInt8), (101 : UInt8), (110 : UInt8), (103 : UInt8), (116 : UInt8), (104 : UInt8)], AV.str (digN n.toNat)]) ∧ True) ∧ (cellsP (fun (b : Nat) => [(0 : Nat), (5 : Nat), (8 : Nat)].getD b (9 : Nat)) (fieldC (fM (digN n.toNat) (digN o.toNat) (pickN at' ((1 : Int) + pickN times (5 : Int))).toNat y.snd)) (List.drop (0 : Nat) (fieldC (fM (digN n.toNat) (digN o.toNat) (pickN at' ((1 : Int) + pickN times (5 : Int))).toNat x_2.snd)) ++ [AV.str [(67 : UInt8), (79 : UInt8), (78 : UInt8), (84 : UInt8), (69 : UInt8), (78 : UInt8), (84 : UInt8), (45 : UInt8), (76 : UInt8), (69 : UInt8), (78 : UInt8), (71 : UInt8), (84 : UInt8), (72 : UInt8)], AV.str (digN n.toNat)]) ∧ True) ∧ True) ∧ ic (x_2.fst + (1 : Nat)) + (1 : Int) = ic (y.fst + (1 : Nat)) ∧ txtI (digN n.toNat) x_2.snd ++ [(44 : UInt8), (32 : UInt8)] ++ digN n.toNat = txtI (digN n.toNat) y.snd ∧ badI (pickX (digN n.toNat) (digN o.toNat) (pickN at' ((1 : Int) + pickN times (5 : Int))).toNat) x_2.snd ++ [(32 : UInt8), (44 : UInt8)] ++ digN n.toNat = badI (pickX (digN n.toNat) (digN o.toNat) (pickN at' ((1 : Int) + pickN times (5 : Int))).toNat) y.snd ∧ ((0 : Nat) = (0 : Nat) ∧ x_2.snd + (1 : Nat) = y.snd ∧ x_2.snd + (1 : Nat) = y.snd ∧ false = false) ∧ ((0 : Nat) = (0 : Nat) ∧ x_2.snd + (1 : Nat) = y.snd ∧ x_2.snd + (1 : Nat) = y.snd ∧ false = false) ∧ True else False else False else False else False else False else False else False else False else False else False else False else False else False else False else False else False else False else (fldOk [AV.str [(67 : UInt8), (111 : UInt8), (110 : UInt8), (116 : UInt8), (101 : UInt8), (110 : UInt8), (116 : UInt8), (45 : UInt8), (76 : UInt8), (101 : UInt8), (110 : UInt8), (103 : UInt8), (116 : UInt8), (104 : UInt8)], AV.str (txtI (digN n.toNat) x_2.snd)] (1 : Nat) ∧ true = true) ∧ (fldOk (fieldC (fL (digN n.toNat) x_2.snd)) x_2.snd ∧ true = true) ∧ (fldOk [AV.str [(67 : UInt8), (111 : UInt8), (110 : UInt8), (116 : UInt8), (101 : UInt8), (110 : UInt8), (116 : UInt8), (45 : UInt8), (76 : UInt8), (101 : UInt8), (110 : UInt8), (103 : UInt8), (116 : UInt8), (104 : UInt8)], AV.str (badI (pickX (digN n.toNat) (digN o.toNat) (pickN at' ((1 : Int) + pickN times (5 : Int))).toNat) x_2.snd)] (1 : Nat) ∧ true = true) ∧ (fldOk (fieldC (fM (digN n.toNat) (digN o.toNat) (pickN at' ((1 : Int) + pickN times (5 : Int))).toNat x_2.snd)) x_2.snd ∧ true = true) ∧ bif eqI n o then bif eqI (lenS (fldT [AV.str [(67 : UInt8), (111 : UInt8), (110 : UInt8), (116 : UInt8), (101 : UInt8), (110 : UInt8), (116 : UInt8), (45 : UInt8), (76 : UInt8), (101 : UInt8), (110 : UInt8), (103 : UInt8), (116 : UInt8), (104 : UInt8)], AV.str (txtI (digN n.toNat) x_2.snd)] (1 : Nat))) (0 : Int) then bif eqI (lenN (fldT [AV.str [(67 : UInt8), (111 : UInt8), (110 : UInt8), (116 : UInt8), (101 : UInt8), (110 : UInt8), (116 : UInt8), (45 : UInt8), (76 : UInt8), (101 : UInt8), (110 : UInt8), (103 : UInt8), (116 : UInt8), (104 : UInt8)], AV.str (txtI (digN n.toNat) x_2.snd)] (1 : Nat))) n then bif eqI (lenS (fldT (fieldC (fL (digN n.toNat) x_2.snd)) x_2.snd)) (0 : Int) then bif eqI (lenN (fldT (fieldC (fL (digN n.toNat) x_2.snd)) x_2.snd)) n then bif eqI (lenS (fldT [AV.str [(67 : UInt8), (111 : UInt8), (110 : UInt8), (116 : UInt8), (101 : UInt8), (110 : UInt8), (116 : UInt8), (45 : UInt8), (76 : UInt8), (101 : UInt8), (110 : UInt8), (103 : UInt8), (116 : UInt8), (104 : UInt8)], AV.str (badI (pickX (digN n.toNat) (digN o.toNat) (pickN at' ((1 : Int) + pickN times (5 : Int))).toNat) x_2.snd)] (1 : Nat))) (0 : Int) == true then ∃ (_x : Unit), True ∧ (((1 : Nat) = (1 : Nat) ∧ (te = te ∧ True) ∧ True) ∧ True) ∧ (eqI (lenS (fldT (fieldC (fM (digN n.toNat) (digN o.toNat) (pickN at' ((1 : Int) + pickN times (5 : Int))).toNat x_2.snd)) x_2.snd)) (0 : Int) == true) = true ∧ True else ∃ (_x : Unit), True ∧ (((1 : Nat) = (1 : Nat) ∧ (te = te ∧ True) ∧ True) ∧ True) ∧ false = true ∧ True else ∃ (_x : Unit), True ∧ (((1 : Nat) = (1 : Nat) ∧ (te = te ∧ True) ∧ True) ∧ True) ∧ false = true ∧ True else ∃ (_x : Unit), True ∧ (((1 : Nat) = (1 : Nat) ∧ (te = te ∧ True) ∧ True) ∧ True) ∧ false = true ∧ True else ∃ (_x : Unit), True ∧ (((1 : Nat) = (1 : Nat) ∧ (te = te ∧ True) ∧ True) ∧ True) ∧ false = true ∧ True else ∃ (_x : Unit), True ∧ (((1 : Nat) = (1 : Nat) ∧ (te = te ∧ True) ∧ True) ∧ True) ∧ false = true ∧ True else bif eqI (lenS (fldT [AV.str [(67 : UInt8), (111 : UInt8), (110 : UInt8), (116 : UInt8), (101 : UInt8), (110 : UInt8), (116 : UInt8), (45 : UInt8), (76 : UInt8), (101 : UInt8), (110 : UInt8), (103 : UInt8), (116 : UInt8), (104 : UInt8)], AV.str (txtI (digN n.toNat) x_2.snd)] (1 : Nat))) (0 : Int) then bif eqI (lenN (fldT [AV.str [(67 : UInt8), (111 : UInt8), (110 : UInt8), (116 : UInt8), (101 : UInt8), (110 : UInt8), (116 : UInt8), (45 : UInt8), (76 : UInt8), (101 : UInt8), (110 : UInt8), (103 : UInt8), (116 : UInt8), (104 : UInt8)], AV.str (txtI (digN n.toNat) x_2.snd)] (1 : Nat))) n then bif eqI (lenS (fldT (fieldC (fL (digN n.toNat) x_2.snd)) x_2.snd)) (0 : Int) then bif eqI (lenN (fldT (fieldC (fL (digN n.toNat) x_2.snd)) x_2.snd)) n then bif eqI (lenS (fldT [AV.str [(67 : UInt8), (111 : UInt8), (110 : UInt8), (116 : UInt8), (101 : UInt8), (110 : UInt8), (116 : UInt8), (45 : UInt8), (76 : UInt8), (101 : UInt8), (110 : UInt8), (103 : UInt8), (116 : UInt8), (104 : UInt8)], AV.str (badI (pickX (digN n.toNat) (digN o.toNat) (pickN at' ((1 : Int) + pickN times (5 : Int))).toNat) x_2.snd)] (1 : Nat))) (0 : Int) == eqI ((1 : Int) + x) (1 : Int) then ∃ (_x : Unit), True ∧ (((1 : Nat) = (1 : Nat) ∧ (te = te ∧ True) ∧ True) ∧ True) ∧ (eqI (lenS (fldT (fieldC (fM (digN n.toNat) (digN o.toNat) (pickN at' ((1 : Int) + pickN times (5 : Int))).toNat x_2.snd)) x_2.snd)) (0 : Int) == eqI ((1 : Int) + x) (1 : Int)) = true ∧ True else ∃ (_x : Unit), True ∧ (((1 : Nat) = (1 : Nat) ∧ (te = te ∧ True) ∧ True) ∧ True) ∧ false = true ∧ True else ∃ (_x : Unit), True ∧ (((1 : Nat) = (1 : Nat) ∧ (te = te ∧ True) ∧ True) ∧ True) ∧ false = true ∧ True else ∃ (_x : Unit), True ∧ (((1 : Nat) = (1 : Nat) ∧ (te = te ∧ True) ∧ True) ∧ True) ∧ false = true ∧ True else ∃ (_x : Unit), True ∧ (((1 : Nat) = (1 : Nat) ∧ (te = te ∧ True) ∧ True) ∧ True) ∧ false = true ∧ True else ∃ (_x : Unit), True ∧ (((1 : Nat) = (1 : Nat) ∧ (te = te ∧ True) ∧ True) ∧ True) ∧ false = true ∧ True else False) := by kernel_rfl
theorem fL_step (d : List UInt8) (k : Nat) : fL d (k + 1) = fL d k ++ [([67, 111, 110, 116, 101, 110, 116, 45, 108, 101, 110, 103, 116, 104], d)] := by simp [fL, List.replicate_succ']
theorem fM_step (d e : List UInt8) (a k : Nat) : fM d e a (k + 1) = fM d e a k ++ [([67, 79, 78, 84, 69, 78, 84, 45, 76, 69, 78, 71, 84, 72], pickX d e a k)] := by simp [fM, List.range_succ]
theorem fieldC_ap (a b : FL) : fieldC (a ++ b) = fieldC a ++ fieldC b := by simp [fieldC]
theorem cells_L (σ : Nat → Nat) (d : List UInt8) (k : Nat) : cellsP σ (fieldC (fL d (k + 1))) (fieldC (fL d k) ++ [AV.str [67, 111, 110, 116, 101, 110, 116, 45, 108, 101, 110, 103, 116, 104], AV.str d]) := by
  have h := of_eq_true (cells_fld σ (fL d (k + 1)))
  have e : fieldC (fL d (k + 1)) = fieldC (fL d k) ++ [AV.str [67, 111, 110, 116, 101, 110, 116, 45, 108, 101, 110, 103, 116, 104], AV.str d] := by rw [fL_step, fieldC_ap]; rfl
  rw [e] at h ⊢
  exact h
theorem cells_M (σ : Nat → Nat) (d e x : List UInt8) (a k : Nat) (hx : pickX d e a k = x) : cellsP σ (fieldC (fM d e a (k + 1))) (fieldC (fM d e a k) ++ [AV.str [67, 79, 78, 84, 69, 78, 84, 45, 76, 69, 78, 71, 84, 72], AV.str x]) := by
  have h := of_eq_true (cells_fld σ (fM d e a (k + 1)))
  have e : fieldC (fM d e a (k + 1)) = fieldC (fM d e a k) ++ [AV.str [67, 79, 78, 84, 69, 78, 84, 45, 76, 69, 78, 71, 84, 72], AV.str x] := by rw [fM_step, fieldC_ap, hx]; rfl
  rw [e] at h ⊢
  exact h
theorem fL_len (d : List UInt8) (k : Nat) : k * 2 = (fieldC (fL d k)).length := by rw [fieldC_length]; simp [fL]; omega
theorem fM_len (d e : List UInt8) (a k : Nat) : k * 2 = (fieldC (fM d e a k)).length := by rw [fieldC_length]; simp [fM]; omega
theorem txt_len {d : List UInt8} (h : d.length ≤ 16) : ∀ k, (txtI d k).length ≤ 18 * k
  | 0 => by simp [txtI]
  | 1 => by simp [txtI]; omega
  | k + 2 => by
    have := txt_len h (k + 1)
    rw [txtI_step]; simp only [List.length_append, List.length_cons, List.length_nil]; omega
theorem bad_len {x : Nat → List UInt8} (h : ∀ i, (x i).length ≤ 16) : ∀ k, (badI x k).length ≤ 18 * k
  | 0 => by simp [badI]
  | 1 => by have := h 0; simp [badI]; omega
  | k + 2 => by
    have := bad_len h (k + 1)
    have := h (k + 1)
    rw [badI_step]; simp only [List.length_append, List.length_cons, List.length_nil]; omega
theorem fld_one {s : List UInt8} (h : s.length ≤ 1000) : fldOk [AV.str [67, 111, 110, 116, 101, 110, 116, 45, 76, 101, 110, 103, 116, 104], AV.str s] 1 := by
  refine ⟨rfl, Nat.le_refl 1, ?_⟩
  show totL [(clN, s)] ≤ _
  simp [totL, clN]; omega
theorem fld_all (l : FL) (h : totL l ≤ 274877906944) : fldOk (fieldC l) l.length := by
  have := fldOk_at l []
  rw [List.append_nil] at this
  rw [this]; exact h
theorem fldT_all (l : FL) : fldT (fieldC l) l.length = l := by simpa using fldT_at l []
theorem tot_le {l : FL} (h : ∀ f ∈ l, f.1.length + f.2.length ≤ 40) : totL l ≤ 41 * l.length := by
  induction l with
  | nil => simp [totL]
  | cons a r ih =>
    have h1 := h a (by simp)
    have h2 := ih fun f hf => h f (by simp [hf])
    simp only [totL, List.map_cons, List.sum_cons, List.length_cons] at h2 ⊢
    omega
theorem len_vc (te : Nat) (n o times at' : Int) : vLen te n o times at' := by
  rw [vLen_eq]
  simp only [ic, cond_F]
  simp only [cond_P, leI_t, leI_f, ltI_t, ltI_f, eqI_t, eqI_f, and_t, not_t, not_f, dec_t, dec_f, Nat.zero_add, Nat.mul_one, List.drop_zero]
  simp only [cells_tsr, cells_fld, take_ts, ts_length, and_true, true_and, and_false, false_and, or_false, false_or, exists_false, Nat.le_refl, exists_const, Nat.succ_ne_self, Nat.not_succ_le_self, false_implies, not_false_eq_true, true_implies, implies_true, fldT_at, fldOk_at, getS_ts]
  intro h1 h2 h3 h4 x hx
  have hp := pick_in times (m := 5) (by omega)
  rw [hx] at hp
  refine ⟨by simp only [inK, leI_eq]; simp; omega, by simp only [inK, leI_eq]; simp; omega, fun a ha => ?_⟩
  have hq := pick_in at' (m := 1 + x) (by omega)
  rw [ha] at hq
  obtain ⟨n, rfl⟩ : ∃ N : Nat, n = N := ⟨n.toNat, by omega⟩
  obtain ⟨o, rfl⟩ : ∃ N : Nat, o = N := ⟨o.toNat, by omega⟩
  obtain ⟨T, rfl⟩ : ∃ N : Nat, x = N := ⟨x.toNat, by omega⟩
  obtain ⟨a, rfl⟩ : ∃ N : Nat, a = N := ⟨a.toNat, by omega⟩
  have eT : (1 + (T : Int)).toNat = T + 1 := by omega
  have hn : n ≤ 9007199254740991 := by omega
  have ho : o ≤ 9007199254740991 := by omega
  simp only [hx, ha, eT, Int.toNat_natCast]
  have d1 := digN_len2 15 n (by omega)
  have d2 := digN_len2 15 o (by omega)
  generalize hd : digN n = d
  generalize he : digN o = e
  have hxl : ∀ i, (pickX d e a i).length ≤ 16 := fun i => by unfold pickX; split <;> (subst hd; subst he; omega)
  rw [hd] at d1
  rw [he] at d2
  have hin : ∀ k : Nat, k ≤ 5 → inK .i64 (((k + 1 : Nat) : Int) + 1) = true := fun k hk => by simp only [inK, leI_eq]; simp; omega
  refine ⟨fun _ => ⟨fun _ => ⟨fun h0 => ⟨⟨h1, h2⟩, by omega, ⟨h3, h4⟩, by omega, ⟨h1, h2⟩, ⟨h3, h4⟩, (0, 1), ⟨rfl, by simp⟩, by simp; omega, ⟨cells_L _ d 0, cells_M _ d e e a 0 (by unfold pickX; rw [if_pos (by omega)])⟩, rfl, by simp [txtI], by simp [badI, pickX]; omega, ⟨rfl, rfl⟩, rfl, rfl⟩, fun h0 => ⟨⟨h1, h2⟩, by omega, ⟨h1, h2⟩, by omega, ⟨h1, h2⟩, ⟨h1, h2⟩, (0, 1), ⟨rfl, by simp⟩, by simp; omega, ⟨cells_L _ d 0, cells_M _ d e d a 0 (by unfold pickX; rw [if_neg (by omega)])⟩, rfl, by simp [txtI], by simp [badI, pickX]; omega, ⟨rfl, rfl⟩, rfl, rfl⟩⟩, fun h => by omega⟩, ?_⟩
  rintro ⟨k, k'⟩ ⟨hk, hk2⟩
  simp only at hk hk2
  subst hk
  have t1 := txt_len d1 (k + 1)
  have t2 := bad_len hxl (k + 1)
  have hin := hin k (by omega)
  simp only
  refine ⟨fun hlt => ⟨by omega, by omega, fun h0 => ?_, fun h0 => ?_⟩, fun hge => ?_⟩
  · refine ⟨⟨h1, h2⟩, by simp only [List.length_append, List.length_cons, List.length_nil]; omega, ⟨h3, h4⟩, by simp only [List.length_append, List.length_cons, List.length_nil]; omega, ⟨h1, h2⟩, Nat.le_of_eq (fL_len _ _), by omega, ⟨by omega, by omega⟩, fL_len _ _, ⟨h3, h4⟩, Nat.le_of_eq (fM_len _ _ _ _), by omega, ⟨by omega, by omega⟩, fM_len _ _ _ _, hin, (k + 1, k + 2), ⟨rfl, ?_⟩, ?_, ⟨cells_L _ d _, cells_M _ d e e a _ ?_⟩, rfl, ?_, ?_, ⟨rfl, rfl⟩, rfl, rfl⟩
    · show k + 2 ≤ T + 1; omega
    · show T + 1 - (k + 2) < T + 1 - (k + 1); omega
    · unfold pickX; rw [if_pos (by omega)]
    · rw [txtI_step]
    · rw [badI_step]; simp only [pickX]; rw [if_pos (by omega)]
  · refine ⟨⟨h1, h2⟩, by simp only [List.length_append, List.length_cons, List.length_nil]; omega, ⟨h1, h2⟩, by simp only [List.length_append, List.length_cons, List.length_nil]; omega, ⟨h1, h2⟩, Nat.le_of_eq (fL_len _ _), by omega, ⟨by omega, by omega⟩, fL_len _ _, ⟨h1, h2⟩, Nat.le_of_eq (fM_len _ _ _ _), by omega, ⟨by omega, by omega⟩, fM_len _ _ _ _, hin, (k + 1, k + 2), ⟨rfl, ?_⟩, ?_, ⟨cells_L _ d _, cells_M _ d e d a _ ?_⟩, rfl, ?_, ?_, ⟨rfl, rfl⟩, rfl, rfl⟩
    · show k + 2 ≤ T + 1; omega
    · show T + 1 - (k + 2) < T + 1 - (k + 1); omega
    · unfold pickX; rw [if_neg (by omega)]
    · rw [txtI_step]
    · rw [badI_step]; simp only [pickX]; rw [if_neg (by omega)]
  · obtain rfl : k = T := by omega
    have eL : (fL d (k + 1)).length = k + 1 := by simp [fL]
    have eM : (fM d e a (k + 1)).length = k + 1 := by simp [fM]
    have oL : fldOk (fieldC (fL d (k + 1))) (k + 1) := by
      have := fld_all (fL d (k + 1)) (by
        have := tot_le (l := fL d (k + 1)) fun f hf => by rw [List.eq_of_mem_replicate hf]; simp only [List.length_cons, List.length_nil]; omega
        rw [eL] at this; omega)
      rwa [eL] at this
    have oM : fldOk (fieldC (fM d e a (k + 1))) (k + 1) := by
      have := fld_all (fM d e a (k + 1)) (by
        have := tot_le (l := fM d e a (k + 1)) fun f hf => by obtain ⟨i, _, rfl⟩ := List.mem_map.1 hf; have := hxl i; simp only [List.length_cons, List.length_nil]; omega
        rw [eM] at this; omega)
      rwa [eM] at this
    have tL : fldT (fieldC (fL d (k + 1))) (k + 1) = fL d (k + 1) := by have := fldT_all (fL d (k + 1)); rwa [eL] at this
    have tM : fldT (fieldC (fM d e a (k + 1))) (k + 1) = fM d e a (k + 1) := by have := fldT_all (fM d e a (k + 1)); rwa [eM] at this
    have g1 := lenT_good hn k
    have g2 := lenL_good hn k
    have g3 := lenB_iff hn ho (a := a) (T := k) (by omega)
    have g4 := lenM_iff hn ho (a := a) (T := k) (by omega)
    rw [hd] at g1 g2 g3 g4
    rw [he] at g3 g4
    have tT : fldT [AV.str [67, 111, 110, 116, 101, 110, 116, 45, 76, 101, 110, 103, 116, 104], AV.str (txtI d (k + 1))] 1 = fT d (k + 1) := rfl
    have tB : fldT [AV.str [67, 111, 110, 116, 101, 110, 116, 45, 76, 101, 110, 103, 116, 104], AV.str (badI (pickX d e a) (k + 1))] 1 = fB d e a (k + 1) := rfl
    have q3 : eqI (lenS (fB d e a (k + 1))) 0 = decide (n = o ∨ k = 0) := by rw [eqI_eq]; exact decide_eq_decide.2 g3
    have q4 : eqI (lenS (fM d e a (k + 1))) 0 = decide (n = o ∨ k = 0) := by rw [eqI_eq]; exact decide_eq_decide.2 g4
    have q5 : eqI (1 + (k : Int)) 1 = decide (k = 0) := by rw [eqI_eq]; exact decide_eq_decide.2 (by omega)
    refine ⟨fld_one (by omega), oL, fld_one (by omega), oM, fun hno => ?_, fun hno => ?_⟩
    · have hno : n = o := by omega
      rw [tT, tL, tB, tM, g1.1, g1.2, g2.1, g2.2, q3, q4]
      simp [hno]
    · have hno : n ≠ o := by omega
      rw [tT, tL, tB, tM, g1.1, g1.2, g2.1, g2.2, q3, q4, q5]
      simp [hno]
theorem ePick_ok : EntryOk Tryd.prog 16 ePick := by
  intro args H sr hs K hk
  unfold ePick at hs
  split at hs
  · rename_i n m
    cases hs
    obtain ⟨hm, hk⟩ := hk
    refine gPickN_ok _ H (.need (inK .i64 m) (.ok (.int .i64 (pickN n m)) none)) rfl K (need_intro hm (hk _ rfl))
  · cases hs
theorem TLe_ok : SpecOk Tryd.prog (tabS TLe noS) := by
  refine tabS_ok (fun p hp => ?_) noS_ok
  simp only [TLe, List.mem_cons, List.mem_nil_iff, or_false] at hp
  rcases hp with rfl | rfl | rfl | rfl
  · exact eLv_ok
  · exact ePick_ok
  · exact gDigits_ok
  · exact eLength_ok
theorem lengths_sc (te : Nat) (n o times at' : Int) : SC Tryd.prog 5 [.int .i64 n, .int .i64 times, .int .i64 o, .int .i64 at'] [gErr te] fun v _ => v = .bool true :=
  (SC.ofF (V := VLe) names0 mixed0 TLe_ok noO_ok (len_vc te n o times at')).mono fun v H h => by obtain ⟨_, _, h1, _⟩ := outE_one h; exact h1
end Go.Proofs.YtiobbjbodpkpjaaDoor

/- What the document's Names answers: names put in order one by one. -/
import Derived.Test.YtciciemaldbidaaGreatDoorVrN
import Derived.Test.YtciciemaldbidaaGreatDoorRefL
set_option linter.unusedSimpArgs false
set_option linter.unusedVariables false
namespace Go.Proofs.YtciciemaldbidaaGreatDoor
open Go Go.Ve
set_option maxRecDepth 20000
noncomputable def TRn : List (Nat × SpecE) := [(24, eList), (25, flatE (g1 le40 fun s => .str (lower s)))]
noncomputable def VRn : VE := ⟨Tryz.prog, tabS TRn noS, noO, fun _ => none⟩
def nmI (ps : LL) (i : Nat) : LL := nmsL (ps.take i)
def gtFrom (L : LL) (s : List UInt8) (k : Nat) : Prop := ∀ j, k ≤ j → j < L.length → s < L.getD j []
noncomputable def cut5 (l r : FL) (ps : LL) (e : Nat) (ro : Bool) (i : Nat) : Nat × List Ann := (7000005, [.mk Unit (fun _ => [(5, .sl 2 0 (nmI ps (i + 1)).length (nmI ps (i + 1)).length false)]) (fun _ => some [.cells (fieldC (l ++ r)) e ro, .cells (ts ps) eT false, .cells (ts (nmI ps (i + 1))) eT false]) (fun _ => starN ∉ ps.take (i + 1)) (fun _ => 0) gcB gcB (fun _ => []) (fun _ => [])])
noncomputable def cut12 (ps : LL) (i : Nat) : Nat × List Ann := (7000012, [.mk Nat (fun k => [(8, .int .i64 k)]) (fun _ => none) (fun k => k ≤ (nmI ps i).length ∧ gtFrom (nmI ps i) (lower (ps.getD i [])) k ∧ (k = 0 ∨ ¬ lower (ps.getD i []) < (nmI ps i).getD (k - 1) [])) (fun _ => 0) gcB gcB (fun k => [(49, .str ((nmI ps i).getD (k - 1) []))]) (fun _ => [])])
noncomputable def aR0 (l r : FL) (ps : LL) (e : Nat) (ro : Bool) : Anns := [(4, [
  .mk Unit (fun _ => [(6, .int .i64 0), (5, .nilsl)]) (fun _ => some [.cells (fieldC (l ++ r)) e ro]) (fun _ => ps = []) (fun _ => 0) gcB gcB (fun _ => []) (fun _ => [])])]
noncomputable def aR1 (l r : FL) (ps : LL) (e : Nat) (ro : Bool) : Anns := [(4, [
  .mk Unit (fun _ => [(6, .int .i64 0), (5, .nilsl)]) (fun _ => some [.cells (fieldC (l ++ r)) e ro, .cells (ts ps) eT false]) (fun _ => ps ≠ []) (fun _ => ps.length) gcB gcB (fun _ => [(20, .str (ps.getD 0 [])), (25, .str (ps.getD 0 []))]) (fun _ => [cut5 l r ps e ro 0]),
  .mk Nat (fun i => [(6, .int .i64 i), (5, .sl 2 0 (nmI ps i).length (nmI ps i).length false)]) (fun i => some [.cells (fieldC (l ++ r)) e ro, .cells (ts ps) eT false, .cells (ts (nmI ps i)) eT false]) (fun i => ps ≠ [] ∧ 1 ≤ i ∧ i ≤ ps.length ∧ starN ∉ ps.take i) (fun i => ps.length - i) gcB gcB (fun i => [(20, .str (ps.getD i [])), (25, .str (ps.getD i []))])
    (fun i => [(10, [.mk Nat (fun k => [(8, .int .i64 k)]) (fun _ => none) (fun k => k ≤ (nmI ps i).length ∧ gtFrom (nmI ps i) (lower (ps.getD i [])) k) (fun k => k) gcB gcB (fun k => [(36, .str ((nmI ps i).getD (k - 1) []))]) (fun _ => [])]), cut12 ps i, cut5 l r ps e ro i])])]
noncomputable def aRn (l r : FL) (ps : LL) (e : Nat) (ro : Bool) : Anns := [(7000002, [
  .mk Unit (fun _ => [(4, .nilsl)]) (fun _ => some [.cells (fieldC (l ++ r)) e ro]) (fun _ => ps = []) (fun _ => 0) gcB gcB (fun _ => []) (fun _ => aR0 l r ps e ro),
  .mk Unit (fun _ => [(4, .sl 1 0 ps.length ps.length false)]) (fun _ => some [.cells (fieldC (l ++ r)) e ro, .cells (ts ps) eT false]) (fun _ => ps ≠ []) (fun _ => 0) gcB gcB (fun _ => []) (fun _ => aR1 l r ps e ro)])]
noncomputable def psV (l : FL) : LL := listF l [86, 97, 114, 121]
noncomputable def outRn (l r : FL) (ps : LL) (e : Nat) (ro : Bool) : List Out := [
  ⟨Unit, fun _ => .tuple [.nilsl, .bool true], fun _ => [.cells (fieldC (l ++ r)) e ro], fun _ => starN ∈ ps, gcB⟩,
  ⟨Unit, fun _ => .tuple [.nilsl, .bool false], fun _ => [.cells (fieldC (l ++ r)) e ro], fun _ => ps = [], gcB⟩,
  ⟨Unit, fun _ => .tuple [.sl 1 0 (nmsL ps).length (nmsL ps).length false, .bool false], fun _ => [.cells (fieldC (l ++ r)) e ro, .cells (ts (nmsL ps)) eT false], fun _ => starN ∉ ps ∧ ps ≠ [], gcB⟩]

noncomputable def vRnN  : Prop := vcF VRn [] 300 [] [] 8 [.nilsl] [] (Go.Ve.one (.tuple [.nilsl, .bool false]))
noncomputable def vRn  (l r : FL) (e : Nat) (ro : Bool) (c : Nat) (ex : Bool) : Prop := vcF VRn [(13, .perm [1, 2, 3, 5, 8, 9, 10] [0, 4, 6, 7, 11, 12])] 300 (aRn l r (listF l varyN) e ro) [(49, .bad), (57, .nilmap), (60, .nilmap), (64, .nilmap)] 8 [.sl 0 0 l.length c ex] [.cells (fieldC (l ++ r)) e ro] (outRn l r (listF l varyN) e ro)
def gqRNm0 : Nat → Nat := (fun (b : Nat) => [0].getD b 1)
def gqRNm1 : Nat → Nat := (fun (b : Nat) => [0].getD b 2)
def gqRNm2 : Nat → Nat := (fun (b : Nat) => [0, 1].getD b 2)
def gqRNm3 : Nat → Nat := (fun (b : Nat) => [0, 1, 4].getD b 5)
def gqRNm4 : Nat → Nat := (fun (b : Nat) => [0, 1].getD b 3)
def gqRNm5 : Nat → Nat := (fun (b : Nat) => [0, 1, 2].getD b 3)
def gqRNm6 : Nat → Nat := (fun (b : Nat) => [0].getD b 3)
def gqRNm7 : Nat → Nat := (fun (b : Nat) => [0, 1, 5].getD b 6)
def gqRNm8 : Nat → Nat := (fun (b : Nat) => [0, 1, 6].getD b 7)
def gqRNm9 : Nat → Nat := (fun (b : Nat) => [0, 1, 7].getD b 8)
def gsRNm0 (l : FL) (r : FL) (e : Nat) (ro : Bool) (x : Nat) : Prop := (ABlk.cells (fieldC (l ++ r)) e ro = ABlk.cells (fieldC (l ++ r)) e ro ∧ ABlk.cells (ts (psV l)) 1 false = ABlk.cells (ts (psV l)) 1 false ∧ ABlk.cells (ts (nmI (psV l) x)) 1 false = ABlk.cells (ts (nmI (psV l) x)) 1 false ∧ True)
def gsRNm1 (l : FL) (r : FL) (e : Nat) (ro : Bool) (x : Nat) (x_1 : Nat) : Prop := ((gsRNm0 l r e ro x) ∧ (bif decide (0 + x_1 * 1 + (List.length (nmI (psV l) x) - x_1) * 1 ≤ (ts (nmI (psV l) x)).length) then bif decide (List.length (nmI (psV l) x) - x_1 = 0) then (gsRNm0 l r e ro x) ∧ ((gsRNm0 l r e ro x) ∧ ∃ (_x : Unit), ¬List.Mem starN (List.take (x + 1) (psV l)) ∧ ((bif e.beq e && sameB ro ro then cellsP gqRNm7 (fieldC (l ++ r)) (fieldC (l ++ r)) ∧ True else False) ∧ (cellsP gqRNm7 (ts (psV l)) (ts (psV l)) ∧ True) ∧ (cellsP gqRNm7 (ts (nmI (psV l) (x + 1))) [AV.str (lower (List.getD (psV l) x []))] ∧ True) ∧ True) ∧ (0 = 0 ∧ 1 = List.length (nmI (psV l) (x + 1)) ∧ 1 = List.length (nmI (psV l) (x + 1)) ∧ false = false) ∧ True) ∧ True else bif !decide (1 + (List.length (nmI (psV l) x) - x_1) ≤ 1) then bif decide (1 + (List.length (nmI (psV l) x) - x_1) ≤ 9223372036854775807) && decide ((1 + (List.length (nmI (psV l) x) - x_1)) * 16 ≤ 140737488355328) then bif AV.allOne (List.take ((List.length (nmI (psV l) x) - x_1) * 1) (List.drop (0 + x_1 * 1) (ts (nmI (psV l) x)))) then (gsRNm0 l r e ro x) ∧ ((gsRNm0 l r e ro x) ∧ ∃ (_x : Unit), ¬List.Mem starN (List.take (x + 1) (psV l)) ∧ ((bif e.beq e && sameB ro ro then cellsP gqRNm8 (fieldC (l ++ r)) (fieldC (l ++ r)) ∧ True else False) ∧ (cellsP gqRNm8 (ts (psV l)) (ts (psV l)) ∧ True) ∧ (cellsP gqRNm8 (ts (nmI (psV l) (x + 1))) (AV.str (lower (List.getD (psV l) x [])) :: List.take ((List.length (nmI (psV l) x) - x_1) * 1) (List.drop (0 + x_1 * 1) (ts (nmI (psV l) x)))) ∧ True) ∧ True) ∧ (0 = 0 ∧ 1 + (List.length (nmI (psV l) x) - x_1) = List.length (nmI (psV l) (x + 1)) ∧ 1 + (List.length (nmI (psV l) x) - x_1) = List.length (nmI (psV l) (x + 1)) ∧ false = false) ∧ True) ∧ True else False else False else False else False) ∧ True)
def gsRNm2 (l : FL) (r : FL) (e : Nat) (ro : Bool) (x : Nat) (x_1 : Nat) : Prop := (bif decide (0 + x_1 ≤ 0 + x_1) && decide (0 + (0 + x_1) * 1 ≤ (([] : List AV) ++ List.take (x_1 * 1) (List.drop 0 (ts (nmI (psV l) x)))).length) then bif !decide (0 + x_1 + 1 ≤ 0 + x_1) then bif decide (0 + x_1 + 1 ≤ 9223372036854775807) && decide ((0 + x_1 + 1) * 16 ≤ 140737488355328) then bif decide (0 + x_1 = 0 + x_1) && (decide (0 + (0 + x_1) * 1 = (([] : List AV) ++ List.take (x_1 * 1) (List.drop 0 (ts (nmI (psV l) x)))).length) && true) then (gsRNm0 l r e ro x) ∧ (bif decide (0 + x_1 * 1 + (List.length (nmI (psV l) x) - x_1) * 1 ≤ (ts (nmI (psV l) x)).length) then bif decide (0 + x_1 + 1 ≤ 0 + x_1 + 1) && decide (0 + (0 + x_1 + 1) * 1 ≤ (List.drop 0 (([] : List AV) ++ List.take (x_1 * 1) (List.drop 0 (ts (nmI (psV l) x)))) ++ [AV.str (lower (List.getD (psV l) x []))]).length) then bif decide (List.length (nmI (psV l) x) - x_1 = 0) then (gsRNm0 l r e ro x) ∧ ((gsRNm0 l r e ro x) ∧ ∃ (_x : Unit), ¬List.Mem starN (List.take (x + 1) (psV l)) ∧ ((bif e.beq e && sameB ro ro then cellsP gqRNm8 (fieldC (l ++ r)) (fieldC (l ++ r)) ∧ True else False) ∧ (cellsP gqRNm8 (ts (psV l)) (ts (psV l)) ∧ True) ∧ (cellsP gqRNm8 (ts (nmI (psV l) (x + 1))) (List.drop 0 (([] : List AV) ++ List.take (x_1 * 1) (List.drop 0 (ts (nmI (psV l) x)))) ++ [AV.str (lower (List.getD (psV l) x []))]) ∧ True) ∧ True) ∧ (0 = 0 ∧ 0 + x_1 + 1 = List.length (nmI (psV l) (x + 1)) ∧ 0 + x_1 + 1 = List.length (nmI (psV l) (x + 1)) ∧ false = false) ∧ True) ∧ True else bif !decide (0 + x_1 + 1 + (List.length (nmI (psV l) x) - x_1) ≤ 0 + x_1 + 1) then bif decide (0 + x_1 + 1 + (List.length (nmI (psV l) x) - x_1) ≤ 9223372036854775807) && decide ((0 + x_1 + 1 + (List.length (nmI (psV l) x) - x_1)) * 16 ≤ 140737488355328) then bif decide (0 + x_1 + 1 = 0 + x_1 + 1) && (decide (0 + (0 + x_1 + 1) * 1 = (List.drop 0 (([] : List AV) ++ List.take (x_1 * 1) (List.drop 0 (ts (nmI (psV l) x)))) ++ [AV.str (lower (List.getD (psV l) x []))]).length) && AV.allOne (List.take ((List.length (nmI (psV l) x) - x_1) * 1) (List.drop (0 + x_1 * 1) (ts (nmI (psV l) x))))) then (gsRNm0 l r e ro x) ∧ ((gsRNm0 l r e ro x) ∧ ∃ (_x : Unit), ¬List.Mem starN (List.take (x + 1) (psV l)) ∧ ((bif e.beq e && sameB ro ro then cellsP gqRNm9 (fieldC (l ++ r)) (fieldC (l ++ r)) ∧ True else False) ∧ (cellsP gqRNm9 (ts (psV l)) (ts (psV l)) ∧ True) ∧ (cellsP gqRNm9 (ts (nmI (psV l) (x + 1))) (List.drop 0 (List.drop 0 (([] : List AV) ++ List.take (x_1 * 1) (List.drop 0 (ts (nmI (psV l) x)))) ++ [AV.str (lower (List.getD (psV l) x []))]) ++ List.take ((List.length (nmI (psV l) x) - x_1) * 1) (List.drop (0 + x_1 * 1) (ts (nmI (psV l) x)))) ∧ True) ∧ True) ∧ (0 = 0 ∧ 0 + x_1 + 1 + (List.length (nmI (psV l) x) - x_1) = List.length (nmI (psV l) (x + 1)) ∧ 0 + x_1 + 1 + (List.length (nmI (psV l) x) - x_1) = List.length (nmI (psV l) (x + 1)) ∧ false = false) ∧ True) ∧ True else False else False else False else False else False) ∧ True else False else False else False else False)
def gsRNm3 (l : FL) (r : FL) (e : Nat) (ro : Bool) (x : Nat) (x_1 : Nat) : Prop := (bif decide (0 + x_1 ≤ 0 + x_1) && decide (0 + (0 + x_1) * 1 ≤ (([] : List AV) ++ List.take (x_1 * 1) (List.drop 0 (ts (nmI (psV l) x)))).length) then bif !decide (0 + x_1 + 1 ≤ 0 + x_1) then bif decide (0 + x_1 + 1 ≤ 9223372036854775807) && decide ((0 + x_1 + 1) * 16 ≤ 140737488355328) then bif decide (0 + x_1 = 0 + x_1) && (decide (0 + (0 + x_1) * 1 = (([] : List AV) ++ List.take (x_1 * 1) (List.drop 0 (ts (nmI (psV l) x)))).length) && true) then (gsRNm0 l r e ro x) ∧ (bif decide (0 + x_1 + 1 ≤ 0 + x_1 + 1) && decide (0 + (0 + x_1 + 1) * 1 ≤ (List.drop 0 (([] : List AV) ++ List.take (x_1 * 1) (List.drop 0 (ts (nmI (psV l) x)))) ++ [AV.str (lower (List.getD (psV l) x []))]).length) then (gsRNm0 l r e ro x) ∧ ((gsRNm0 l r e ro x) ∧ ∃ (_x : Unit), ¬List.Mem starN (List.take (x + 1) (psV l)) ∧ ((bif e.beq e && sameB ro ro then cellsP gqRNm8 (fieldC (l ++ r)) (fieldC (l ++ r)) ∧ True else False) ∧ (cellsP gqRNm8 (ts (psV l)) (ts (psV l)) ∧ True) ∧ (cellsP gqRNm8 (ts (nmI (psV l) (x + 1))) (List.drop 0 (([] : List AV) ++ List.take (x_1 * 1) (List.drop 0 (ts (nmI (psV l) x)))) ++ [AV.str (lower (List.getD (psV l) x []))]) ∧ True) ∧ True) ∧ (0 = 0 ∧ 0 + x_1 + 1 = List.length (nmI (psV l) (x + 1)) ∧ 0 + x_1 + 1 = List.length (nmI (psV l) (x + 1)) ∧ false = false) ∧ True) ∧ True else False) ∧ True else False else False else False else False)
def gsRNm4 (l : FL) (r : FL) (e : Nat) (ro : Bool) (x : Nat) : Prop := ((gsRNm0 l r e ro x) ∧ ((gsRNm0 l r e ro x) ∧ ((gsRNm0 l r e ro x) ∧ ∃ (_x : Unit), ¬List.Mem starN (List.take (x + 1) (psV l)) ∧ ((bif e.beq e && sameB ro ro then cellsP gqRNm7 (fieldC (l ++ r)) (fieldC (l ++ r)) ∧ True else False) ∧ (cellsP gqRNm7 (ts (psV l)) (ts (psV l)) ∧ True) ∧ (cellsP gqRNm7 (ts (nmI (psV l) (x + 1))) [AV.str (lower (List.getD (psV l) x []))] ∧ True) ∧ True) ∧ (0 = 0 ∧ 1 = List.length (nmI (psV l) (x + 1)) ∧ 1 = List.length (nmI (psV l) (x + 1)) ∧ false = false) ∧ True) ∧ True) ∧ True)
def gsRNm5 (l : FL) (r : FL) (e : Nat) (ro : Bool) : Prop := ((ABlk.cells (fieldC (l ++ r)) e ro = ABlk.cells (fieldC (l ++ r)) e ro ∧ ABlk.cells (ts (psV l)) 1 false = ABlk.cells (ts (psV l)) 1 false ∧ True) ∧ ((ABlk.cells (fieldC (l ++ r)) e ro = ABlk.cells (fieldC (l ++ r)) e ro ∧ ABlk.cells (ts (psV l)) 1 false = ABlk.cells (ts (psV l)) 1 false ∧ True) ∧ ((ABlk.cells (fieldC (l ++ r)) e ro = ABlk.cells (fieldC (l ++ r)) e ro ∧ ABlk.cells (ts (psV l)) 1 false = ABlk.cells (ts (psV l)) 1 false ∧ True) ∧ ((ABlk.cells (fieldC (l ++ r)) e ro = ABlk.cells (fieldC (l ++ r)) e ro ∧ ABlk.cells (ts (psV l)) 1 false = ABlk.cells (ts (psV l)) 1 false ∧ True) ∧ ((ABlk.cells (fieldC (l ++ r)) e ro = ABlk.cells (fieldC (l ++ r)) e ro ∧ ABlk.cells (ts (psV l)) 1 false = ABlk.cells (ts (psV l)) 1 false ∧ True) ∧ ∃ (_x : Unit), ¬List.Mem starN (List.take 1 (psV l)) ∧ ((bif e.beq e && sameB ro ro then cellsP gqRNm3 (fieldC (l ++ r)) (fieldC (l ++ r)) ∧ True else False) ∧ (cellsP gqRNm3 (ts (psV l)) (ts (psV l)) ∧ True) ∧ (cellsP gqRNm3 (ts (nmI (psV l) 1)) [AV.str (lower (List.getD (psV l) 0 []))] ∧ True) ∧ True) ∧ (0 = 0 ∧ 1 = List.length (nmI (psV l) 1) ∧ 1 = List.length (nmI (psV l) 1) ∧ false = false) ∧ True) ∧ True) ∧ True) ∧ True) ∧ True)
def gsRNm6 (l : FL) (r : FL) (e : Nat) (ro : Bool) (x : Nat) (x_1 : Nat) : Prop := ((gsRNm0 l r e ro x) ∧ (bif decide (0 + x_1 * 1 ≤ (ts (nmI (psV l) x)).length) then bif decide (x_1 = 0) then (gsRNm0 l r e ro x) ∧ (gsRNm1 l r e ro x x_1) ∧ True else bif !decide (0 + x_1 ≤ 0) then bif decide (0 + x_1 ≤ 9223372036854775807) && decide ((0 + x_1) * 16 ≤ 140737488355328) then (gsRNm0 l r e ro x) ∧ (gsRNm2 l r e ro x x_1) ∧ True else False else False else False) ∧ True)
def gsRNm7 (l : FL) (r : FL) (e : Nat) (ro : Bool) (x : Nat) (x_1 : Nat) : Prop := ((gsRNm0 l r e ro x) ∧ (bif decide (0 + x_1 * 1 ≤ (ts (nmI (psV l) x)).length) then bif decide (x_1 = 0) then (gsRNm0 l r e ro x) ∧ (gsRNm4 l r e ro x) ∧ True else bif !decide (0 + x_1 ≤ 0) then bif decide (0 + x_1 ≤ 9223372036854775807) && decide ((0 + x_1) * 16 ≤ 140737488355328) then (gsRNm0 l r e ro x) ∧ (gsRNm3 l r e ro x x_1) ∧ True else False else False else False) ∧ True)
def gsRNm8 (l : FL) (r : FL) (e : Nat) (ro : Bool) (x : Nat) : Prop := ((bif e.beq e && sameB ro ro then cellsP gqRNm5 (fieldC (l ++ r)) (fieldC (l ++ r)) ∧ True else False) ∧ (cellsP gqRNm5 (ts (psV l)) (ts (psV l)) ∧ True) ∧ (cellsP gqRNm5 (ts (nmI (psV l) x)) (ts (nmI (psV l) x)) ∧ True) ∧ True)
def gsRNm9 (l : FL) (r : FL) (e : Nat) (ro : Bool) (x : Nat) (x_1 : Nat) : Prop := ((gsRNm0 l r e ro x) ∧ (bif decide (0 + x_1 * 1 ≤ (ts (nmI (psV l) x)).length) then bif decide (x_1 = 0) then (gsRNm0 l r e ro x) ∧ ((gsRNm0 l r e ro x) ∧ (gsRNm1 l r e ro x x_1) ∧ True) ∧ True else bif !decide (0 + x_1 ≤ 0) then bif decide (0 + x_1 ≤ 9223372036854775807) && decide ((0 + x_1) * 16 ≤ 140737488355328) then (gsRNm0 l r e ro x) ∧ ((gsRNm0 l r e ro x) ∧ (gsRNm2 l r e ro x x_1) ∧ True) ∧ True else False else False else False) ∧ (gsRNm6 l r e ro x x_1) ∧ True)
def gsRNm10 (l : FL) (r : FL) (e : Nat) (ro : Bool) (x : Nat) (x_1 : Nat) : Prop := ((gsRNm0 l r e ro x) ∧ (bif decide (0 + x_1 * 1 ≤ (ts (nmI (psV l) x)).length) then bif decide (x_1 = 0) then (gsRNm0 l r e ro x) ∧ ((gsRNm0 l r e ro x) ∧ (gsRNm4 l r e ro x) ∧ True) ∧ True else bif !decide (0 + x_1 ≤ 0) then bif decide (0 + x_1 ≤ 9223372036854775807) && decide ((0 + x_1) * 16 ≤ 140737488355328) then (gsRNm0 l r e ro x) ∧ ((gsRNm0 l r e ro x) ∧ (gsRNm3 l r e ro x x_1) ∧ True) ∧ True else False else False else False) ∧ (gsRNm7 l r e ro x x_1) ∧ True)
def gsRNm11 (l : FL) (r : FL) (e : Nat) (ro : Bool) : Prop := ((bif e.beq e && sameB ro ro then cellsP gqRNm1 (fieldC (l ++ r)) (fieldC (l ++ r)) ∧ True else False) ∧ True)
def gsRNm12 (l : FL) (r : FL) (e : Nat) (ro : Bool) (x : Nat) (x_1 : Nat) : Prop := ((gsRNm0 l r e ro x) ∧ ((gsRNm0 l r e ro x) ∧ (gsRNm1 l r e ro x x_1) ∧ True) ∧ True)
def gsRNm13 (l : FL) (r : FL) (e : Nat) (ro : Bool) (x : Nat) : Prop := ((gsRNm0 l r e ro x) ∧ ((gsRNm0 l r e ro x) ∧ (gsRNm4 l r e ro x) ∧ True) ∧ True)
def gsRNm14 (l : FL) (r : FL) (e : Nat) (ro : Bool) : Prop := ((bif e.beq e && sameB ro ro then cellsP gqRNm0 (fieldC (l ++ r)) (fieldC (l ++ r)) ∧ True else False) ∧ True)
def gsRNm15 (l : FL) (r : FL) (e : Nat) (ro : Bool) : Prop := ((bif e.beq e && sameB ro ro then cellsP gqRNm6 (fieldC (l ++ r)) (fieldC (l ++ r)) ∧ True else False) ∧ True)
def gsRNm16 (l : FL) (r : FL) (e : Nat) (ro : Bool) : Prop := (bif e.beq e && sameB ro ro then cellsP gqRNm2 (fieldC (l ++ r)) (fieldC (l ++ r)) ∧ True else False)
theorem vRnN_eq  : vRnN  = (∃ (_x : Unit), True ∧ True ∧ (True ∧ false = false ∧ True) ∧ True) := by kernel_rfl
theorem vRn_eq  (l r : FL) (e : Nat) (ro : Bool) (c : Nat) (ex : Bool) : vRn l r e ro c ex = (((fldOk (fieldC (l ++ r)) (List.length l) ∧ true = true) ∧ bif decide (listF (fldT (fieldC (l ++ r)) (List.length l)) [(86 : UInt8), (97 : UInt8), (114 : UInt8), (121 : UInt8)] = []) then (∃ (_x : Unit), psV l = [] ∧ (gsRNm14 l r e ro) ∧ True ∧ True) ∨ ∃ (_x : Unit), psV l ≠ [] ∧ False else (∃ (_x : Unit), psV l = [] ∧ (gsRNm11 l r e ro) ∧ False ∧ True) ∨ ∃ (_x : Unit), psV l ≠ [] ∧ ((gsRNm16 l r e ro) ∧ (cellsP gqRNm2 (ts (psV l)) (ts (listF (fldT (fieldC (l ++ r)) (List.length l)) [(86 : UInt8), (97 : UInt8), (114 : UInt8), (121 : UInt8)])) ∧ True) ∧ True) ∧ (0 = 0 ∧ List.length (listF (fldT (fieldC (l ++ r)) (List.length l)) [(86 : UInt8), (97 : UInt8), (114 : UInt8), (121 : UInt8)]) = List.length (psV l) ∧ List.length (listF (fldT (fieldC (l ++ r)) (List.length l)) [(86 : UInt8), (97 : UInt8), (114 : UInt8), (121 : UInt8)]) = List.length (psV l) ∧ false = false) ∧ True) ∧ (∀ (x : Unit), psV l = [] → (∃ (_x : Unit), psV l = [] ∧ (gsRNm14 l r e ro) ∧ (0 : Int) = (0 : Int) ∧ True ∧ True) ∧ ∀ (x : Unit), psV l = [] → (∃ (_x : Unit), List.Mem starN (psV l) ∧ (gsRNm14 l r e ro) ∧ (True ∧ false = true ∧ True) ∧ True) ∨ (∃ (_x : Unit), psV l = [] ∧ (gsRNm14 l r e ro) ∧ (True ∧ false = false ∧ True) ∧ True) ∨ ∃ (_x : Unit), (¬List.Mem starN (psV l) ∧ psV l ≠ []) ∧ False) ∧ ∀ (x : Unit), psV l ≠ [] → ((∃ (_x : Unit), psV l ≠ [] ∧ ((gsRNm16 l r e ro) ∧ (cellsP gqRNm2 (ts (psV l)) (ts (psV l)) ∧ True) ∧ True) ∧ (0 : Int) = (0 : Int) ∧ True ∧ True) ∨ ∃ (x : Nat), (psV l ≠ [] ∧ 1 ≤ x ∧ x ≤ List.length (psV l) ∧ ¬List.Mem starN (List.take x (psV l))) ∧ False) ∧ (∀ (x : Unit), psV l ≠ [] → bif ltI (0 : Int) (ic (List.length (psV l))) then (bif ltI (0 : Int) (ic (List.length (psV l))) then (ts (psV l))[0]? = some (AV.str (List.getD (psV l) 0 [])) ∧ bif decide (List.getD (psV l) 0 [] = [(42 : UInt8)]) then (∃ (_x : Unit), List.Mem starN (psV l) ∧ (gsRNm11 l r e ro) ∧ (True ∧ true = true ∧ True) ∧ True) ∨ (∃ (_x : Unit), psV l = [] ∧ (gsRNm11 l r e ro) ∧ (True ∧ true = false ∧ True) ∧ True) ∨ ∃ (_x : Unit), (¬List.Mem starN (psV l) ∧ psV l ≠ []) ∧ ((gsRNm16 l r e ro) ∧ (cellsP gqRNm2 (ts (nmsL (psV l))) (ts (psV l)) ∧ True) ∧ True) ∧ (False ∧ true = false ∧ True) ∧ True else bif ltI (0 : Int) (ic (List.length (psV l))) then (ts (psV l))[0]? = some (AV.str (List.getD (psV l) 0 [])) ∧ bif le40 (List.getD (psV l) 0 []) then ((ABlk.cells (fieldC (l ++ r)) e ro = ABlk.cells (fieldC (l ++ r)) e ro ∧ ABlk.cells (ts (psV l)) 1 false = ABlk.cells (ts (psV l)) 1 false ∧ True) ∧ (gsRNm5 l r e ro) ∧ (gsRNm5 l r e ro) ∧ True) ∧ ((ABlk.cells (fieldC (l ++ r)) e ro = ABlk.cells (fieldC (l ++ r)) e ro ∧ ABlk.cells (ts (psV l)) 1 false = ABlk.cells (ts (psV l)) 1 false ∧ True) ∧ (gsRNm5 l r e ro) ∧ True) ∧ True else False else False else False) ∧ ∀ (x : Unit), ¬List.Mem starN (List.take 1 (psV l)) → (∃ (_x : Unit), psV l ≠ [] ∧ List.length (psV l) < List.length (psV l) ∧ ((bif e.beq e && sameB ro ro then cellsP gqRNm4 (fieldC (l ++ r)) (fieldC (l ++ r)) ∧ True else False) ∧ (cellsP gqRNm4 (ts (psV l)) (ts (psV l)) ∧ True) ∧ True) ∧ (1 : Int) = (0 : Int) ∧ False ∧ True) ∨ ∃ (y : Nat), (psV l ≠ [] ∧ 1 ≤ y ∧ y ≤ List.length (psV l) ∧ ¬List.Mem starN (List.take y (psV l))) ∧ List.length (psV l) - y < List.length (psV l) ∧ ((bif e.beq e && sameB ro ro then cellsP gqRNm5 (fieldC (l ++ r)) (fieldC (l ++ r)) ∧ True else False) ∧ (cellsP gqRNm5 (ts (psV l)) (ts (psV l)) ∧ True) ∧ (cellsP gqRNm5 (ts (nmI (psV l) y)) (ts (nmI (psV l) 1)) ∧ True) ∧ True) ∧ (1 : Int) = ic y ∧ (0 = 0 ∧ List.length (nmI (psV l) 1) = List.length (nmI (psV l) y) ∧ List.length (nmI (psV l) 1) = List.length (nmI (psV l) y) ∧ false = false) ∧ True else (∃ (_x : Unit), List.Mem starN (psV l) ∧ (gsRNm11 l r e ro) ∧ (True ∧ false = true ∧ True) ∧ True) ∨ (∃ (_x : Unit), psV l = [] ∧ (gsRNm11 l r e ro) ∧ (True ∧ false = false ∧ True) ∧ True) ∨ ∃ (_x : Unit), (¬List.Mem starN (psV l) ∧ psV l ≠ []) ∧ ((gsRNm16 l r e ro) ∧ (cellsP gqRNm2 (ts (nmsL (psV l))) (ts (psV l)) ∧ True) ∧ True) ∧ (False ∧ false = false ∧ True) ∧ True) ∧ ∀ (x : Nat), psV l ≠ [] ∧ 1 ≤ x ∧ x ≤ List.length (psV l) ∧ ¬List.Mem starN (List.take x (psV l)) → bif ltI (ic x) (ic (List.length (psV l))) then (bif ltI (ic x) (ic (List.length (psV l))) then (ts (psV l))[0 + x * 1]? = some (AV.str (List.getD (psV l) x [])) ∧ bif decide (List.getD (psV l) x [] = [(42 : UInt8)]) then (∃ (_x : Unit), List.Mem starN (psV l) ∧ (gsRNm15 l r e ro) ∧ (True ∧ true = true ∧ True) ∧ True) ∨ (∃ (_x : Unit), psV l = [] ∧ (gsRNm15 l r e ro) ∧ (True ∧ true = false ∧ True) ∧ True) ∨ ∃ (_x : Unit), (¬List.Mem starN (psV l) ∧ psV l ≠ []) ∧ ((bif e.beq e && sameB ro ro then cellsP gqRNm4 (fieldC (l ++ r)) (fieldC (l ++ r)) ∧ True else False) ∧ (cellsP gqRNm4 (ts (nmsL (psV l))) (ts (psV l)) ∧ True) ∧ True) ∧ (False ∧ true = false ∧ True) ∧ True else bif ltI (ic x) (ic (List.length (psV l))) then (ts (psV l))[0 + x * 1]? = some (AV.str (List.getD (psV l) x [])) ∧ bif le40 (List.getD (psV l) x []) then ((∃ (x_1 : Nat), (x_1 ≤ List.length (nmI (psV l) x) ∧ gtFrom (nmI (psV l) x) (lower (List.getD (psV l) x [])) x_1) ∧ (gsRNm8 l r e ro x) ∧ ic (List.length (nmI (psV l) x)) = ic x_1 ∧ True) ∧ ∀ (x_1 : Nat), x_1 ≤ List.length (nmI (psV l) x) ∧ gtFrom (nmI (psV l) x) (lower (List.getD (psV l) x [])) x_1 → bif ltI (0 : Int) (ic x_1) then bif leI (-9223372036854775808 : Int) (ic x_1 - (1 : Int)) && leI (ic x_1 - (1 : Int)) (9223372036854775807 : Int) then bif leI (0 : Int) (ic x_1 - (1 : Int)) && ltI (ic x_1 - (1 : Int)) (ic (List.length (nmI (psV l) x))) then (ts (nmI (psV l) x))[0 + (ic x_1 - (1 : Int)).toNat * 1]? = some (AV.str (List.getD (nmI (psV l) x) (x_1 - 1) [])) ∧ bif !(Op.bytesLess (List.getD (nmI (psV l) x) (x_1 - 1) []) (lower (List.getD (psV l) x [])) || List.getD (nmI (psV l) x) (x_1 - 1) [] == lower (List.getD (psV l) x [])) then bif leI (-9223372036854775808 : Int) (ic x_1 - (1 : Int)) && leI (ic x_1 - (1 : Int)) (9223372036854775807 : Int) then ∃ (y : Nat), (y ≤ List.length (nmI (psV l) x) ∧ gtFrom (nmI (psV l) x) (lower (List.getD (psV l) x [])) y) ∧ y < x_1 ∧ (gsRNm8 l r e ro x) ∧ ic x_1 - (1 : Int) = ic y ∧ True else False else ∃ (y : Nat), (y ≤ List.length (nmI (psV l) x) ∧ gtFrom (nmI (psV l) x) (lower (List.getD (psV l) x [])) y ∧ (y = 0 ∨ ¬lower (List.getD (psV l) x []) < List.getD (nmI (psV l) x) (y - 1) [])) ∧ (gsRNm8 l r e ro x) ∧ ic x_1 = ic y ∧ True else False else False else ∃ (y : Nat), (y ≤ List.length (nmI (psV l) x) ∧ gtFrom (nmI (psV l) x) (lower (List.getD (psV l) x [])) y ∧ (y = 0 ∨ ¬lower (List.getD (psV l) x []) < List.getD (nmI (psV l) x) (y - 1) [])) ∧ (gsRNm8 l r e ro x) ∧ ic x_1 = ic y ∧ True) ∧ ∀ (x_1 : Nat), x_1 ≤ List.length (nmI (psV l) x) ∧ gtFrom (nmI (psV l) x) (lower (List.getD (psV l) x [])) x_1 ∧ (x_1 = 0 ∨ ¬lower (List.getD (psV l) x []) < List.getD (nmI (psV l) x) (x_1 - 1) []) → bif eqI (ic x_1) (0 : Int) then bif decide (List.length (nmI (psV l) x) ≤ List.length (nmI (psV l) x)) then bif leI (ic x_1) (ic (List.length (nmI (psV l) x))) then bif decide (0 = List.length (nmI (psV l) x)) then bif decide (List.length (nmI (psV l) x) ≤ List.length (nmI (psV l) x)) then bif leI (ic x_1) (ic (List.length (nmI (psV l) x))) then bif decide (x_1 = List.length (nmI (psV l) x)) then ((gsRNm0 l r e ro x) ∧ (gsRNm13 l r e ro x) ∧ (gsRNm13 l r e ro x) ∧ True) ∧ ((gsRNm0 l r e ro x) ∧ (gsRNm13 l r e ro x) ∧ True) ∧ True else ((gsRNm0 l r e ro x) ∧ (gsRNm12 l r e ro x x_1) ∧ (gsRNm12 l r e ro x x_1) ∧ True) ∧ ((gsRNm0 l r e ro x) ∧ (gsRNm12 l r e ro x x_1) ∧ True) ∧ True else False else False else bif decide (List.length (nmI (psV l) x) ≤ List.length (nmI (psV l) x)) then bif leI (ic x_1) (ic (List.length (nmI (psV l) x))) then bif decide (x_1 = List.length (nmI (psV l) x)) then (gsRNm10 l r e ro x x_1) ∧ ((gsRNm0 l r e ro x) ∧ (gsRNm7 l r e ro x x_1) ∧ True) ∧ True else (gsRNm9 l r e ro x x_1) ∧ ((gsRNm0 l r e ro x) ∧ (gsRNm6 l r e ro x x_1) ∧ True) ∧ True else False else False else False else False else bif leI (-9223372036854775808 : Int) (ic x_1 - (1 : Int)) && leI (ic x_1 - (1 : Int)) (9223372036854775807 : Int) then bif leI (0 : Int) (ic x_1 - (1 : Int)) && ltI (ic x_1 - (1 : Int)) (ic (List.length (nmI (psV l) x))) then (ts (nmI (psV l) x))[0 + (ic x_1 - (1 : Int)).toNat * 1]? = some (AV.str (List.getD (nmI (psV l) x) (x_1 - 1) [])) ∧ bif !decide (List.getD (nmI (psV l) x) (x_1 - 1) [] = lower (List.getD (psV l) x [])) then bif decide (List.length (nmI (psV l) x) ≤ List.length (nmI (psV l) x)) then bif leI (ic x_1) (ic (List.length (nmI (psV l) x))) then bif decide (0 = List.length (nmI (psV l) x)) then bif decide (List.length (nmI (psV l) x) ≤ List.length (nmI (psV l) x)) then bif leI (ic x_1) (ic (List.length (nmI (psV l) x))) then bif decide (x_1 = List.length (nmI (psV l) x)) then ((gsRNm0 l r e ro x) ∧ (gsRNm13 l r e ro x) ∧ (gsRNm13 l r e ro x) ∧ True) ∧ ((gsRNm0 l r e ro x) ∧ (gsRNm13 l r e ro x) ∧ True) ∧ True else ((gsRNm0 l r e ro x) ∧ (gsRNm12 l r e ro x x_1) ∧ (gsRNm12 l r e ro x x_1) ∧ True) ∧ ((gsRNm0 l r e ro x) ∧ (gsRNm12 l r e ro x x_1) ∧ True) ∧ True else False else False else bif decide (List.length (nmI (psV l) x) ≤ List.length (nmI (psV l) x)) then bif leI (ic x_1) (ic (List.length (nmI (psV l) x))) then bif decide (x_1 = List.length (nmI (psV l) x)) then (gsRNm10 l r e ro x x_1) ∧ ((gsRNm0 l r e ro x) ∧ (gsRNm7 l r e ro x x_1) ∧ True) ∧ True else (gsRNm9 l r e ro x x_1) ∧ ((gsRNm0 l r e ro x) ∧ (gsRNm6 l r e ro x x_1) ∧ True) ∧ True else False else False else False else False else ∃ (_x : Unit), ¬List.Mem starN (List.take (x + 1) (psV l)) ∧ ((bif e.beq e && sameB ro ro then cellsP gqRNm5 (fieldC (l ++ r)) (fieldC (l ++ r)) ∧ True else False) ∧ (cellsP gqRNm5 (ts (psV l)) (ts (psV l)) ∧ True) ∧ (cellsP gqRNm5 (ts (nmI (psV l) (x + 1))) (ts (nmI (psV l) x)) ∧ True) ∧ True) ∧ (0 = 0 ∧ List.length (nmI (psV l) x) = List.length (nmI (psV l) (x + 1)) ∧ List.length (nmI (psV l) x) = List.length (nmI (psV l) (x + 1)) ∧ false = false) ∧ True else False else False else False else False else False) ∧ ∀ (x_1 : Unit), ¬List.Mem starN (List.take (x + 1) (psV l)) → bif leI (ic x + (1 : Int)) (9223372036854775807 : Int) then (∃ (_x : Unit), psV l ≠ [] ∧ List.length (psV l) < List.length (psV l) - x ∧ ((bif e.beq e && sameB ro ro then cellsP gqRNm4 (fieldC (l ++ r)) (fieldC (l ++ r)) ∧ True else False) ∧ (cellsP gqRNm4 (ts (psV l)) (ts (psV l)) ∧ True) ∧ True) ∧ ic x + (1 : Int) = (0 : Int) ∧ False ∧ True) ∨ ∃ (y : Nat), (psV l ≠ [] ∧ 1 ≤ y ∧ y ≤ List.length (psV l) ∧ ¬List.Mem starN (List.take y (psV l))) ∧ List.length (psV l) - y < List.length (psV l) - x ∧ ((bif e.beq e && sameB ro ro then cellsP gqRNm5 (fieldC (l ++ r)) (fieldC (l ++ r)) ∧ True else False) ∧ (cellsP gqRNm5 (ts (psV l)) (ts (psV l)) ∧ True) ∧ (cellsP gqRNm5 (ts (nmI (psV l) y)) (ts (nmI (psV l) (x + 1))) ∧ True) ∧ True) ∧ ic x + (1 : Int) = ic y ∧ (0 = 0 ∧ List.length (nmI (psV l) (x + 1)) = List.length (nmI (psV l) y) ∧ List.length (nmI (psV l) (x + 1)) = List.length (nmI (psV l) y) ∧ false = false) ∧ True else False else (∃ (_x : Unit), List.Mem starN (psV l) ∧ (gsRNm15 l r e ro) ∧ (False ∧ false = true ∧ True) ∧ True) ∨ (∃ (_x : Unit), psV l = [] ∧ (gsRNm15 l r e ro) ∧ (False ∧ false = false ∧ True) ∧ True) ∨ ∃ (_x : Unit), (¬List.Mem starN (psV l) ∧ psV l ≠ []) ∧ ((bif e.beq e && sameB ro ro then cellsP (fun (b : Nat) => [0, 2].getD b 3) (fieldC (l ++ r)) (fieldC (l ++ r)) ∧ True else False) ∧ (cellsP (fun (b : Nat) => [0, 2].getD b 3) (ts (nmsL (psV l))) (ts (nmI (psV l) x)) ∧ True) ∧ True) ∧ ((0 = 0 ∧ List.length (nmI (psV l) x) = List.length (nmsL (psV l)) ∧ List.length (nmI (psV l) x) = List.length (nmsL (psV l)) ∧ false = false) ∧ false = false ∧ True) ∧ True) := by kernel_rfl
theorem nmI_asc (ps : LL) (i : Nat) : (nmI ps i).Pairwise fun x y => x < y := nms_asc _
theorem nmI_mem {ps : LL} {i : Nat} (h : starN ∉ ps.take i) (x : List UInt8) : x ∈ nmI ps i ↔ x ∈ lows (ps.take i) := nms_mem h x
theorem nmI_len (ps : LL) (i : Nat) : (nmI ps i).length ≤ ps.length := by
  have h1 := nms_len (ps.take i)
  have h2 : (ps.take i).length ≤ ps.length := by rw [List.length_take]; omega
  unfold nmI; omega
theorem getD_lt {L : LL} {j : Nat} (h : j < L.length) : L.getD j [] = L[j] := by
  rw [List.getD_eq_getElem?_getD, List.getElem?_eq_getElem h]; rfl
theorem mem_step {ps : LL} {i : Nat} (hi : i < ps.length) (h1 : starN ∉ ps.take i) (h2 : ¬ ps.getD i [] = [42]) (x : List UInt8) : x ∈ nmI ps (i + 1) ↔ x ∈ nmI ps i ∨ x = lower (ps.getD i []) := by
  rw [nmI_mem (not_snoc hi h1 h2), nmI_mem h1, lows_step hi, List.mem_append, List.mem_singleton]
theorem ins_old {ps : LL} {i k : Nat} (hi : i < ps.length) (h1 : starN ∉ ps.take i) (h2 : ¬ ps.getD i [] = [42]) (hk : k ≤ (nmI ps i).length) (h0 : 0 < k) (he : (nmI ps i).getD (k - 1) [] = lower (ps.getD i [])) : nmI ps i = nmI ps (i + 1) := by
  refine asc_unique (nmI_asc _ _) (nmI_asc _ _) fun x => ?_
  rw [mem_step hi h1 h2]
  refine ⟨.inl, fun h => ?_⟩
  rcases h with h | rfl
  · exact h
  · rw [← he]; exact getD_mem (by omega)
theorem ins_new {ps : LL} {i k : Nat} (hi : i < ps.length) (h1 : starN ∉ ps.take i) (h2 : ¬ ps.getD i [] = [42]) (hk : k ≤ (nmI ps i).length) (hg : gtFrom (nmI ps i) (lower (ps.getD i [])) k) (hl : k = 0 ∨ (nmI ps i).getD (k - 1) [] < lower (ps.getD i [])) : (nmI ps i).take k ++ lower (ps.getD i []) :: (nmI ps i).drop k = nmI ps (i + 1) := by
  have ha := nmI_asc ps i
  have hm := mem_step hi h1 h2
  generalize nmI ps i = L at *
  generalize lower (ps.getD i []) = s at *
  refine asc_unique ?_ (nmI_asc _ _) fun x => ?_
  · have hlt : ∀ a ∈ L.take k, a < s := fun a h => by
      obtain ⟨j, hj, rfl⟩ := List.getElem_of_mem h
      have hj2 : j < k := by rw [List.length_take] at hj; omega
      rw [List.getElem_take]
      rcases hl with hl | hl
      · omega
      · rw [getD_lt (by omega)] at hl
        by_cases e : j = k - 1
        · subst e; exact hl
        · exact Std.lt_trans (List.pairwise_iff_getElem.1 ha j (k - 1) (by omega) (by omega) (by omega)) hl
    have hgt : ∀ b ∈ L.drop k, s < b := fun b h => by
      obtain ⟨j, hj, rfl⟩ := List.getElem_of_mem h
      rw [List.length_drop] at hj
      rw [List.getElem_drop]
      have := hg (k + j) (by omega) (by omega)
      rwa [getD_lt (by omega)] at this
    refine List.pairwise_append.2 ⟨ha.sublist (List.take_sublist _ _), List.pairwise_cons.2 ⟨hgt, ha.sublist (List.drop_sublist _ _)⟩, fun a h1 b h2 => ?_⟩
    rcases List.mem_cons.1 h2 with rfl | h2
    · exact hlt a h1
    · exact Std.lt_trans (hlt a h1) (hgt b h2)
  · rw [hm, List.mem_append, List.mem_cons]
    have : x ∈ L ↔ x ∈ L.take k ∨ x ∈ L.drop k := by rw [← List.mem_append, List.take_append_drop]
    rw [this]
    constructor
    · rintro (h | h | h)
      · exact .inl (.inl h)
      · exact .inr h
      · exact .inl (.inr h)
    · rintro ((h | h) | h)
      · exact .inl h
      · exact .inr (.inr h)
      · exact .inr (.inl h)
theorem gt_step {L : LL} {s : List UInt8} {k : Nat} (hk : 0 < k) (h : gtFrom L s k) (h2 : s < L.getD (k - 1) []) : gtFrom L s (k - 1) := fun j h3 h4 => by
  by_cases e : j = k - 1
  · subst e; exact h2
  · exact h j (by omega) h4
theorem cmp_gt (c s : List UInt8) : (!(Op.bytesLess c s || c == s)) = decide (s < c) := by
  rw [Go.Proofs.bytesLess_eq]
  by_cases h : s < c
  · have h1 : ¬ c < s := fun h' => absurd (Std.lt_trans h h') (Std.lt_irrefl)
    have h2 : c ≠ s := fun e => by subst e; exact Std.lt_irrefl h
    simp [h, h1, h2]
  · by_cases h1 : c < s
    · simp [h, h1]
    · have : c = s := List.le_antisymm (List.not_lt.1 h) (List.not_lt.1 h1)
      subst this; simp [h]
theorem lt_of_not {c s : List UInt8} (h1 : ¬ s < c) (h2 : ¬ c = s) : c < s := lt_of_le_ne (List.not_lt.1 h1) h2
theorem ts_take (L : LL) (k : Nat) : List.take k (ts L) = ts (L.take k) := by simp [ts]
theorem ts_drop (L : LL) (k : Nat) : List.drop k (ts L) = ts (L.drop k) := by simp [ts]
theorem ts_cons (s : List UInt8) (L : LL) : AV.str s :: ts L = ts (s :: L) := rfl
theorem ts_sing (s : List UInt8) : [AV.str s] = ts [s] := rfl
theorem ts_app' (a b : LL) : ts a ++ ts b = ts (a ++ b) := (ts_app a b).symm
theorem g0T (l r : FL) (e : Nat) (ro : Bool) (x : Nat) : gsRNm0 l r e ro x = True := eq_true ⟨rfl, rfl, rfl, trivial⟩
theorem cells_eq (σ : Nat → Nat) {a b : LL} (h : b = a) : cellsP σ (ts a) (ts b) := by rw [h, cells_tsr]; trivial
theorem takeAll (L : LL) (k : Nat) : (L.drop k).take (L.length - k) = L.drop k := List.take_of_length_le (by rw [List.length_drop]; omega)
theorem nmg4_ok {l r : FL} {e : Nat} {ro : Bool} {x : Nat} (hs : starN ∉ (psV l).take (x + 1)) (hM : nmI (psV l) (x + 1) = [lower ((psV l).getD x [])]) : gsRNm4 l r e ro x := by
  unfold gsRNm4
  simp only [cond_F, sameB_self, Nat.beq_refl, g0T, ts_sing, hM]
  simp only [cond_P, leI_t, leI_f, ltI_t, ltI_f, eqI_t, eqI_f, and_t, not_t, not_f, dec_t, dec_f, Nat.zero_add, Nat.mul_one, List.drop_zero]
  simp only [cells_tsr, cells_fld, take_ts, ts_length, and_true, true_and, and_false, false_and, or_false, false_or, exists_false, Nat.le_refl, exists_const, false_implies, not_false_eq_true, true_implies, fldT_at, fldOk_at, getS_ts]
  exact ⟨hs, rfl, rfl⟩
theorem nmg1_ok {l r : FL} {e : Nat} {ro : Bool} {x : Nat} (hs : starN ∉ (psV l).take (x + 1)) (hb : (psV l).length ≤ 824633720832) (hM : nmI (psV l) (x + 1) = lower ((psV l).getD x []) :: nmI (psV l) x) : gsRNm1 l r e ro x 0 := by
  have hL := nmI_len (psV l) x
  unfold gsRNm1
  simp only [cond_F, sameB_self, Nat.beq_refl, g0T, ts_sing, hM, Nat.sub_zero]
  simp only [cond_P, leI_t, leI_f, ltI_t, ltI_f, eqI_t, eqI_f, and_t, not_t, not_f, dec_t, dec_f, Nat.zero_add, Nat.mul_one, List.drop_zero]
  simp only [ts_take, ts_drop, List.drop_zero, List.take_length, ts_one, ts_cons, ts_length, List.length_cons]
  simp only [cells_tsr, cells_fld, take_ts, ts_length, and_true, true_and, and_false, false_and, or_false, false_or, exists_false, Nat.le_refl, exists_const, false_implies, not_false_eq_true, true_implies, fldT_at, fldOk_at, getS_ts]
  refine ⟨fun h0 => ⟨hs, cells_eq _ ?_, by omega, by omega⟩, fun h0 => ⟨by omega, ⟨by omega, by omega⟩, hs, by omega, by omega⟩⟩
  rw [List.length_eq_zero_iff.1 h0]
theorem nmg3_ok {l r : FL} {e : Nat} {ro : Bool} {x k : Nat} (hs : starN ∉ (psV l).take (x + 1)) (hb : (psV l).length ≤ 824633720832) (hk : k = (nmI (psV l) x).length) (hM : nmI (psV l) (x + 1) = nmI (psV l) x ++ [lower ((psV l).getD x [])]) : gsRNm3 l r e ro x k := by
  have hL := nmI_len (psV l) x
  unfold gsRNm3
  subst hk
  simp only [cond_F, sameB_self, Nat.beq_refl, g0T, ts_sing, hM]
  simp only [cond_P, leI_t, leI_f, ltI_t, ltI_f, eqI_t, eqI_f, and_t, not_t, not_f, dec_t, dec_f, Nat.zero_add, Nat.mul_one, List.drop_zero]
  simp only [ts_take, ts_drop, List.nil_append, List.drop_zero, List.take_length, ts_one, ts_app', ts_length, List.length_append, List.length_cons, List.length_nil]
  simp only [cells_tsr, cells_fld, take_ts, ts_length, and_true, true_and, and_false, false_and, or_false, false_or, exists_false, Nat.le_refl, exists_const, false_implies, not_false_eq_true, true_implies, fldT_at, fldOk_at, getS_ts]
  exact ⟨by omega, ⟨by omega, by omega⟩, hs⟩
theorem nmg2_ok {l r : FL} {e : Nat} {ro : Bool} {x k : Nat} (hs : starN ∉ (psV l).take (x + 1)) (hb : (psV l).length ≤ 824633720832) (hk : k ≤ (nmI (psV l) x).length) (hM : nmI (psV l) (x + 1) = (nmI (psV l) x).take k ++ lower ((psV l).getD x []) :: (nmI (psV l) x).drop k) : gsRNm2 l r e ro x k := by
  have hL := nmI_len (psV l) x
  unfold gsRNm2
  simp only [cond_F, sameB_self, Nat.beq_refl, g0T, ts_sing, hM]
  simp only [cond_P, leI_t, leI_f, ltI_t, ltI_f, eqI_t, eqI_f, and_t, not_t, not_f, dec_t, dec_f, Nat.zero_add, Nat.mul_one, List.drop_zero]
  simp only [ts_take, ts_drop, List.nil_append, List.drop_zero, takeAll, ts_one, ts_app', ts_length, List.length_append, List.length_cons, List.length_nil, List.length_take, List.length_drop, Nat.min_eq_left hk]
  simp only [cells_tsr, cells_fld, take_ts, ts_length, and_true, true_and, and_false, false_and, or_false, false_or, exists_false, Nat.le_refl, exists_const, false_implies, not_false_eq_true, true_implies, fldT_at, fldOk_at, getS_ts]
  refine ⟨by omega, ⟨by omega, by omega⟩, by omega, fun h0 => ⟨hs, cells_eq _ ?_, by omega, by omega⟩, fun h0 => ⟨by omega, ⟨by omega, by omega⟩, hs, cells_eq _ ?_, by omega, by omega⟩⟩
  · rw [List.drop_of_length_le (by omega)]
  · simp
theorem nmg6_ok {l r : FL} {e : Nat} {ro : Bool} {x k : Nat} (hs : starN ∉ (psV l).take (x + 1)) (hb : (psV l).length ≤ 824633720832) (hk : k ≤ (nmI (psV l) x).length) (hM : nmI (psV l) (x + 1) = (nmI (psV l) x).take k ++ lower ((psV l).getD x []) :: (nmI (psV l) x).drop k) : gsRNm6 l r e ro x k ∧ gsRNm9 l r e ro x k := by
  have hL := nmI_len (psV l) x
  have h2 := nmg2_ok (r := r) (e := e) (ro := ro) hs hb hk hM
  have h1 : k = 0 → gsRNm1 l r e ro x k := fun h0 => by
    subst h0
    exact nmg1_ok hs hb hM
  have h6 : gsRNm6 l r e ro x k := by
    unfold gsRNm6
    simp only [cond_F, g0T]
    simp only [cond_P, leI_t, leI_f, ltI_t, ltI_f, eqI_t, eqI_f, and_t, not_t, not_f, dec_t, dec_f, Nat.zero_add, Nat.mul_one, List.drop_zero]
    simp only [ts_length, true_and, and_true]
    exact ⟨hk, h1, fun h0 => ⟨by omega, ⟨by omega, by omega⟩, h2⟩⟩
  refine ⟨h6, ?_⟩
  unfold gsRNm9
  simp only [cond_F, g0T]
  simp only [cond_P, leI_t, leI_f, ltI_t, ltI_f, eqI_t, eqI_f, and_t, not_t, not_f, dec_t, dec_f, Nat.zero_add, Nat.mul_one, List.drop_zero]
  simp only [ts_length, true_and, and_true]
  exact ⟨⟨hk, h1, fun h0 => ⟨by omega, ⟨by omega, by omega⟩, h2⟩⟩, h6⟩
theorem nmg7_ok {l r : FL} {e : Nat} {ro : Bool} {x k : Nat} (hs : starN ∉ (psV l).take (x + 1)) (hb : (psV l).length ≤ 824633720832) (hk : k = (nmI (psV l) x).length) (hM : nmI (psV l) (x + 1) = nmI (psV l) x ++ [lower ((psV l).getD x [])]) : gsRNm7 l r e ro x k ∧ gsRNm10 l r e ro x k := by
  have hL := nmI_len (psV l) x
  have h2 := nmg3_ok (r := r) (e := e) (ro := ro) hs hb hk hM
  have h1 : k = 0 → gsRNm4 l r e ro x := fun h0 => by
    subst h0
    refine nmg4_ok hs ?_
    rw [hM, List.length_eq_zero_iff.1 hk.symm]; rfl
  have h6 : gsRNm7 l r e ro x k := by
    unfold gsRNm7
    simp only [cond_F, g0T]
    simp only [cond_P, leI_t, leI_f, ltI_t, ltI_f, eqI_t, eqI_f, and_t, not_t, not_f, dec_t, dec_f, Nat.zero_add, Nat.mul_one, List.drop_zero]
    simp only [ts_length, true_and, and_true]
    exact ⟨by omega, h1, fun h0 => ⟨by omega, ⟨by omega, by omega⟩, h2⟩⟩
  refine ⟨h6, ?_⟩
  unfold gsRNm10
  simp only [cond_F, g0T]
  simp only [cond_P, leI_t, leI_f, ltI_t, ltI_f, eqI_t, eqI_f, and_t, not_t, not_f, dec_t, dec_f, Nat.zero_add, Nat.mul_one, List.drop_zero]
  simp only [ts_length, true_and, and_true]
  exact ⟨⟨by omega, h1, fun h0 => ⟨by omega, ⟨by omega, by omega⟩, h2⟩⟩, h6⟩
theorem nmI_zero (ps : LL) : nmI ps 0 = [] := List.length_eq_zero_iff.1 (by have := nms_len (ps.take 0); unfold nmI; simp at this ⊢; exact this)
theorem nmI_all {ps : LL} {i : Nat} (h : ps.length ≤ i) : nmI ps i = nmsL ps := by unfold nmI; rw [List.take_of_length_le h]
theorem nmI_one {ps : LL} (h : 0 < ps.length) (h2 : ¬ ps.getD 0 [] = [42]) : nmI ps 1 = [lower (ps.getD 0 [])] := by
  have := ins_new (k := 0) h (by simp) h2 (Nat.zero_le _) (by rw [nmI_zero]; intro j _ h; cases h) (.inl rfl)
  rw [nmI_zero] at this
  exact this.symm
theorem g8T (l r : FL) (e : Nat) (ro : Bool) (x : Nat) : gsRNm8 l r e ro x = True := by
  unfold gsRNm8; simp only [cond_F, sameB_self, Nat.beq_refl, Bool.and_self, cells_tsr, cells_fld, and_self]
theorem g11T (l r : FL) (e : Nat) (ro : Bool) : gsRNm11 l r e ro = True := by
  unfold gsRNm11; simp only [cond_F, sameB_self, Nat.beq_refl, Bool.and_self, cells_tsr, cells_fld, and_self]
theorem g14T (l r : FL) (e : Nat) (ro : Bool) : gsRNm14 l r e ro = True := by
  unfold gsRNm14; simp only [cond_F, sameB_self, Nat.beq_refl, Bool.and_self, cells_tsr, cells_fld, and_self]
theorem g15T (l r : FL) (e : Nat) (ro : Bool) : gsRNm15 l r e ro = True := by
  unfold gsRNm15; simp only [cond_F, sameB_self, Nat.beq_refl, Bool.and_self, cells_tsr, cells_fld, and_self]
theorem g16T (l r : FL) (e : Nat) (ro : Bool) : gsRNm16 l r e ro = True := by
  unfold gsRNm16; simp only [cond_F, sameB_self, Nat.beq_refl, Bool.and_self, cells_tsr, cells_fld, and_self]
theorem g5_ok {l r : FL} {e : Nat} {ro : Bool} (h : 0 < (psV l).length) (h2 : ¬ (psV l).getD 0 [] = [42]) : gsRNm5 l r e ro := by
  unfold gsRNm5
  have hs : starN ∉ (psV l).take 1 := not_snoc (x := 0) h (by simp) h2
  simp only [cond_F, sameB_self, Nat.beq_refl, Bool.and_self, ts_sing, nmI_one h h2, cells_tsr, cells_fld, and_self, exists_const, and_true, true_and]
  exact ⟨hs, rfl⟩
theorem psV_eq (l : FL) : listF l [86, 97, 114, 121] = psV l := rfl
theorem rnN_vc : vRnN := by
  rw [vRnN_eq]; simp
theorem rn_vc (l r : FL) (e : Nat) (ro : Bool) (c : Nat) (ex : Bool) (hl : totL l ≤ 274877906944) : vRn l r e ro c ex := by
  rw [vRn_eq]
  have hle : ∀ x, x < (psV l).length → le40 ((psV l).getD x []) = true := fun x hx => listV_le hl _ hx
  have hb : (psV l).length ≤ 824633720832 := by
    have h1 := parts_len (allF l [86, 97, 114, 121])
    have h2 := totF_all l [86, 97, 114, 121]
    unfold psV listF; omega
  simp only [ic, cond_F, sameB_self, Nat.beq_refl, g0T, g8T, g11T, g14T, g15T, g16T, fldT_at, fldOk_at, psV_eq, Bool.and_self, cells_tsr, cells_fld, and_self, and_true, true_and, and_false, false_and, or_false, false_or, exists_false, exists_const]
  simp only [cond_P, leI_t, leI_f, ltI_t, ltI_f, eqI_t, eqI_f, and_t, not_t, not_f, dec_t, dec_f, Nat.zero_add, Nat.mul_one, List.drop_zero]
  simp only [cells_tsr, cells_fld, take_ts, ts_length, and_true, true_and, and_false, false_and, or_false, false_or, exists_false, Nat.le_refl, exists_const, false_implies, not_false_eq_true, true_implies, fldT_at, fldOk_at, getS_ts]
  have hm : ∀ x, (nmI (psV l) x).length ≤ (psV l).length := nmI_len _
  have star : ∀ x, x < (psV l).length → (psV l).getD x [] = [42] → List.Mem starN (psV l) := fun x hx h => by
    have := getD_mem hx
    rw [h] at this
    exact this
  have pos : ∀ (_ : psV l ≠ []), 0 < (psV l).length := fun h => List.length_pos_iff.2 h
  refine ⟨⟨hl, fun h => h, fun h => h⟩, fun _ h => ⟨h, fun _ _ => .inr h⟩, fun _ hne => ⟨hne, fun _ _ => ⟨fun _ => ⟨⟨by have := pos hne; omega, ts_get (pos hne), fun h => .inl (star 0 (pos hne) h), fun h => ⟨by have := pos hne; omega, ts_get (pos hne), hle 0 (pos hne), g5_ok (pos hne) h⟩⟩, fun _ h => ⟨1, ⟨hne, Nat.le_refl _, pos hne, h⟩, by have := pos hne; omega, cells_eq _ rfl, rfl, rfl⟩⟩, fun h => absurd (pos hne) (by omega)⟩, ?_⟩⟩
  rintro x ⟨_, hx1, hx2, hs⟩
  refine ⟨fun hlt => ?_, fun hge => ⟨⟨?_, hne⟩, cells_eq _ (nmI_all (by omega)), by rw [nmI_all (by omega)]⟩⟩
  · have hx : x < (psV l).length := by omega
    refine ⟨⟨hlt, ts_get hx, fun h => .inl (star x hx h), fun h2 => ⟨hlt, ts_get hx, hle x hx, ⟨⟨_, ⟨Nat.le_refl _, fun j h3 h4 => by omega⟩, rfl⟩, ?_⟩, ?_⟩⟩, fun _ h => ⟨by omega, x + 1, ⟨hne, by omega, by omega, h⟩, by omega, cells_eq _ rfl, by omega, rfl⟩⟩
    · rintro k ⟨hk, hg⟩
      refine ⟨fun h0 => ?_, fun h0 => ⟨k, ⟨hk, hg, .inl (by omega)⟩, rfl⟩⟩
      have hm' := hm x
      have ek : ((k : Int) - 1).toNat = k - 1 := by omega
      have hd := cmp_gt (List.getD (nmI (psV l) x) (k - 1) []) (lower (List.getD (psV l) x []))
      refine ⟨⟨by omega, by omega⟩, ⟨by omega, by omega⟩, by rw [ek]; exact ts_get (by omega), fun hc => ⟨⟨by omega, by omega⟩, k - 1, ⟨by omega, ?_⟩, by omega, by omega⟩, fun hc => ⟨k, ⟨hk, hg, .inr ?_⟩, rfl⟩⟩
      · rw [hc] at hd
        exact gt_step (by omega) hg (of_decide_eq_true hd.symm)
      · rw [hc] at hd
        exact of_decide_eq_false hd.symm
    · rintro k ⟨hk, hg, hl0⟩
      have hm' := hm x
      have hs1 := not_snoc hx hs h2
      have ins : (k = 0 ∨ List.getD (nmI (psV l) x) (k - 1) [] < lower (List.getD (psV l) x [])) →
          (k : Int) ≤ ((nmI (psV l) x).length : Int) ∧ (0 = (nmI (psV l) x).length → (k : Int) ≤ ((nmI (psV l) x).length : Int) ∧ (k = (nmI (psV l) x).length → gsRNm13 l r e ro x) ∧ (¬ k = (nmI (psV l) x).length → gsRNm12 l r e ro x k)) ∧
          (¬ 0 = (nmI (psV l) x).length → (k : Int) ≤ ((nmI (psV l) x).length : Int) ∧ (k = (nmI (psV l) x).length → gsRNm10 l r e ro x k ∧ gsRNm7 l r e ro x k) ∧ (¬ k = (nmI (psV l) x).length → gsRNm9 l r e ro x k ∧ gsRNm6 l r e ro x k)) := fun hl => by
        have hM := (ins_new hx hs h2 hk hg hl).symm
        have hM2 : k = (nmI (psV l) x).length → nmI (psV l) (x + 1) = nmI (psV l) x ++ [lower ((psV l).getD x [])] := fun e => by
          rw [hM, e, List.take_length, List.drop_length]
        refine ⟨by omega, fun h0 => ⟨by omega, fun e' => ?_, fun e' => by omega⟩, fun h0 => ⟨by omega, fun e => (nmg7_ok hs1 hb e (hM2 e)).symm, fun e => (nmg6_ok hs1 hb hk hM).symm⟩⟩
        have h4 := nmg4_ok (r := r) (e := e) (ro := ro) hs1 (by rw [hM2 e', List.length_eq_zero_iff.1 h0.symm]; rfl)
        exact ⟨by rw [g0T]; trivial, ⟨by rw [g0T]; trivial, h4, trivial⟩, trivial⟩
      refine ⟨fun h0 => ins (.inl (by omega)), fun h0 => ?_⟩
      have ek : ((k : Int) - 1).toNat = k - 1 := by omega
      refine ⟨⟨by omega, by omega⟩, ⟨by omega, by omega⟩, by rw [ek]; exact ts_get (by omega), fun h3 => ins (.inr (lt_of_not (hl0.resolve_left (by omega)) h3)), fun h3 => ?_⟩
      have he := ins_old hx hs h2 hk (by omega) h3
      exact ⟨hs1, cells_eq _ he, by rw [← he]⟩
  · rw [List.take_of_length_le (by omega)] at hs; exact hs

/- What the queue of timers does: order, up, down. -/
import Derived.Test.YtainjcpocodehaaProg
import Derived.Test.YtainjcpocodehaaSc
import Derived.Test.YtainjcpocodehaaTmQ
set_option linter.unusedSimpArgs false
set_option linter.unusedVariables false
namespace Go.Proofs.Ytainjcpocodehaa
open Go Go.Ve
set_option maxRecDepth 20000
theorem names0 : Try.prog.funcs.all (fun fn => !(fn.name == "runtime.NumGoroutine")) = true := by kernel_rfl
theorem mixed0 : Try.prog.follows .mixedOrders = true := by kernel_rfl
noncomputable def faC (f : FuncId) : Option FA := match Nat.beq f 86 with | true => some ⟨[], [], []⟩ | false => match Nat.beq f 87 with | true => some ⟨[], [], []⟩ | false => match Nat.beq f 78 with | true => some ⟨[], [], []⟩ | false => none
noncomputable def VC0 : VE := ⟨Try.prog, noS, noO, faC⟩
def cmI (a b : Int) : Int := if a < b then -1 else if b < a then 1 else 0
def gCmI (args : List AV) : Option (Bool × AV) := match args with | [.int .i64 x, .int .i64 y] => some (true, .int .i64 (cmI x y)) | _ => none
noncomputable def TCm : List (Nat × SpecE) := [(79, flatE gCmI), (80, flatE gCmI)]
noncomputable def VCm : VE := ⟨Try.prog, tabS TCm noS, noO, faC⟩
def gOrd (args : List AV) : Option (Bool × AV) := match args with | [.agg [.int .i64 a, .int .i64 b], .agg [.int .i64 c, .int .i64 d]] => some (true, .int .i64 (ordV (a, b) (c, d))) | _ => none
def qB (most : Int) (hb k c mb eq : Nat) : ABlk := .cells [.int .i64 most, .sl hb 0 k c false, .map mb] eq false
def qH (most : Int) (k c eq : Nat) (row : TL) (eh : Nat) (m : MP) : AH := [qB most 1 k c 2 eq, .cells (tC row) eh false, .map (emap m) false]
noncomputable def TOr : List (Nat × SpecE) := [(65, flatE gOrd)]
noncomputable def faU (f : FuncId) : Option FA := match Nat.beq f 73 with | true => some ⟨[(1, .tail 7), (2, .tail 7)], [], []⟩ | false => none
noncomputable def VU : VE := ⟨Try.prog, tabS TOr noS, noO, faU⟩
noncomputable def aUp (h g : TL) (m : MP) (i eh : Nat) : Anns := [(1, [.mk (TL × MP × Nat) (fun x => [(1, .int .i64 x.2.2)]) (fun x => some [keepB, .cells (tC (x.1 ++ g)) eh false, .map (emap x.2.1) false, keepB]) (fun x => UpI h i (pk h i) x) (fun x => x.2.2) gcB gcB (fun x => [(22, .int .i64 0), (36, .int .i64 0), (42, .int .i64 0), (24, tmA (pk x.1 ((x.2.2 - 1) / 2))), (38, tmA (pk x.1 ((x.2.2 - 1) / 2)))]) (fun _ => [])])]
noncomputable def aDown (h g : TL) (m : MP) (i eh : Nat) : Anns := [(1, [.mk (TL × MP × Nat) (fun x => [(1, .int .i64 x.2.2)]) (fun x => some [keepB, .cells (tC (x.1 ++ g)) eh false, .map (emap x.2.1) false, keepB]) (fun x => DownI h (pk h i) x) (fun x => h.length - x.2.2) gcB gcB (fun x => [(32, tmA (pk x.1 (2 * x.2.2 + 2))), (39, tmA (pk x.1 (2 * x.2.2 + 1)))])
  (fun x => [(7000004, [.mk Nat (fun k => [(5, .int .i64 k)]) (fun _ => none) (fun k => DownK x.1 x.2.2 k) (fun _ => 0) gcB gcB (fun k => [(59, tmA (pk x.1 k)), (72, tmA (pk x.1 k))]) (fun _ => [])])])])]

noncomputable def vC64  (x y : Int) : Prop := vcF VC0 [] 40 [] [] 79 [.int .i64 x, .int .i64 y] [] (Go.Ve.one (.int .i64 (cmI x y)))
noncomputable def vCin  (x y : Int) : Prop := vcF VC0 [] 40 [] [] 80 [.int .i64 x, .int .i64 y] [] (Go.Ve.one (.int .i64 (cmI x y)))
noncomputable def vOrd  (a b c d : Int) : Prop := vcF VCm [(1, .tail 10)] 60 [] [] 65 [.agg [.int .i64 a, .int .i64 b], .agg [.int .i64 c, .int .i64 d]] [] (Go.Ve.one (.int .i64 (ordV (a, b) (c, d))))
noncomputable def vUp  (h g : TL) (m : MP) (i : Nat) (most : Int) (c eq eh : Nat) : Prop := vcF VU [] 60 (aUp h g m i eh) [(11, tmA (pk h i))] 61 [.ptr 0 0, .int .i64 i] (qH most h.length c eq (h ++ g) eh m) [⟨TL × MP × Nat, fun _ => .tuple [], fun x => qH most h.length c eq (x.1 ++ g) eh x.2.1, fun x => UpPost h i x.1 x.2.1 x.2.2, gcB⟩]
noncomputable def vDown  (h g : TL) (m : MP) (i : Nat) (most : Int) (c eq eh : Nat) : Prop := vcF VU [] 60 (aDown h g m i eh) [(12, tmA (pk h i))] 74 [.ptr 0 0, .int .i64 i] (qH most h.length c eq (h ++ g) eh m) [⟨TL × MP, fun _ => .tuple [], fun x => qH most h.length c eq (x.1 ++ g) eh x.2, fun x => DownPost h x.1 x.2, gcB⟩]
def gqTmA0 : Nat → Nat := (fun (b : Nat) => [0, 1, 2].getD b 5)
def gqTmA1 : Nat → Nat := (fun (b : Nat) => [0, 1, 2, 3].getD b 4)
theorem vC64_eq  (x y : Int) : vC64 x y = (bif !eqI x x then bif !eqI y y then ∃ (_x : Unit), True ∧ True ∧ (0 : Int) = cmI x y ∧ True else ∃ (_x : Unit), True ∧ True ∧ (-1 : Int) = cmI x y ∧ True else bif !eqI y y then ∃ (_x : Unit), True ∧ True ∧ (1 : Int) = cmI x y ∧ True else bif ltI x y then ∃ (_x : Unit), True ∧ True ∧ (-1 : Int) = cmI x y ∧ True else bif ltI y x then ∃ (_x : Unit), True ∧ True ∧ (1 : Int) = cmI x y ∧ True else ∃ (_x : Unit), True ∧ True ∧ (0 : Int) = cmI x y ∧ True) := by kernel_rfl
theorem vCin_eq  (x y : Int) : vCin x y = (bif !eqI x x then bif !eqI y y then ∃ (_x : Unit), True ∧ True ∧ (0 : Int) = cmI x y ∧ True else ∃ (_x : Unit), True ∧ True ∧ (-1 : Int) = cmI x y ∧ True else bif !eqI y y then ∃ (_x : Unit), True ∧ True ∧ (1 : Int) = cmI x y ∧ True else bif ltI x y then ∃ (_x : Unit), True ∧ True ∧ (-1 : Int) = cmI x y ∧ True else bif ltI y x then ∃ (_x : Unit), True ∧ True ∧ (1 : Int) = cmI x y ∧ True else ∃ (_x : Unit), True ∧ True ∧ (0 : Int) = cmI x y ∧ True) := by kernel_rfl
theorem vOrd_eq  (a b c d : Int) : vOrd a b c d = (bif !eqI (cmI b d) (0 : Int) then ∃ (_x : Unit), True ∧ True ∧ cmI b d = ordV (a, b) (c, d) ∧ True else bif !eqI (cmI a c) (0 : Int) then ∃ (_x : Unit), True ∧ True ∧ cmI a c = ordV (a, b) (c, d) ∧ True else ∃ (_x : Unit), True ∧ True ∧ (0 : Int) = ordV (a, b) (c, d) ∧ True) := by kernel_rfl
theorem vUp_eq  (h g : TL) (m : MP) (i : Nat) (most : Int) (c eq eh : Nat) : vUp h g m i most c eq eh = (bif ltI (ic i) (ic (List.length h)) then bif decide (0 + i * 2 + 2 ≤ (tC (h ++ g)).length) then List.take 2 (List.drop (0 + i * 2) (tC (h ++ g))) = [AV.int IntKind.i64 (pk h i).fst, AV.int IntKind.i64 (pk h i).snd] ∧ (∃ (x : TL × MP × Nat), UpI h i (pk h i) x ∧ ((bif eq.beq eq && true then (most = most ∧ (0 = 0 ∧ List.length h = List.length h ∧ c = c ∧ false = false) ∧ True ∧ True) ∧ True else False) ∧ (bif eh.beq eh && true then cellsP (fun (b : Nat) => [0, 1, 2, 3].getD b 4) (tC (x.fst ++ g)) (tC (h ++ g)) ∧ True else False) ∧ (entsP (fun (b : Nat) => [0, 1, 2, 3].getD b 4) (emap x.snd.fst) (emap m) ∧ True) ∧ (((pk h i).fst = (pk h i).fst ∧ (pk h i).snd = (pk h i).snd ∧ True) ∧ True) ∧ True) ∧ ic i = ic x.snd.snd ∧ True) ∧ ∀ (x : TL × MP × Nat), UpI h i (pk h i) x → bif ltI (0 : Int) (ic x.snd.snd) then bif leI (-9223372036854775808 : Int) (ic x.snd.snd - (1 : Int)) && leI (ic x.snd.snd - (1 : Int)) (9223372036854775807 : Int) then bif leI (-9223372036854775808 : Int) ((ic x.snd.snd - (1 : Int)).tdiv (2 : Int)) && leI ((ic x.snd.snd - (1 : Int)).tdiv (2 : Int)) (9223372036854775807 : Int) then bif leI (0 : Int) ((ic x.snd.snd - (1 : Int)).tdiv (2 : Int)) && ltI ((ic x.snd.snd - (1 : Int)).tdiv (2 : Int)) (ic (List.length h)) then bif decide (0 + ((ic x.snd.snd - (1 : Int)).tdiv (2 : Int)).toNat * 2 + 2 ≤ (tC (x.fst ++ g)).length) then List.take 2 (List.drop (0 + ((ic x.snd.snd - (1 : Int)).tdiv (2 : Int)).toNat * 2) (tC (x.fst ++ g))) = [AV.int IntKind.i64 (pk x.fst ((x.snd.snd - 1) / 2)).fst, AV.int IntKind.i64 (pk x.fst ((x.snd.snd - 1) / 2)).snd] ∧ bif ltI (ordV ((pk h i).fst, (pk h i).snd) ((pk x.fst ((x.snd.snd - 1) / 2)).fst, (pk x.fst ((x.snd.snd - 1) / 2)).snd)) (0 : Int) then bif leI (-9223372036854775808 : Int) (ic x.snd.snd - (1 : Int)) && leI (ic x.snd.snd - (1 : Int)) (9223372036854775807 : Int) then bif leI (-9223372036854775808 : Int) ((ic x.snd.snd - (1 : Int)).tdiv (2 : Int)) && leI ((ic x.snd.snd - (1 : Int)).tdiv (2 : Int)) (9223372036854775807 : Int) then bif leI (0 : Int) ((ic x.snd.snd - (1 : Int)).tdiv (2 : Int)) && ltI ((ic x.snd.snd - (1 : Int)).tdiv (2 : Int)) (ic (List.length h)) then bif decide (0 + ((ic x.snd.snd - (1 : Int)).tdiv (2 : Int)).toNat * 2 + 2 ≤ (tC (x.fst ++ g)).length) then List.take 2 (List.drop (0 + ((ic x.snd.snd - (1 : Int)).tdiv (2 : Int)).toNat * 2) (tC (x.fst ++ g))) = [AV.int IntKind.i64 (pk x.fst ((x.snd.snd - 1) / 2)).fst, AV.int IntKind.i64 (pk x.fst ((x.snd.snd - 1) / 2)).snd] ∧ bif ltI (ic x.snd.snd) (ic (List.length h)) then bif decide (0 + x.snd.snd * 2 + 2 ≤ (tC (x.fst ++ g)).length) then keysK (AV.int IntKind.i64 (pk x.fst ((x.snd.snd - 1) / 2)).fst) (emap x.snd.fst) ∧ bif leI (-9223372036854775808 : Int) (ic x.snd.snd - (1 : Int)) && leI (ic x.snd.snd - (1 : Int)) (9223372036854775807 : Int) then bif leI (-9223372036854775808 : Int) ((ic x.snd.snd - (1 : Int)).tdiv (2 : Int)) && leI ((ic x.snd.snd - (1 : Int)).tdiv (2 : Int)) (9223372036854775807 : Int) then ∃ (y : TL × MP × Nat), UpI h i (pk h i) y ∧ y.snd.snd < x.snd.snd ∧ ((bif eq.beq eq && true then (most = most ∧ (0 = 0 ∧ List.length h = List.length h ∧ c = c ∧ false = false) ∧ True ∧ True) ∧ True else False) ∧ (bif eh.beq eh && true then cellsP (fun (b : Nat) => [0, 1, 2, 3].getD b 5) (tC (y.fst ++ g)) (setManyF (tC (x.fst ++ g)) (0 + x.snd.snd * 2) [AV.int IntKind.i64 (pk x.fst ((x.snd.snd - 1) / 2)).fst, AV.int IntKind.i64 (pk x.fst ((x.snd.snd - 1) / 2)).snd]) ∧ True else False) ∧ (entsP (fun (b : Nat) => [0, 1, 2, 3].getD b 5) (emap y.snd.fst) (putK (AV.int IntKind.i64 (pk x.fst ((x.snd.snd - 1) / 2)).fst) (AV.int IntKind.i64 (ic x.snd.snd)) (emap x.snd.fst)) ∧ True) ∧ (((pk h i).fst = (pk h i).fst ∧ (pk h i).snd = (pk h i).snd ∧ True) ∧ True) ∧ True) ∧ (ic x.snd.snd - (1 : Int)).tdiv (2 : Int) = ic y.snd.snd ∧ True else False else False else False else False else False else False else False else False else bif ltI (ic x.snd.snd) (ic (List.length h)) then bif decide (0 + x.snd.snd * 2 + 2 ≤ (tC (x.fst ++ g)).length) then keysK (AV.int IntKind.i64 (pk h i).fst) (emap x.snd.fst) ∧ ∃ (x_1 : TL × MP × Nat), UpPost h i x_1.fst x_1.snd.fst x_1.snd.snd ∧ ((bif eq.beq eq && true then (most = most ∧ (0 = 0 ∧ List.length h = List.length h ∧ c = c ∧ false = false) ∧ True ∧ True) ∧ True else False) ∧ (bif eh.beq eh && true then cellsP gqTmA0 (tC (x_1.fst ++ g)) (setManyF (tC (x.fst ++ g)) (0 + x.snd.snd * 2) [AV.int IntKind.i64 (pk h i).fst, AV.int IntKind.i64 (pk h i).snd]) ∧ True else False) ∧ (entsP gqTmA0 (emap x_1.snd.fst) (putK (AV.int IntKind.i64 (pk h i).fst) (AV.int IntKind.i64 (ic x.snd.snd)) (emap x.snd.fst)) ∧ True) ∧ True) ∧ True ∧ True else False else False else False else False else False else False else bif ltI (ic x.snd.snd) (ic (List.length h)) then bif decide (0 + x.snd.snd * 2 + 2 ≤ (tC (x.fst ++ g)).length) then keysK (AV.int IntKind.i64 (pk h i).fst) (emap x.snd.fst) ∧ ∃ (x_1 : TL × MP × Nat), UpPost h i x_1.fst x_1.snd.fst x_1.snd.snd ∧ ((bif eq.beq eq && true then (most = most ∧ (0 = 0 ∧ List.length h = List.length h ∧ c = c ∧ false = false) ∧ True ∧ True) ∧ True else False) ∧ (bif eh.beq eh && true then cellsP gqTmA0 (tC (x_1.fst ++ g)) (setManyF (tC (x.fst ++ g)) (0 + x.snd.snd * 2) [AV.int IntKind.i64 (pk h i).fst, AV.int IntKind.i64 (pk h i).snd]) ∧ True else False) ∧ (entsP gqTmA0 (emap x_1.snd.fst) (putK (AV.int IntKind.i64 (pk h i).fst) (AV.int IntKind.i64 (ic x.snd.snd)) (emap x.snd.fst)) ∧ True) ∧ True) ∧ True ∧ True else False else False else False else False) := by kernel_rfl
theorem vDown_eq  (h g : TL) (m : MP) (i : Nat) (most : Int) (c eq eh : Nat) : vDown h g m i most c eq eh = (bif ltI (ic i) (ic (List.length h)) then bif decide (0 + i * 2 + 2 ≤ (tC (h ++ g)).length) then List.take 2 (List.drop (0 + i * 2) (tC (h ++ g))) = [AV.int IntKind.i64 (pk h i).fst, AV.int IntKind.i64 (pk h i).snd] ∧ (∃ (x : TL × MP × Nat), DownI h (pk h i) x ∧ ((bif eq.beq eq && true then (most = most ∧ (0 = 0 ∧ List.length h = List.length h ∧ c = c ∧ false = false) ∧ True ∧ True) ∧ True else False) ∧ (bif eh.beq eh && true then cellsP gqTmA1 (tC (x.fst ++ g)) (tC (h ++ g)) ∧ True else False) ∧ (entsP gqTmA1 (emap x.snd.fst) (emap m) ∧ True) ∧ (((pk h i).fst = (pk h i).fst ∧ (pk h i).snd = (pk h i).snd ∧ True) ∧ True) ∧ True) ∧ ic i = ic x.snd.snd ∧ True) ∧ ∀ (x : TL × MP × Nat), DownI h (pk h i) x → bif leI ((2 : Int) * ic x.snd.snd) (9223372036854775807 : Int) then bif leI ((2 : Int) * ic x.snd.snd + (1 : Int)) (9223372036854775807 : Int) then (bif leI ((2 : Int) * ic x.snd.snd + (1 : Int) + (1 : Int)) (9223372036854775807 : Int) then bif ltI ((2 : Int) * ic x.snd.snd + (1 : Int) + (1 : Int)) (ic (List.length h)) then bif leI ((2 : Int) * ic x.snd.snd + (1 : Int) + (1 : Int)) (9223372036854775807 : Int) then bif ltI ((2 : Int) * ic x.snd.snd + (1 : Int) + (1 : Int)) (ic (List.length h)) then bif decide (0 + ((2 : Int) * ic x.snd.snd + (1 : Int) + (1 : Int)).toNat * 2 + 2 ≤ (tC (x.fst ++ g)).length) then List.take 2 (List.drop (0 + ((2 : Int) * ic x.snd.snd + (1 : Int) + (1 : Int)).toNat * 2) (tC (x.fst ++ g))) = [AV.int IntKind.i64 (pk x.fst (2 * x.snd.snd + 2)).fst, AV.int IntKind.i64 (pk x.fst (2 * x.snd.snd + 2)).snd] ∧ bif ltI ((2 : Int) * ic x.snd.snd + (1 : Int)) (ic (List.length h)) then bif decide (0 + ((2 : Int) * ic x.snd.snd + (1 : Int)).toNat * 2 + 2 ≤ (tC (x.fst ++ g)).length) then List.take 2 (List.drop (0 + ((2 : Int) * ic x.snd.snd + (1 : Int)).toNat * 2) (tC (x.fst ++ g))) = [AV.int IntKind.i64 (pk x.fst (2 * x.snd.snd + 1)).fst, AV.int IntKind.i64 (pk x.fst (2 * x.snd.snd + 1)).snd] ∧ bif ltI (ordV ((pk x.fst (2 * x.snd.snd + 2)).fst, (pk x.fst (2 * x.snd.snd + 2)).snd) ((pk x.fst (2 * x.snd.snd + 1)).fst, (pk x.fst (2 * x.snd.snd + 1)).snd)) (0 : Int) then bif leI ((2 : Int) * ic x.snd.snd + (1 : Int) + (1 : Int)) (9223372036854775807 : Int) then ∃ (y : Nat), DownK x.fst x.snd.snd y ∧ ((bif eq.beq eq && true then (most = most ∧ (0 = 0 ∧ List.length h = List.length h ∧ c = c ∧ false = false) ∧ True ∧ True) ∧ True else False) ∧ (bif eh.beq eh && true then cellsP gqTmA1 (tC (x.fst ++ g)) (tC (x.fst ++ g)) ∧ True else False) ∧ (entsP gqTmA1 (emap x.snd.fst) (emap x.snd.fst) ∧ True) ∧ (((pk h i).fst = (pk h i).fst ∧ (pk h i).snd = (pk h i).snd ∧ True) ∧ True) ∧ True) ∧ (2 : Int) * ic x.snd.snd + (1 : Int) + (1 : Int) = ic y ∧ True else False else ∃ (y : Nat), DownK x.fst x.snd.snd y ∧ ((bif eq.beq eq && true then (most = most ∧ (0 = 0 ∧ List.length h = List.length h ∧ c = c ∧ false = false) ∧ True ∧ True) ∧ True else False) ∧ (bif eh.beq eh && true then cellsP gqTmA1 (tC (x.fst ++ g)) (tC (x.fst ++ g)) ∧ True else False) ∧ (entsP gqTmA1 (emap x.snd.fst) (emap x.snd.fst) ∧ True) ∧ (((pk h i).fst = (pk h i).fst ∧ (pk h i).snd = (pk h i).snd ∧ True) ∧ True) ∧ True) ∧ (2 : Int) * ic x.snd.snd + (1 : Int) = ic y ∧ True else False else False else False else False else False else ∃ (y : Nat), DownK x.fst x.snd.snd y ∧ ((bif eq.beq eq && true then (most = most ∧ (0 = 0 ∧ List.length h = List.length h ∧ c = c ∧ false = false) ∧ True ∧ True) ∧ True else False) ∧ (bif eh.beq eh && true then cellsP gqTmA1 (tC (x.fst ++ g)) (tC (x.fst ++ g)) ∧ True else False) ∧ (entsP gqTmA1 (emap x.snd.fst) (emap x.snd.fst) ∧ True) ∧ (((pk h i).fst = (pk h i).fst ∧ (pk h i).snd = (pk h i).snd ∧ True) ∧ True) ∧ True) ∧ (2 : Int) * ic x.snd.snd + (1 : Int) = ic y ∧ True else False) ∧ ∀ (x_1 : Nat), DownK x.fst x.snd.snd x_1 → bif leI (ic (List.length h)) (ic x_1) then bif ltI (ic x.snd.snd) (ic (List.length h)) then bif decide (0 + x.snd.snd * 2 + 2 ≤ (tC (x.fst ++ g)).length) then keysK (AV.int IntKind.i64 (pk h i).fst) (emap x.snd.fst) ∧ ∃ (x_2 : TL × MP), DownPost h x_2.fst x_2.snd ∧ ((bif eq.beq eq && true then (most = most ∧ (0 = 0 ∧ List.length h = List.length h ∧ c = c ∧ false = false) ∧ True ∧ True) ∧ True else False) ∧ (bif eh.beq eh && true then cellsP gqTmA0 (tC (x_2.fst ++ g)) (setManyF (tC (x.fst ++ g)) (0 + x.snd.snd * 2) [AV.int IntKind.i64 (pk h i).fst, AV.int IntKind.i64 (pk h i).snd]) ∧ True else False) ∧ (entsP gqTmA0 (emap x_2.snd) (putK (AV.int IntKind.i64 (pk h i).fst) (AV.int IntKind.i64 (ic x.snd.snd)) (emap x.snd.fst)) ∧ True) ∧ True) ∧ True ∧ True else False else False else bif ltI (ic x_1) (ic (List.length h)) then bif decide (0 + x_1 * 2 + 2 ≤ (tC (x.fst ++ g)).length) then List.take 2 (List.drop (0 + x_1 * 2) (tC (x.fst ++ g))) = [AV.int IntKind.i64 (pk x.fst x_1).fst, AV.int IntKind.i64 (pk x.fst x_1).snd] ∧ bif leI (0 : Int) (ordV ((pk x.fst x_1).fst, (pk x.fst x_1).snd) ((pk h i).fst, (pk h i).snd)) then bif ltI (ic x.snd.snd) (ic (List.length h)) then bif decide (0 + x.snd.snd * 2 + 2 ≤ (tC (x.fst ++ g)).length) then keysK (AV.int IntKind.i64 (pk h i).fst) (emap x.snd.fst) ∧ ∃ (x_2 : TL × MP), DownPost h x_2.fst x_2.snd ∧ ((bif eq.beq eq && true then (most = most ∧ (0 = 0 ∧ List.length h = List.length h ∧ c = c ∧ false = false) ∧ True ∧ True) ∧ True else False) ∧ (bif eh.beq eh && true then cellsP gqTmA0 (tC (x_2.fst ++ g)) (setManyF (tC (x.fst ++ g)) (0 + x.snd.snd * 2) [AV.int IntKind.i64 (pk h i).fst, AV.int IntKind.i64 (pk h i).snd]) ∧ True else False) ∧ (entsP gqTmA0 (emap x_2.snd) (putK (AV.int IntKind.i64 (pk h i).fst) (AV.int IntKind.i64 (ic x.snd.snd)) (emap x.snd.fst)) ∧ True) ∧ True) ∧ True ∧ True else False else False else bif ltI (ic x_1) (ic (List.length h)) then bif decide (0 + x_1 * 2 + 2 ≤ (tC (x.fst ++ g)).length) then List.take 2 (List.drop (0 + x_1 * 2) (tC (x.fst ++ g))) = [AV.int IntKind.i64 (pk x.fst x_1).fst, AV.int IntKind.i64 (pk x.fst x_1).snd] ∧ bif ltI (ic x.snd.snd) (ic (List.length h)) then bif decide (0 + x.snd.snd * 2 + 2 ≤ (tC (x.fst ++ g)).length) then keysK (AV.int IntKind.i64 (pk x.fst x_1).fst) (emap x.snd.fst) ∧ ∃ (y : TL × MP × Nat), DownI h (pk h i) y ∧ List.length h - y.snd.snd < List.length h - x.snd.snd ∧ ((bif eq.beq eq && true then (most = most ∧ (0 = 0 ∧ List.length h = List.length h ∧ c = c ∧ false = false) ∧ True ∧ True) ∧ True else False) ∧ (bif eh.beq eh && true then cellsP (fun (b : Nat) => [0, 1, 2, 3].getD b 5) (tC (y.fst ++ g)) (setManyF (tC (x.fst ++ g)) (0 + x.snd.snd * 2) [AV.int IntKind.i64 (pk x.fst x_1).fst, AV.int IntKind.i64 (pk x.fst x_1).snd]) ∧ True else False) ∧ (entsP (fun (b : Nat) => [0, 1, 2, 3].getD b 5) (emap y.snd.fst) (putK (AV.int IntKind.i64 (pk x.fst x_1).fst) (AV.int IntKind.i64 (ic x.snd.snd)) (emap x.snd.fst)) ∧ True) ∧ (((pk h i).fst = (pk h i).fst ∧ (pk h i).snd = (pk h i).snd ∧ True) ∧ True) ∧ True) ∧ ic x_1 = ic y.snd.snd ∧ True else False else False else False else False else False else False else False else False else False else False) := by kernel_rfl
theorem oneS {f : FuncId} {args : List AV} {v : AV} (h : SC Try.prog f args [] (outE (Go.Ve.one v))) : SC Try.prog f args [] (fun v' H' => v' = v ∧ H' = []) :=
  h.mono fun v' H' h => by
    obtain ⟨_, _, h1, h2⟩ := outE_one h
    exact ⟨h1, h2⟩
theorem cm_vc (x y : Int) : vC64 x y ∧ vCin x y := by
  have e : (!eqI x x) = false := by rw [not_f, eqI_t]
  have e2 : (!eqI y y) = false := by rw [not_f, eqI_t]
  refine ⟨?_, ?_⟩
  · rw [vC64_eq, e, e2]
    simp only [cond_false]
    unfold cmI
    refine cond_intro (fun h => ⟨(), trivial, trivial, ?_, trivial⟩) fun h => cond_intro (fun h2 => ⟨(), trivial, trivial, ?_, trivial⟩) fun h2 => ⟨(), trivial, trivial, ?_, trivial⟩
    · rw [ltI_t] at h; rw [if_pos h]
    · rw [ltI_f] at h; rw [ltI_t] at h2; rw [if_neg (by omega), if_pos h2]
    · rw [ltI_f] at h h2; rw [if_neg (by omega), if_neg (by omega)]
  · rw [vCin_eq, e, e2]
    simp only [cond_false]
    unfold cmI
    refine cond_intro (fun h => ⟨(), trivial, trivial, ?_, trivial⟩) fun h => cond_intro (fun h2 => ⟨(), trivial, trivial, ?_, trivial⟩) fun h2 => ⟨(), trivial, trivial, ?_, trivial⟩
    · rw [ltI_t] at h; rw [if_pos h]
    · rw [ltI_f] at h; rw [ltI_t] at h2; rw [if_neg (by omega), if_pos h2]
    · rw [ltI_f] at h h2; rw [if_neg (by omega), if_neg (by omega)]
theorem ord_vc (a b c d : Int) : vOrd a b c d := by
  rw [vOrd_eq]
  have e : ordV (a, b) (c, d) = if cmI b d = 0 then cmI a c else cmI b d := by
    unfold ordV cmI
    dsimp only
    repeat' split
    all_goals first | rfl | omega
  refine cond_intro (fun h => ⟨(), trivial, trivial, ?_, trivial⟩) fun h => cond_intro (fun h2 => ⟨(), trivial, trivial, ?_, trivial⟩) fun h2 => ⟨(), trivial, trivial, ?_, trivial⟩
  · rw [not_t, eqI_f] at h; rw [e, if_neg h]
  · rw [not_f, eqI_t] at h; rw [e, if_pos h]
  · rw [not_f, eqI_t] at h h2; rw [e, if_pos h, h2]
theorem TCm_ok : SpecOk Try.prog (tabS TCm noS) := by
  refine tabS_ok (fun p hp => ?_) noS_ok
  simp only [TCm, List.mem_cons, List.mem_nil_iff, or_false] at hp
  rcases hp with rfl | rfl
  · refine flatE_ok fun args b v hg hb => ?_
    unfold gCmI at hg
    split at hg
    · cases hg
      exact ⟨rfl, rfl, oneS (SC.ofF (V := VC0) names0 mixed0 noS_ok noO_ok (cm_vc _ _).1)⟩
    · cases hg
  · refine flatE_ok fun args b v hg hb => ?_
    unfold gCmI at hg
    split at hg
    · cases hg
      exact ⟨rfl, rfl, oneS (SC.ofF (V := VC0) names0 mixed0 noS_ok noO_ok (cm_vc _ _).2)⟩
    · cases hg
theorem gOrd_ok : EntryOk Try.prog 65 (flatE gOrd) := by
  refine flatE_ok fun args b v hg hb => ?_
  unfold gOrd at hg
  split at hg
  · cases hg
    exact ⟨rfl, rfl, oneS (SC.ofF (V := VCm) names0 mixed0 TCm_ok noO_ok (ord_vc _ _ _ _))⟩
  · cases hg
theorem TOr_ok : SpecOk Try.prog (tabS TOr noS) := by
  refine tabS_ok (fun p hp => ?_) noS_ok
  simp only [TOr, List.mem_cons, List.mem_nil_iff, or_false] at hp
  subst hp
  exact gOrd_ok
theorem emap_flat (m : MP) : ((emap m).all fun p => p.1.flat && p.2.flat) = true := by
  rw [List.all_eq_true]
  intro e he
  obtain ⟨p, _, rfl⟩ := List.mem_map.1 he
  rfl
theorem q_ok (eq n c : Nat) (most : Int) : (bif eq.beq eq && true then (most = most ∧ ((0 : Nat) = 0 ∧ n = n ∧ c = c ∧ false = false) ∧ True ∧ True) ∧ True else False) := by
  rw [Nat.beq_refl]
  exact ⟨⟨rfl, ⟨rfl, rfl, rfl, rfl⟩, trivial, trivial⟩, trivial⟩
theorem r_ok (σ : Nat → Nat) (eh : Nat) {a : TL} {s : List AV} (h : s = tC a) : (bif eh.beq eh && true then cellsP σ (tC a) s ∧ True else False) := by
  rw [Nat.beq_refl]
  exact ⟨cellsP_flat (tC_flat _) h, trivial⟩
theorem e_ok (σ : Nat → Nat) {a : MP} {s : List (AV × AV)} (h : s = emap a) : entsP σ (emap a) s ∧ True := ⟨entsP_flat (emap_flat _) h, trivial⟩
theorem t_ok (t : Tm) : (t.1 = t.1 ∧ t.2 = t.2 ∧ True) ∧ True := ⟨⟨rfl, rfl, trivial⟩, trivial⟩
theorem lt_ok {i n : Nat} (h : i < n) : ltI (ic i) (ic n) = true := by rw [ltI_t]; exact Int.ofNat_lt.2 h
theorem len_ok {a g : TL} {j n : Nat} (ha : a.length = n) (hj : j < n) : decide (0 + j * 2 + 2 ≤ (tC (a ++ g)).length) = true := by
  rw [tC_len, List.length_append]; exact decide_eq_true (by omega)
theorem drop_ok {a g : TL} {j n : Nat} (ha : a.length = n) (hj : j < n) : List.take 2 (List.drop (0 + j * 2) (tC (a ++ g))) = [AV.int IntKind.i64 (pk a j).fst, AV.int IntKind.i64 (pk a j).snd] := by
  rw [Nat.zero_add, tC_drop _ _ (by rw [List.length_append]; omega), pk_app (by omega)]; rfl
theorem put_ok {a g : TL} {j n : Nat} (ha : a.length = n) (hj : j < n) (t : Tm) : setManyF (tC (a ++ g)) (0 + j * 2) [AV.int IntKind.i64 t.1, AV.int IntKind.i64 t.2] = tC (a.set j t ++ g) := by
  have := tC_set (a ++ g) j t (by rw [List.length_append]; omega)
  rw [Nat.zero_add]
  refine this.trans ?_
  rw [List.set_append_left _ _ (by omega)]
theorem rng_ok {n : Int} (h1 : -9223372036854775808 ≤ n) (h2 : n ≤ 9223372036854775807) : (leI (-9223372036854775808) n && leI n 9223372036854775807) = true := by
  rw [and_t, leI_t, leI_t]; exact ⟨h1, h2⟩
theorem up_vc (h g : TL) (m : MP) (i : Nat) (most : Int) (c eq eh : Nat) (p : UpPre h m i) : vUp h g m i most c eq eh := by
  rw [vUp_eq]
  have hi := p.lt
  have hs := p.sz
  refine need_intro (lt_ok hi) (need_intro (len_ok rfl hi) ⟨drop_ok rfl hi, ⟨(h, m, i), UpI.init p, ⟨q_ok _ _ _ _, r_ok _ _ rfl, e_ok _ rfl, t_ok _, trivial⟩, rfl, trivial⟩, fun x u => ?_⟩)
  obtain ⟨h1, m1, i1⟩ := x
  have hlen := u.len
  have hi1 := u.lt
  dsimp only at hlen hi1 ⊢
  refine cond_intro (fun h0 => ?_) fun h0 => ?_
  · rw [ltI_t] at h0
    have h0 : 0 < i1 := Int.ofNat_lt.1 h0
    have e : (ic i1 - 1).tdiv 2 = ic ((i1 - 1) / 2) := half h0
    have hp : (i1 - 1) / 2 < h.length := by omega
    have c1 : (leI (-9223372036854775808) (ic i1 - 1) && leI (ic i1 - 1) 9223372036854775807) = true := rng_ok (show -9223372036854775808 ≤ (i1 : Int) - 1 by omega) (show (i1 : Int) - 1 ≤ 9223372036854775807 by omega)
    have c2 : (leI (-9223372036854775808) (ic ((i1 - 1) / 2)) && leI (ic ((i1 - 1) / 2)) 9223372036854775807) = true := rng_ok (show -9223372036854775808 ≤ (((i1 - 1) / 2 : Nat) : Int) by omega) (show (((i1 - 1) / 2 : Nat) : Int) ≤ 9223372036854775807 by omega)
    have c3 : (leI 0 (ic ((i1 - 1) / 2)) && ltI (ic ((i1 - 1) / 2)) (ic h.length)) = true := by
      rw [and_t, leI_t]; exact ⟨(show (0 : Int) ≤ (((i1 - 1) / 2 : Nat) : Int) by omega), lt_ok hp⟩
    rw [e, c1, c2, c3, show (ic ((i1 - 1) / 2)).toNat = (i1 - 1) / 2 from rfl]
    dsimp only [cond_true]
    refine need_intro (len_ok hlen hp) ⟨drop_ok hlen hp, cond_intro (fun hl => ?_) fun hl => ?_⟩
    · rw [ltI_t, ord_neg] at hl
      have hu := u.step p.dn h0 hl
      refine need_intro (len_ok hlen hp) ⟨drop_ok hlen hp, need_intro (lt_ok hi1) (need_intro (len_ok hlen hi1) ⟨emap_keys _ _, ?_⟩)⟩
      exact ⟨_, hu, (show (i1 - 1) / 2 < i1 by omega), ⟨q_ok _ _ _ _, r_ok _ _ (put_ok hlen hi1 _), e_ok _ (put_mput _ _ _), t_ok _, trivial⟩, rfl, trivial⟩
    · rw [ltI_f] at hl
      have hl : tlt (pk h i) (pk h1 ((i1 - 1) / 2)) = false := by rw [← Bool.not_eq_true, ← ord_neg]; exact Int.not_lt.2 hl
      have hu := u.done p.dn rfl (.inr hl)
      exact need_intro (lt_ok hi1) (need_intro (len_ok hlen hi1) ⟨emap_keys _ _, (_, _, i1), hu, ⟨q_ok _ _ _ _, r_ok _ _ (put_ok hlen hi1 _), e_ok _ (put_mput _ _ _), trivial⟩, trivial, trivial⟩)
  · rw [ltI_f] at h0
    have h0 : i1 = 0 := by
      have h0 : (i1 : Int) ≤ 0 := h0
      omega
    have hu := u.done p.dn rfl (.inl h0)
    exact need_intro (lt_ok hi1) (need_intro (len_ok hlen hi1) ⟨emap_keys _ _, (_, _, i1), hu, ⟨q_ok _ _ _ _, r_ok _ _ (put_ok hlen hi1 _), e_ok _ (put_mput _ _ _), trivial⟩, trivial, trivial⟩)
theorem down_vc (h g : TL) (m : MP) (i : Nat) (most : Int) (c eq eh : Nat) (p : DownPre h m i) : vDown h g m i most c eq eh := by
  rw [vDown_eq]
  have hi := p.lt
  have hs := p.sz
  refine need_intro (lt_ok hi) (need_intro (len_ok rfl hi) ⟨drop_ok rfl hi, ⟨(h, m, i), DownI.init p, ⟨q_ok _ _ _ _, r_ok _ _ rfl, e_ok _ rfl, t_ok _, trivial⟩, rfl, trivial⟩, fun x u => ?_⟩)
  obtain ⟨h1, m1, i1⟩ := x
  have hlen := u.len
  have hi1 := u.lt
  dsimp only at hlen hi1 ⊢
  have e1 : 2 * ic i1 + 1 = ic (2 * i1 + 1) := by show 2 * (i1 : Int) + 1 = ((2 * i1 + 1 : Nat) : Int); omega
  have e2 : ic (2 * i1 + 1) + 1 = ic (2 * i1 + 2) := by show ((2 * i1 + 1 : Nat) : Int) + 1 = ((2 * i1 + 2 : Nat) : Int); omega
  have c0 : leI (2 * ic i1) 9223372036854775807 = true := by rw [leI_t]; show 2 * (i1 : Int) ≤ _; omega
  have c1 : leI (ic (2 * i1 + 1)) 9223372036854775807 = true := by rw [leI_t]; show ((2 * i1 + 1 : Nat) : Int) ≤ _; omega
  have c2 : leI (ic (2 * i1 + 2)) 9223372036854775807 = true := by rw [leI_t]; show ((2 * i1 + 2 : Nat) : Int) ≤ _; omega
  rw [e1, e2, c0, c1, c2, show (ic (2 * i1 + 2)).toNat = 2 * i1 + 2 from rfl, show (ic (2 * i1 + 1)).toNat = 2 * i1 + 1 from rfl]
  dsimp only [cond_true]
  have M : ∀ σ : Nat → Nat, ((bif eq.beq eq && true then (most = most ∧ ((0 : Nat) = 0 ∧ List.length h = List.length h ∧ c = c ∧ false = false) ∧ True ∧ True) ∧ True else False) ∧ (bif eh.beq eh && true then cellsP σ (tC (h1 ++ g)) (tC (h1 ++ g)) ∧ True else False) ∧ (entsP σ (emap m1) (emap m1) ∧ True) ∧ (((pk h i).fst = (pk h i).fst ∧ (pk h i).snd = (pk h i).snd ∧ True) ∧ True) ∧ True) := fun σ => ⟨q_ok _ _ _ _, r_ok _ _ rfl, e_ok _ rfl, t_ok _, trivial⟩
  refine ⟨cond_intro (fun k2 => ?_) fun k2 => ?_, fun k ck => cond_intro (fun hk => ?_) fun hk => ?_⟩
  · have k2' := k2
    rw [ltI_t] at k2'
    have k2' : 2 * i1 + 2 < h.length := Int.ofNat_lt.1 k2'
    rw [k2]
    dsimp only [cond_true]
    refine need_intro (len_ok hlen k2') ⟨drop_ok hlen k2', need_intro (lt_ok (by omega)) (need_intro (len_ok hlen (by omega)) ⟨drop_ok hlen (by omega), cond_intro (fun hl => ?_) fun hl => ?_⟩)⟩
    · rw [ltI_t, ord_neg] at hl
      exact ⟨2 * i1 + 2, DownK.right (by omega) hl, M _, rfl, trivial⟩
    · rw [ltI_f] at hl
      have hl : tlt (pk h1 (2 * i1 + 2)) (pk h1 (2 * i1 + 1)) = false := by rw [← Bool.not_eq_true, ← ord_neg]; exact Int.not_lt.2 hl
      exact ⟨2 * i1 + 1, DownK.left (.inr hl), M _, rfl, trivial⟩
  · rw [ltI_f] at k2
    have k2 : h.length ≤ 2 * i1 + 2 := Int.ofNat_le.1 k2
    exact ⟨2 * i1 + 1, DownK.left (.inl (by omega)), M _, rfl, trivial⟩
  · rw [leI_t] at hk
    have hk : h.length ≤ k := Int.ofNat_le.1 hk
    have hu := u.done p.dn ck (.inl (by dsimp only; omega))
    exact need_intro (lt_ok hi1) (need_intro (len_ok hlen hi1) ⟨emap_keys _ _, (_, _), hu, ⟨q_ok _ _ _ _, r_ok _ _ (put_ok hlen hi1 _), e_ok _ (put_mput _ _ _), trivial⟩, trivial, trivial⟩)
  · rw [leI_f] at hk
    have hk : k < h.length := Int.ofNat_lt.1 hk
    refine need_intro (lt_ok hk) (need_intro (len_ok hlen hk) ⟨drop_ok hlen hk, cond_intro (fun hl => ?_) fun hl => ?_⟩)
    · rw [leI_t, ord_nonneg] at hl
      have hu := u.done p.dn ck (.inr hl)
      exact need_intro (lt_ok hi1) (need_intro (len_ok hlen hi1) ⟨emap_keys _ _, (_, _), hu, ⟨q_ok _ _ _ _, r_ok _ _ (put_ok hlen hi1 _), e_ok _ (put_mput _ _ _), trivial⟩, trivial, trivial⟩)
    · rw [leI_f, ord_neg] at hl
      have hu := u.step p.dn ck (by dsimp only; omega) hl
      have hki : i1 < k := by rcases ck.or with h | h <;> omega
      refine need_intro (lt_ok hk) (need_intro (len_ok hlen hk) ⟨drop_ok hlen hk, need_intro (lt_ok hi1) (need_intro (len_ok hlen hi1) ⟨emap_keys _ _, ?_⟩)⟩)
      exact ⟨_, hu, (show h.length - k < h.length - i1 by omega), ⟨q_ok _ _ _ _, r_ok _ _ (put_ok hlen hi1 _), e_ok _ (put_mput _ _ _), t_ok _, trivial⟩, rfl, trivial⟩

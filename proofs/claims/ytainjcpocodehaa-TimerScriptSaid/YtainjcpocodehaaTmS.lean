/- What slices.Collect answers for timers. -/
import Derived.Test.YtainjcpocodehaaTmD
set_option linter.unusedSimpArgs false
set_option linter.unusedVariables false
namespace Go.Proofs.Ytainjcpocodehaa
open Go Go.Ve
set_option maxRecDepth 20000
noncomputable def aVl (l g : TL) : Anns := [(1, [
  .mk Unit (fun _ => [(7, .int .i64 0)]) (fun _ => none) (fun _ => True) (fun _ => l.length) gcB gcB (fun _ => [(10, tmA (pk l 0))]) (fun _ => []),
  .mk Nat (fun i => [(7, .int .i64 i)]) (fun i => some [keepB, keepB, .cells [.sl 5 0 i i false] 0 false, keepB, keepB, .cells (tC (l.take i)) eD false]) (fun i => 1 ≤ i ∧ i ≤ l.length) (fun i => l.length - i) (some [999997, 2]) (some [999997, 2]) (fun i => [(10, tmA (pk l i))]) (fun _ => [])])]
noncomputable def faCo (l g : TL) (f : FuncId) : Option FA := match Nat.beq f 77 with | true => some ⟨[], aVl l g, []⟩ | false => some ⟨[], [], []⟩
noncomputable def VCo (l g : TL) : VE := ⟨Try.prog, noS, noO, faCo l g⟩

noncomputable def vCoN  (eb : Nat) : Prop := vcF (VCo [] []) [] 60 [] [] 75 [.fn (.func 77) [] [.ptr 0 0]] [.cells [.nilsl] eb false] [⟨Unit, fun _ => .nilsl, fun _ => [.cells [.nilsl] eb false], fun _ => True, gcB⟩]
noncomputable def vCo  (l g : TL) (c : Nat) (ex : Bool) (eh eb : Nat) (ro : Bool) : Prop := vcF (VCo l g) [] 60 [] [] 75 [.fn (.func 77) [] [.ptr 1 0]] [.cells (tC (l ++ g)) eh ro, .cells [.sl 0 0 l.length c ex] eb false] [⟨Unit, fun _ => .nilsl, fun _ => [.cells (tC (l ++ g)) eh ro, .cells [.sl 0 0 l.length c ex] eb false], fun _ => l = [], gcB⟩, ⟨Unit, fun _ => .sl 2 0 l.length l.length false, fun _ => [.cells (tC (l ++ g)) eh ro, .cells [.sl 0 0 l.length c ex] eb false, .cells (tC l) eD false], fun _ => l ≠ [], gcB⟩]
def gcTmS0 : Code := Code.block 1 (Code.region 3 { toList := [{ dst := some 8, op := Op.load 85 (Operand.tmp 2), type := 85, pos := "iter.go:52", after := { toList := [] }, guard := none }, { dst := some 9, op := Op.load 90 (Operand.tmp 5), type := 90, pos := "iter.go:52", after := { toList := [] }, guard := none }, { dst := some 10, op := Op.buildSlice 85 1 { toList := [(0, Operand.tmp 9)] }, type := 85, pos := "iter.go:52", after := { toList := [{ on := 1, ground := Ground.data }] }, guard := none }, { dst := some 11, op := Op.call { callee := Callee.builtin Builtin.append, args := { toList := [Operand.tmp 8, Operand.tmp 10] }, argTypes := { toList := [85, 85] } }, type := 85, pos := "iter.go:52", after := { toList := [{ on := 0, ground := Ground.data }, { on := 2, ground := Ground.data }] }, guard := none }, { dst := none, op := Op.store 85 (Operand.tmp 2) (Operand.tmp 11), type := 0, pos := "iter.go:52", after := { toList := [{ on := 3, ground := Ground.data }, { on := 3, ground := Ground.chain }, { on := 0, ground := Ground.phase }, { on := 1, ground := Ground.phase }, { on := 2, ground := Ground.phase }, { on := 3, ground := Ground.phase }] }, guard := none }] } false)
def gcTmS1 : Code := Code.region 2 { toList := [{ dst := some 5, op := Op.alloc 90, type := 0, pos := "iter.go:51", after := { toList := [] }, guard := none }, { dst := none, op := Op.store 90 (Operand.tmp 5) (Operand.tmp 7), type := 0, pos := "iter.go:51", after := { toList := [{ on := 0, ground := Ground.data }, { on := 0, ground := Ground.phase }] }, guard := none }] } false
theorem vCoN_eq  (eb : Nat) : vCoN eb = (((∃ (_x : Unit), True ∧ ((bif eb.beq eb && true then (True ∧ True) ∧ True else False) ∧ ((True ∧ True) ∧ True) ∧ True ∧ ((({ toList := [7] } : Array Tmp) = { toList := [7] } ∧ gcTmS1 = gcTmS1 ∧ gcTmS0 = gcTmS0) ∧ LoopState.ready = LoopState.ready ∧ (none : Option Code) = none ∧ (True ∧ (Fn.func 77 = Fn.func 77 ∧ True ∧ 0 = 0 ∧ True) ∧ 0 = 0 ∧ True ∧ True ∧ True ∧ (Fn.func 77 = Fn.func 77 ∧ True ∧ 0 = 0 ∧ True) ∧ True ∧ True ∧ True ∧ True ∧ True ∧ True ∧ True) ∧ True) ∧ True) ∧ (0 : Int) = (0 : Int) ∧ True) ∨ ∃ (x : Nat), (1 ≤ x ∧ x ≤ 0) ∧ False) ∧ (∀ (x : Unit), True → ∃ (_x : Unit), True ∧ ((bif eb.beq eb && true then (True ∧ True) ∧ True else False) ∧ True) ∧ True ∧ True) ∧ ∀ (x : Nat), 1 ≤ x ∧ x ≤ 0 → False) := by kernel_rfl
theorem vCo_eq  (l g : TL) (c : Nat) (ex : Bool) (eh eb : Nat) (ro : Bool) : vCo l g c ex eh eb ro = (((∃ (_x : Unit), True ∧ ((bif eh.beq eh && sameB ro ro then cellsP (fun (b : Nat) => [0, 1, 2, 3, 4].getD b 5) (tC (l ++ g)) (tC (l ++ g)) ∧ True else False) ∧ (bif eb.beq eb && true then ((0 = 0 ∧ List.length l = List.length l ∧ c = c ∧ ex = ex) ∧ True) ∧ True else False) ∧ ((True ∧ True) ∧ True) ∧ True ∧ ((({ toList := [7] } : Array Tmp) = { toList := [7] } ∧ gcTmS1 = gcTmS1 ∧ gcTmS0 = gcTmS0) ∧ LoopState.ready = LoopState.ready ∧ (none : Option Code) = none ∧ (True ∧ (Fn.func 77 = Fn.func 77 ∧ True ∧ 0 = 0 ∧ True) ∧ 0 = 0 ∧ True ∧ True ∧ True ∧ (Fn.func 77 = Fn.func 77 ∧ True ∧ 0 = 0 ∧ True) ∧ True ∧ True ∧ True ∧ True ∧ True ∧ True ∧ True) ∧ True) ∧ True) ∧ (0 : Int) = (0 : Int) ∧ True) ∨ ∃ (x : Nat), (1 ≤ x ∧ x ≤ List.length l) ∧ False) ∧ (∀ (x : Unit), True → bif ltI (0 : Int) (ic (List.length l)) then bif ltI (0 : Int) (ic (List.length l)) then bif decide (2 ≤ (tC (l ++ g)).length) then List.take 2 (List.drop 0 (tC (l ++ g))) = [AV.int IntKind.i64 (pk l 0).fst, AV.int IntKind.i64 (pk l 0).snd] ∧ ((∃ (_x : Unit), True ∧ List.length l < List.length l ∧ ((bif eh.beq eh && sameB ro ro then cellsP (fun (b : Nat) => [0, 1, 2, 3, 4].getD b 9) (tC (l ++ g)) (tC (l ++ g)) ∧ True else False) ∧ (bif eb.beq eb && true then ((0 = 0 ∧ List.length l = List.length l ∧ c = c ∧ ex = ex) ∧ True) ∧ True else False) ∧ ((False ∧ True) ∧ True) ∧ True ∧ ((({ toList := [7] } : Array Tmp) = { toList := [7] } ∧ gcTmS1 = gcTmS1 ∧ gcTmS0 = gcTmS0) ∧ LoopState.ready = LoopState.ready ∧ (none : Option Code) = none ∧ (True ∧ (Fn.func 77 = Fn.func 77 ∧ True ∧ 0 = 0 ∧ True) ∧ 0 = 0 ∧ True ∧ True ∧ True ∧ (Fn.func 77 = Fn.func 77 ∧ True ∧ 0 = 0 ∧ True) ∧ True ∧ True ∧ True ∧ True ∧ True ∧ True ∧ True) ∧ True) ∧ True) ∧ (1 : Int) = (0 : Int) ∧ True) ∨ ∃ (y : Nat), (1 ≤ y ∧ y ≤ List.length l) ∧ List.length l - y < List.length l ∧ ((bif eh.beq eh && sameB ro ro then cellsP (fun (b : Nat) => [0, 1, 2, 3, 4, 8].getD b 9) (tC (l ++ g)) (tC (l ++ g)) ∧ True else False) ∧ (bif eb.beq eb && true then ((0 = 0 ∧ List.length l = List.length l ∧ c = c ∧ ex = ex) ∧ True) ∧ True else False) ∧ (((0 = 0 ∧ 1 = y ∧ 1 = y ∧ false = false) ∧ True) ∧ True) ∧ True ∧ ((({ toList := [7] } : Array Tmp) = { toList := [7] } ∧ gcTmS1 = gcTmS1 ∧ gcTmS0 = gcTmS0) ∧ LoopState.ready = LoopState.ready ∧ (none : Option Code) = none ∧ (True ∧ (Fn.func 77 = Fn.func 77 ∧ True ∧ 0 = 0 ∧ True) ∧ 0 = 0 ∧ True ∧ True ∧ True ∧ (Fn.func 77 = Fn.func 77 ∧ True ∧ 0 = 0 ∧ True) ∧ True ∧ True ∧ True ∧ True ∧ True ∧ True ∧ True) ∧ True) ∧ (cellsP (fun (b : Nat) => [0, 1, 2, 3, 4, 8].getD b 9) (tC (List.take y l)) [AV.int IntKind.i64 (pk l 0).fst, AV.int IntKind.i64 (pk l 0).snd] ∧ True) ∧ True) ∧ (1 : Int) = ic y ∧ True) else False else False else (∃ (_x : Unit), l = [] ∧ ((bif eh.beq eh && sameB ro ro then cellsP (fun (b : Nat) => [0, 1].getD b 5) (tC (l ++ g)) (tC (l ++ g)) ∧ True else False) ∧ (bif eb.beq eb && true then ((0 = 0 ∧ List.length l = List.length l ∧ c = c ∧ ex = ex) ∧ True) ∧ True else False) ∧ True) ∧ True ∧ True) ∨ ∃ (_x : Unit), l ≠ [] ∧ ((bif eh.beq eh && sameB ro ro then cellsP (fun (b : Nat) => [0, 1, 2].getD b 5) (tC (l ++ g)) (tC (l ++ g)) ∧ True else False) ∧ (bif eb.beq eb && true then ((0 = 0 ∧ List.length l = List.length l ∧ c = c ∧ ex = ex) ∧ True) ∧ True else False) ∧ False ∧ True) ∧ False ∧ True) ∧ ∀ (x : Nat), 1 ≤ x ∧ x ≤ List.length l → bif ltI (ic x) (ic (List.length l)) then bif ltI (ic x) (ic (List.length l)) then bif decide (0 + x * 2 + 2 ≤ (tC (l ++ g)).length) then List.take 2 (List.drop (0 + x * 2) (tC (l ++ g))) = [AV.int IntKind.i64 (pk l x).fst, AV.int IntKind.i64 (pk l x).snd] ∧ bif decide (x ≤ x) && decide (0 + x * 2 ≤ (tC (List.take x l)).length) then bif decide (x + 1 ≤ x) then bif decide (0 + (x + 1) * 2 ≤ (tC (List.take x l)).length) && true then bif leI (ic x + (1 : Int)) (9223372036854775807 : Int) then (∃ (_x : Unit), True ∧ List.length l < List.length l - x ∧ ((bif eh.beq eh && sameB ro ro then cellsP (fun (b : Nat) => [0, 1, 2, 3, 4].getD b 9) (tC (l ++ g)) (tC (l ++ g)) ∧ True else False) ∧ (bif eb.beq eb && true then ((0 = 0 ∧ List.length l = List.length l ∧ c = c ∧ ex = ex) ∧ True) ∧ True else False) ∧ ((False ∧ True) ∧ True) ∧ True ∧ ((({ toList := [7] } : Array Tmp) = { toList := [7] } ∧ gcTmS1 = gcTmS1 ∧ gcTmS0 = gcTmS0) ∧ LoopState.ready = LoopState.ready ∧ (none : Option Code) = none ∧ (True ∧ (Fn.func 77 = Fn.func 77 ∧ True ∧ 0 = 0 ∧ True) ∧ 0 = 0 ∧ True ∧ True ∧ True ∧ (Fn.func 77 = Fn.func 77 ∧ True ∧ 0 = 0 ∧ True) ∧ True ∧ True ∧ True ∧ True ∧ True ∧ True ∧ True) ∧ True) ∧ True) ∧ ic x + (1 : Int) = (0 : Int) ∧ True) ∨ ∃ (y : Nat), (1 ≤ y ∧ y ≤ List.length l) ∧ List.length l - y < List.length l - x ∧ ((bif eh.beq eh && sameB ro ro then cellsP (fun (b : Nat) => [0, 1, 2, 3, 4, 5].getD b 9) (tC (l ++ g)) (tC (l ++ g)) ∧ True else False) ∧ (bif eb.beq eb && true then ((0 = 0 ∧ List.length l = List.length l ∧ c = c ∧ ex = ex) ∧ True) ∧ True else False) ∧ (((0 = 0 ∧ x + 1 = y ∧ x = y ∧ false = false) ∧ True) ∧ True) ∧ True ∧ ((({ toList := [7] } : Array Tmp) = { toList := [7] } ∧ gcTmS1 = gcTmS1 ∧ gcTmS0 = gcTmS0) ∧ LoopState.ready = LoopState.ready ∧ (none : Option Code) = none ∧ (True ∧ (Fn.func 77 = Fn.func 77 ∧ True ∧ 0 = 0 ∧ True) ∧ 0 = 0 ∧ True ∧ True ∧ True ∧ (Fn.func 77 = Fn.func 77 ∧ True ∧ 0 = 0 ∧ True) ∧ True ∧ True ∧ True ∧ True ∧ True ∧ True ∧ True) ∧ True) ∧ (cellsP (fun (b : Nat) => [0, 1, 2, 3, 4, 5].getD b 9) (tC (List.take y l)) (setManyF (tC (List.take x l)) (0 + x * 2) [AV.int IntKind.i64 (pk l x).fst, AV.int IntKind.i64 (pk l x).snd]) ∧ True) ∧ True) ∧ ic x + (1 : Int) = ic y ∧ True else False else False else bif decide (x + 1 ≤ 9223372036854775807) && decide ((x + 1) * 16 ≤ 140737488355328) then bif decide (x = x) && (decide (0 + x * 2 = (tC (List.take x l)).length) && true) then bif leI (ic x + (1 : Int)) (9223372036854775807 : Int) then (∃ (_x : Unit), True ∧ List.length l < List.length l - x ∧ ((bif eh.beq eh && sameB ro ro then cellsP (fun (b : Nat) => [0, 1, 2, 3, 4].getD b 10) (tC (l ++ g)) (tC (l ++ g)) ∧ True else False) ∧ (bif eb.beq eb && true then ((0 = 0 ∧ List.length l = List.length l ∧ c = c ∧ ex = ex) ∧ True) ∧ True else False) ∧ ((False ∧ True) ∧ True) ∧ True ∧ ((({ toList := [7] } : Array Tmp) = { toList := [7] } ∧ gcTmS1 = gcTmS1 ∧ gcTmS0 = gcTmS0) ∧ LoopState.ready = LoopState.ready ∧ (none : Option Code) = none ∧ (True ∧ (Fn.func 77 = Fn.func 77 ∧ True ∧ 0 = 0 ∧ True) ∧ 0 = 0 ∧ True ∧ True ∧ True ∧ (Fn.func 77 = Fn.func 77 ∧ True ∧ 0 = 0 ∧ True) ∧ True ∧ True ∧ True ∧ True ∧ True ∧ True ∧ True) ∧ True) ∧ True) ∧ ic x + (1 : Int) = (0 : Int) ∧ True) ∨ ∃ (y : Nat), (1 ≤ y ∧ y ≤ List.length l) ∧ List.length l - y < List.length l - x ∧ ((bif eh.beq eh && sameB ro ro then cellsP (fun (b : Nat) => [0, 1, 2, 3, 4, 9].getD b 10) (tC (l ++ g)) (tC (l ++ g)) ∧ True else False) ∧ (bif eb.beq eb && true then ((0 = 0 ∧ List.length l = List.length l ∧ c = c ∧ ex = ex) ∧ True) ∧ True else False) ∧ (((0 = 0 ∧ x + 1 = y ∧ x + 1 = y ∧ false = false) ∧ True) ∧ True) ∧ True ∧ ((({ toList := [7] } : Array Tmp) = { toList := [7] } ∧ gcTmS1 = gcTmS1 ∧ gcTmS0 = gcTmS0) ∧ LoopState.ready = LoopState.ready ∧ (none : Option Code) = none ∧ (True ∧ (Fn.func 77 = Fn.func 77 ∧ True ∧ 0 = 0 ∧ True) ∧ 0 = 0 ∧ True ∧ True ∧ True ∧ (Fn.func 77 = Fn.func 77 ∧ True ∧ 0 = 0 ∧ True) ∧ True ∧ True ∧ True ∧ True ∧ True ∧ True ∧ True) ∧ True) ∧ (cellsP (fun (b : Nat) => [0, 1, 2, 3, 4, 9].getD b 10) (tC (List.take y l)) (List.drop 0 (tC (List.take x l)) ++ [AV.int IntKind.i64 (pk l x).fst, AV.int IntKind.i64 (pk l x).snd]) ∧ True) ∧ True) ∧ ic x + (1 : Int) = ic y ∧ True else False else False else False else False else False else False else (∃ (_x : Unit), l = [] ∧ ((bif eh.beq eh && sameB ro ro then cellsP (fun (b : Nat) => [0, 1].getD b 6) (tC (l ++ g)) (tC (l ++ g)) ∧ True else False) ∧ (bif eb.beq eb && true then ((0 = 0 ∧ List.length l = List.length l ∧ c = c ∧ ex = ex) ∧ True) ∧ True else False) ∧ True) ∧ False ∧ True) ∨ ∃ (_x : Unit), l ≠ [] ∧ ((bif eh.beq eh && sameB ro ro then cellsP (fun (b : Nat) => [0, 1, 5].getD b 6) (tC (l ++ g)) (tC (l ++ g)) ∧ True else False) ∧ (bif eb.beq eb && true then ((0 = 0 ∧ List.length l = List.length l ∧ c = c ∧ ex = ex) ∧ True) ∧ True else False) ∧ (cellsP (fun (b : Nat) => [0, 1, 5].getD b 6) (tC l) (tC (List.take x l)) ∧ True) ∧ True) ∧ (0 = 0 ∧ x = List.length l ∧ x = List.length l ∧ false = false) ∧ True) := by kernel_rfl
theorem sameB_s (b : Bool) : sameB b b = true := by cases b <;> rfl
theorem rB_ok (σ : Nat → Nat) (a : TL) (e : Nat) (ro : Bool) : (bif e.beq e && sameB ro ro then cellsP σ (tC a) (tC a) ∧ True else False) := by
  rw [Nat.beq_refl, sameB_s]
  exact ⟨cellsP_flat (tC_flat _) rfl, trivial⟩
theorem bx_ok (eb n c : Nat) (ex : Bool) : (bif eb.beq eb && true then (((0 : Nat) = 0 ∧ n = n ∧ c = c ∧ ex = ex) ∧ True) ∧ True else False) := by
  rw [Nat.beq_refl]
  exact ⟨⟨⟨rfl, rfl, rfl, rfl⟩, trivial⟩, trivial⟩
theorem bn_ok (eb : Nat) : (bif eb.beq eb && true then (True ∧ True) ∧ True else False) := by
  rw [Nat.beq_refl]
  exact ⟨⟨trivial, trivial⟩, trivial⟩
theorem coN_vc (eb : Nat) : HoldsL (vCoN eb) := by
  refine ⟨?_⟩
  rw [vCoN_eq]
  refine ⟨.inl ⟨(), trivial, ?_, rfl, trivial⟩, fun _ _ => ⟨(), trivial, ?_, trivial, trivial⟩, fun x hx => by omega⟩
  all_goals repeat' (first | exact trivial | exact rfl | exact rB_ok _ _ _ _ | exact bx_ok _ _ _ _ | exact bn_ok _ | apply And.intro)
theorem co_vc (l g : TL) (c : Nat) (ex : Bool) (eh eb : Nat) (ro : Bool) (hl : l.length ≤ 1048576) : vCo l g c ex eh eb ro := by
  rw [vCo_eq]
  refine ⟨.inl ⟨(), trivial, ?_, rfl, trivial⟩, fun _ _ => cond_intro (fun k => ?_) fun k => .inl ⟨(), ?_, ?_, trivial, trivial⟩, fun x hx => cond_intro (fun k => ?_) fun k => .inr ⟨(), ?_, ?_, ?_, trivial⟩⟩
  · repeat' (first | exact trivial | exact rfl | exact rB_ok _ _ _ _ | exact bx_ok _ _ _ _ | apply And.intro)
  · rw [k]
    rw [ltI_t] at k
    have k : 0 < l.length := by have k : (0 : Int) < (l.length : Int) := k; omega
    have d := drop_ok (a := l) (g := g) rfl k
    rw [show 0 + 0 * 2 = 0 from rfl] at d
    refine need_intro rfl (need_intro (by rw [tC_len, List.length_append]; exact decide_eq_true (by omega)) ⟨d, .inr ⟨1, ⟨by omega, by omega⟩, by omega, ?_, rfl, trivial⟩⟩)
    have e : tC (l.take 1) = [AV.int .i64 (pk l 0).1, AV.int .i64 (pk l 0).2] := by
      cases l with
      | nil => simp at k
      | cons t r => rfl
    refine ⟨?_, ?_, ?_, ?_, ?_, r2_ok _ e.symm, trivial⟩
    all_goals repeat' (first | exact trivial | exact rfl | exact rB_ok _ _ _ _ | exact bx_ok _ _ _ _ | apply And.intro)
  · rw [ltI_f] at k
    have k : (l.length : Int) ≤ 0 := k
    exact List.length_eq_zero_iff.1 (by omega)
  · repeat' (first | exact trivial | exact rfl | exact rB_ok _ _ _ _ | exact bx_ok _ _ _ _ | apply And.intro)
  · rw [k]
    rw [ltI_t] at k
    have k : x < l.length := Int.ofNat_lt.1 k
    have hlt : (l.take x).length = x := by rw [List.length_take]; omega
    have k1 : (decide (x ≤ x) && decide (0 + x * 2 ≤ (tC (List.take x l)).length)) = true := by
      rw [tC_len, hlt, decide_eq_true (Nat.le_refl x), decide_eq_true (by omega)]; rfl
    have k2 : decide (x + 1 ≤ x) = false := decide_eq_false (by omega)
    have k3 : (decide (x + 1 ≤ 9223372036854775807) && decide ((x + 1) * 16 ≤ 140737488355328)) = true := by
      rw [decide_eq_true (by omega), decide_eq_true (by omega)]; rfl
    have k4 : (decide (x = x) && (decide (0 + x * 2 = (tC (List.take x l)).length) && true)) = true := by
      rw [tC_len, hlt, decide_eq_true (by rfl), decide_eq_true (by omega)]; rfl
    have k5 : leI (ic x + 1) 9223372036854775807 = true := by rw [leI_t]; show (x : Int) + 1 ≤ _; omega
    refine need_intro rfl (need_intro (len_ok (n := l.length) rfl k) ⟨drop_ok rfl k, ?_⟩)
    rw [k1, k2, k3, k4, k5]
    refine .inr ⟨x + 1, ⟨by omega, by omega⟩, by omega, ?_, rfl, trivial⟩
    have e : List.drop 0 (tC (List.take x l)) ++ [AV.int .i64 (pk l x).1, AV.int .i64 (pk l x).2] = tC (l.take (x + 1)) := by
      rw [List.drop_zero, List.take_succ_eq_append_getElem k, tC_app, ← pk_get k]; rfl
    refine ⟨?_, ?_, ?_, ?_, ?_, r2_ok _ e, trivial⟩
    all_goals repeat' (first | exact trivial | exact rfl | exact rB_ok _ _ _ _ | exact bx_ok _ _ _ _ | apply And.intro)
  · intro h
    subst h
    simp at hx
    omega
  · rw [ltI_f] at k
    have k : l.length ≤ x := Int.ofNat_le.1 k
    rw [List.take_of_length_le k]
    refine ⟨?_, ?_, r2_ok _ rfl, trivial⟩
    all_goals repeat' (first | exact trivial | exact rfl | exact rB_ok _ _ _ _ | exact bx_ok _ _ _ _ | apply And.intro)
  · rw [ltI_f] at k
    have k : l.length ≤ x := Int.ofNat_le.1 k
    exact ⟨rfl, by omega, by omega, rfl⟩

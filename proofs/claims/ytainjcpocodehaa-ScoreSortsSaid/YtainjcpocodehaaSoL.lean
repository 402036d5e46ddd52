/- The law ScoreSorts on no numbers. -/
import Derived.Test.YtainjcpocodehaaSoX
set_option linter.unusedSimpArgs false
set_option linter.unusedVariables false
namespace Go.Proofs.Ytainjcpocodehaa
open Go Go.Ve
set_option maxRecDepth 20000
noncomputable def TSE : List (Nat × SpecE) := [(10, flatE gLiv), (14, flatE gCmpF), (58, eBs), (19, eSo), (20, eSame)]
noncomputable def VSE : VE := ⟨Try.prog, tabS TSE noS, noO, fun _ => some ⟨[], [], []⟩⟩
noncomputable def aS0 (h : AH) : Anns := [(7000007, [.mk Unit (fun _ => [(4, .nilsl)]) (fun _ => some h) (fun _ => True) (fun _ => 0) gcB gcB (fun _ => []) (fun _ => [])])]

noncomputable def vSSN  : Prop := vcF VSE [] 60 (aS0 [keepB]) [] 4 [.nilsl] [] (Go.Ve.one (.bool true))
noncomputable def vSSZ  : Prop := vcF VSE [] 60 (aS0 [keepB]) [] 4 [.slz] [] (Go.Ve.one (.bool true))
noncomputable def vSS0  (r : FL) (e : Nat) (ro : Bool) (c : Nat) (ex : Bool) : Prop := vcF VSE [] 60 (aS0 [keepB, keepB]) [] 4 [.sl 0 0 0 c ex] [.cells (fC r) e ro] [⟨Unit, fun _ => .bool true, fun _ => [.cells (fC r) e ro], fun _ => True, gcB⟩]
theorem vSSN_eq  : vSSN  = ((∃ (_x : Unit), True ∧ ((True ∧ True) ∧ True) ∧ True ∧ True) ∧ ∀ (x : Unit), True → RF [] (0 : Nat) ∧ (∀ (p : AV × AV), List.Mem p [] → ∃ (x : Int), ∃ (y : Int), p.fst = AV.int IntKind.u64 x ∧ p.snd = AV.int IntKind.i64 y) ∧ (∀ (x y : Int), List.Mem (AV.int IntKind.u64 x, AV.int IntKind.i64 y) [] → bif !eqI y (0 : Int) then [ABlk.cells [] (0 : Nat) false, ABlk.dead, ABlk.dead] = [ABlk.cells [] (0 : Nat) false, ABlk.dead, ABlk.dead] ∧ ∃ (_x : Unit), True ∧ True ∧ false = true ∧ True else [ABlk.cells [] (0 : Nat) false, ABlk.dead, ABlk.dead] = [ABlk.cells [] (0 : Nat) false, ABlk.dead, ABlk.dead] ∧ True) ∧ ∃ (_x : Unit), True ∧ True ∧ true = true ∧ True) := by kernel_rfl
theorem vSSZ_eq  : vSSZ  = ((∃ (_x : Unit), True ∧ ((True ∧ True) ∧ True) ∧ True ∧ True) ∧ ∀ (x : Unit), True → (∀ (p : AV × AV), List.Mem p [] → ∃ (x : Int), ∃ (y : Int), p.fst = AV.int IntKind.u64 x ∧ p.snd = AV.int IntKind.i64 y) ∧ (∀ (x y : Int), List.Mem (AV.int IntKind.u64 x, AV.int IntKind.i64 y) [] → bif !eqI y (0 : Int) then [ABlk.cells [] (0 : Nat) false, ABlk.dead, ABlk.dead] = [ABlk.cells [] (0 : Nat) false, ABlk.dead, ABlk.dead] ∧ ∃ (_x : Unit), True ∧ True ∧ false = true ∧ True else [ABlk.cells [] (0 : Nat) false, ABlk.dead, ABlk.dead] = [ABlk.cells [] (0 : Nat) false, ABlk.dead, ABlk.dead] ∧ True) ∧ ∃ (_x : Unit), True ∧ True ∧ true = true ∧ True) := by kernel_rfl
theorem vSS0_eq  (r : FL) (e : Nat) (ro : Bool) (c : Nat) (ex : Bool) : vSS0 r e ro c ex = ((RF (fC r) (0 : Nat) ∧ ∃ (_x : Unit), True ∧ ((bif e.beq e && sameB ro ro then cellsP (fun (b : Nat) => [(0 : Nat), (1 : Nat)].getD b (2 : Nat)) (fC r) (fC r) ∧ True else False) ∧ (True ∧ True) ∧ True) ∧ True ∧ True) ∧ ∀ (x : Unit), True → (RF (fC r) (0 : Nat) ∧ RF [] (0 : Nat)) ∧ (∀ (p : AV × AV), List.Mem p [] → ∃ (x : Int), ∃ (y : Int), p.fst = AV.int IntKind.u64 x ∧ p.snd = AV.int IntKind.i64 y) ∧ (∀ (x y : Int), List.Mem (AV.int IntKind.u64 x, AV.int IntKind.i64 y) [] → bif !eqI y (0 : Int) then [ABlk.cells (fC r) e ro, ABlk.cells [] (0 : Nat) false, ABlk.dead, ABlk.dead] = [ABlk.cells (fC r) e ro, ABlk.cells [] (0 : Nat) false, ABlk.dead, ABlk.dead] ∧ ∃ (_x : Unit), True ∧ ((bif e.beq e && sameB ro ro then cellsP (fun (b : Nat) => [(0 : Nat)].getD b (4 : Nat)) (fC r) (fC r) ∧ True else False) ∧ True) ∧ false = true ∧ True else [ABlk.cells (fC r) e ro, ABlk.cells [] (0 : Nat) false, ABlk.dead, ABlk.dead] = [ABlk.cells (fC r) e ro, ABlk.cells [] (0 : Nat) false, ABlk.dead, ABlk.dead] ∧ True) ∧ RF (fC r) (0 : Nat) ∧ RF (fC r) (0 : Nat) ∧ ∃ (_x : Unit), True ∧ ((bif e.beq e && sameB ro ro then cellsP (fun (b : Nat) => [(0 : Nat)].getD b (4 : Nat)) (fC r) (fC r) ∧ True else False) ∧ True) ∧ true = true ∧ True) := by kernel_rfl
theorem mem_no {α : Type} {x : α} {p : Prop} (h : List.Mem x []) : p := by cases h
theorem rf0 : RF [] 0 := ⟨rfl, Nat.le_refl _, by omega, fun v hv => by cases hv⟩
theorem ssN_vc : HoldsK vSSN := by
  refine ⟨?_⟩
  rw [vSSN_eq]
  exact ⟨⟨(), trivial, ⟨⟨trivial, trivial⟩, trivial⟩, trivial, trivial⟩, fun _ _ => ⟨rf0, fun _ h => mem_no h, fun _ _ h => mem_no h, (), trivial, trivial, rfl, trivial⟩⟩
theorem ssZ_vc : HoldsK vSSZ := by
  refine ⟨?_⟩
  rw [vSSZ_eq]
  exact ⟨⟨(), trivial, ⟨⟨trivial, trivial⟩, trivial⟩, trivial, trivial⟩, fun _ _ => ⟨fun _ h => mem_no h, fun _ _ h => mem_no h, (), trivial, trivial, rfl, trivial⟩⟩
theorem ss0_vc (r : FL) (e : Nat) (ro : Bool) (c : Nat) (ex : Bool) (o : ok64 r) : vSS0 r e ro c ex := by
  have rf : RF (fC r) 0 := ⟨by rw [getF_fC], Nat.zero_le _, by omega, by rw [getF_fC]; exact o⟩
  rw [vSS0_eq]
  exact ⟨⟨rf, (), trivial, ⟨F_ok _ _ _ _, ⟨trivial, trivial⟩, trivial⟩, trivial, trivial⟩, fun _ _ => ⟨⟨rf, rf0⟩, fun _ h => mem_no h, fun _ _ h => mem_no h, rf, rf, (), trivial, ⟨F_ok _ _ _ _, trivial⟩, rfl, trivial⟩⟩

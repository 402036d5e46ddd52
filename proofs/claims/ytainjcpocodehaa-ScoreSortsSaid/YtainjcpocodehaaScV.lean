/- The document's comparison of lists where one is nil. -/
import Derived.Test.YtainjcpocodehaaScE
set_option linter.unusedSimpArgs false
set_option linter.unusedVariables false
namespace Go.Proofs.Ytainjcpocodehaa
open Go Go.Ve
set_option maxRecDepth 20000
noncomputable def aSa1 (a : FL) (n : Nat) : Anns := [(4, [.mk Unit (fun _ => [(5, .int .i64 0)]) (fun _ => none) (fun _ => n = 0) (fun _ => 0) gcB gcB (fun _ => [(20, .float .f64 (fk a 0)), (24, .float .f64 0)]) (fun _ => [])])]

noncomputable def vSa0  : Prop := vcF VCp [] 60 [] [] 20 [.nilsl, .nilsl] [] (Go.Ve.one (.bool true))
noncomputable def vSa1  (a r : FL) (c : Nat) (ec : Bool) (e : Nat) (ro : Bool) : Prop := vcF VCp [] 60 (aSa1 (a ++ r) a.length) [] 20 [.sl 0 0 a.length c ec, .nilsl] (mF a r e ro) [⟨Unit, fun _ => .bool (Nat.beq a.length 0), fun _ => mF a r e ro, fun _ => True, gcB⟩]
noncomputable def vSa2  (a r : FL) (c : Nat) (ec : Bool) (e : Nat) (ro : Bool) : Prop := vcF VCp [] 60 [] [] 20 [.nilsl, .sl 0 0 a.length c ec] (mF a r e ro) [⟨Unit, fun _ => .bool (Nat.beq a.length 0), fun _ => mF a r e ro, fun _ => True, gcB⟩]
theorem vSa0_eq  : vSa0  = (∃ (_x : Unit), True ∧ True ∧ true = true ∧ True) := by kernel_rfl
theorem vSa1_eq  (a r : FL) (c : Nat) (ec : Bool) (e : Nat) (ro : Bool) : vSa1 a r c ec e ro = (bif !eqI (ic (List.length a)) (0 : Int) then ∃ (_x : Unit), True ∧ ((bif e.beq e && sameB ro ro then cellsP (fun (b : Nat) => [(0 : Nat)].getD b (1 : Nat)) (fC (a ++ r)) (fC (a ++ r)) ∧ True else False) ∧ True) ∧ false = (List.length a).beq (0 : Nat) ∧ True else (∃ (_x : Unit), List.length a = (0 : Nat) ∧ ((bif e.beq e && sameB ro ro then cellsP (fun (b : Nat) => [(0 : Nat)].getD b (1 : Nat)) (fC (a ++ r)) (fC (a ++ r)) ∧ True else False) ∧ True) ∧ (0 : Int) = (0 : Int) ∧ True) ∧ ∀ (x : Unit), List.length a = (0 : Nat) → bif ltI (0 : Int) (ic (List.length a)) then bif ltI (0 : Int) (ic (List.length a)) then (fC (a ++ r))[(0 : Nat)]? = some (AV.float FloatKind.f64 (fk (a ++ r) (0 : Nat))) ∧ Stuck (6 : Nat) (23 : Nat) else False else ∃ (_x : Unit), True ∧ ((bif e.beq e && sameB ro ro then cellsP (fun (b : Nat) => [(0 : Nat)].getD b (1 : Nat)) (fC (a ++ r)) (fC (a ++ r)) ∧ True else False) ∧ True) ∧ true = (List.length a).beq (0 : Nat) ∧ True) := by kernel_rfl
theorem vSa2_eq  (a r : FL) (c : Nat) (ec : Bool) (e : Nat) (ro : Bool) : vSa2 a r c ec e ro = (bif !eqI (0 : Int) (ic (List.length a)) then ∃ (_x : Unit), True ∧ ((bif e.beq e && sameB ro ro then cellsP (fun (b : Nat) => [(0 : Nat)].getD b (1 : Nat)) (fC (a ++ r)) (fC (a ++ r)) ∧ True else False) ∧ True) ∧ false = (List.length a).beq (0 : Nat) ∧ True else ∃ (_x : Unit), True ∧ ((bif e.beq e && sameB ro ro then cellsP (fun (b : Nat) => [(0 : Nat)].getD b (1 : Nat)) (fC (a ++ r)) (fC (a ++ r)) ∧ True else False) ∧ True) ∧ true = (List.length a).beq (0 : Nat) ∧ True) := by kernel_rfl
structure HoldsS (p : Prop) : Prop where
  h : p
theorem beq0 {n : Nat} (h : n ≠ 0) : Nat.beq n 0 = false := by
  cases n with
  | zero => exact absurd rfl h
  | succ n => rfl
theorem sa0_vc : HoldsS vSa0 := by
  refine ⟨?_⟩
  rw [vSa0_eq]
  exact ⟨(), trivial, trivial, rfl, trivial⟩
theorem sa1_vc (a r : FL) (c : Nat) (ec : Bool) (e : Nat) (ro : Bool) : vSa1 a r c ec e ro := by
  rw [vSa1_eq]
  refine cond_intro (fun h => ⟨(), trivial, ⟨F_ok _ _ _ _, trivial⟩, ?_, trivial⟩) fun h => ⟨⟨(), ?_, ⟨F_ok _ _ _ _, trivial⟩, rfl, trivial⟩, fun _ hn => cond_intro (fun k => ?_) fun k => ⟨(), trivial, ⟨F_ok _ _ _ _, trivial⟩, ?_, trivial⟩⟩
  · rw [not_t, eqI_f] at h
    exact (beq0 fun e => h (by rw [e]; rfl)).symm
  · rw [not_f, eqI_t] at h
    exact Int.ofNat_inj.1 h
  · rw [ltI_t] at k
    have k : (0 : Int) < (a.length : Int) := k
    omega
  · rw [hn]; rfl
theorem sa2_vc (a r : FL) (c : Nat) (ec : Bool) (e : Nat) (ro : Bool) : vSa2 a r c ec e ro := by
  rw [vSa2_eq]
  refine cond_intro (fun h => ⟨(), trivial, ⟨F_ok _ _ _ _, trivial⟩, ?_, trivial⟩) fun h => ⟨(), trivial, ⟨F_ok _ _ _ _, trivial⟩, ?_, trivial⟩
  · rw [not_t, eqI_f] at h
    exact (beq0 fun e => h (by rw [e]; rfl)).symm
  · rw [not_f, eqI_t] at h
    have h : (0 : Int) = (a.length : Int) := h
    rw [show a.length = 0 by omega]; rfl

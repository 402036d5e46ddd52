/- The law TimerScript: its walk where nothing is to do. -/
import Derived.Test.YtainjcpocodehaaRfI
set_option linter.unusedSimpArgs false
set_option linter.unusedVariables false
namespace Go.Proofs.Ytainjcpocodehaa
open Go Go.Ve
set_option maxRecDepth 20000

noncomputable def vSkB  (most : Int) (l r : AL) (e : Nat) (ro : Bool) (cc : Nat) (ex : Bool) : Prop := vcF VBk [] 60 [] [] 9 [.int .i64 most, .sl 0 0 l.length cc ex] [.cells (actC (l ++ r)) e ro] [⟨Unit, fun _ => .bool true, fun _ => [.cells (actC (l ++ r)) e ro], fun _ => True, gcB⟩]
noncomputable def vSkN  (most : Int) : Prop := vcF VSk [] 60 [] [] 9 [.int .i64 most, .nilsl] [] (Go.Ve.one (.bool true))
noncomputable def vSkZ  (most : Int) : Prop := vcF VSk [] 60 [] [] 9 [.int .i64 most, .slz] [] (Go.Ve.one (.bool true))
noncomputable def vSkNB  (most : Int) : Prop := vcF VBk [] 60 [] [] 9 [.int .i64 most, .nilsl] [] (Go.Ve.one (.bool true))
noncomputable def vSkZB  (most : Int) : Prop := vcF VBk [] 60 [] [] 9 [.int .i64 most, .slz] [] (Go.Ve.one (.bool true))
theorem vSkB_eq  (most : Int) (l r : AL) (e : Nat) (ro : Bool) (cc : Nat) (ex : Bool) : vSkB most l r e ro cc ex = (bif ltI (60 : Int) (ic (List.length l)) then ∃ (_x : Unit), True ∧ ((bif e.beq e && sameB ro ro then cellsP (fun (b : Nat) => [0].getD b 1) (actC (l ++ r)) (actC (l ++ r)) ∧ True else False) ∧ True) ∧ true = true ∧ True else ¬((0 : Int) ≤ most ∧ most ≤ (1048576 : Int)) ∧ ¬((0 : Int) ≤ most ∧ most ≤ (1048576 : Int)) ∧ bif ltI (0 : Int) (ic (List.length l)) then ∃ (_x : Unit), True ∧ ((bif e.beq e && sameB ro ro then cellsP (fun (b : Nat) => [0].getD b 1) (actC (l ++ r)) (actC (l ++ r)) ∧ True else False) ∧ True) ∧ true = true ∧ True else ∃ (_x : Unit), True ∧ ((bif e.beq e && sameB ro ro then cellsP (fun (b : Nat) => [0].getD b 1) (actC (l ++ r)) (actC (l ++ r)) ∧ True else False) ∧ True) ∧ true = true ∧ True) := by kernel_rfl
theorem vSkN_eq  (most : Int) : vSkN most = (((0 : Int) ≤ most ∧ most ≤ (1048576 : Int)) ∧ ((0 : Int) ≤ most ∧ most ≤ (1048576 : Int)) ∧ ∃ (_x : Unit), True ∧ True ∧ true = true ∧ True) := by kernel_rfl
theorem vSkZ_eq  (most : Int) : vSkZ most = (((0 : Int) ≤ most ∧ most ≤ (1048576 : Int)) ∧ ((0 : Int) ≤ most ∧ most ≤ (1048576 : Int)) ∧ ∃ (_x : Unit), True ∧ True ∧ true = true ∧ True) := by kernel_rfl
theorem vSkNB_eq  (most : Int) : vSkNB most = (¬((0 : Int) ≤ most ∧ most ≤ (1048576 : Int)) ∧ ¬((0 : Int) ≤ most ∧ most ≤ (1048576 : Int)) ∧ ∃ (_x : Unit), True ∧ True ∧ true = true ∧ True) := by kernel_rfl
theorem vSkZB_eq  (most : Int) : vSkZB most = (¬((0 : Int) ≤ most ∧ most ≤ (1048576 : Int)) ∧ ¬((0 : Int) ≤ most ∧ most ≤ (1048576 : Int)) ∧ ∃ (_x : Unit), True ∧ True ∧ true = true ∧ True) := by kernel_rfl
theorem skB_vc (most : Int) (l r : AL) (e : Nat) (ro : Bool) (cc : Nat) (ex : Bool) (hm : ¬ (0 ≤ most ∧ most ≤ 1048576)) : vSkB most l r e ro cc ex := by
  rw [vSkB_eq]
  exact cond_intro (fun _ => ⟨(), trivial, ⟨T_ok _ _ _ _, trivial⟩, rfl, trivial⟩) fun _ => ⟨hm, hm, cond_intro (fun _ => ⟨(), trivial, ⟨T_ok _ _ _ _, trivial⟩, rfl, trivial⟩) fun _ => ⟨(), trivial, ⟨T_ok _ _ _ _, trivial⟩, rfl, trivial⟩⟩
theorem skN_vc (most : Int) (hm : 0 ≤ most ∧ most ≤ 1048576) : vSkN most := by rw [vSkN_eq]; exact ⟨hm, hm, (), trivial, trivial, rfl, trivial⟩
theorem skZ_vc (most : Int) (hm : 0 ≤ most ∧ most ≤ 1048576) : vSkZ most := by rw [vSkZ_eq]; exact ⟨hm, hm, (), trivial, trivial, rfl, trivial⟩
theorem skNB_vc (most : Int) (hm : ¬ (0 ≤ most ∧ most ≤ 1048576)) : vSkNB most := by rw [vSkNB_eq]; exact ⟨hm, hm, (), trivial, trivial, rfl, trivial⟩
theorem skZB_vc (most : Int) (hm : ¬ (0 ≤ most ∧ most ≤ 1048576)) : vSkZB most := by rw [vSkZB_eq]; exact ⟨hm, hm, (), trivial, trivial, rfl, trivial⟩

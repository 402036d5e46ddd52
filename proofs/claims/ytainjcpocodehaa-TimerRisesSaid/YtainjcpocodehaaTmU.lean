/- The law TimerRises: its walk, of no call. -/
import Derived.Test.YtainjcpocodehaaTmG
set_option linter.unusedSimpArgs false
set_option linter.unusedVariables false
namespace Go.Proofs.Ytainjcpocodehaa
open Go Go.Ve
set_option maxRecDepth 20000

noncomputable def vRiN  : Prop := vcF VRN [(12, .tail 6), (13, .tail 11), (28, .any 6)] 60 [] [] 8 [.nilsl] [] (Go.Ve.one (.bool true))
noncomputable def vRiZ  : Prop := vcF VRN [(12, .tail 6), (13, .tail 11), (28, .any 6)] 60 [] [] 8 [.slz] [] (Go.Ve.one (.bool true))
theorem vRiN_eq  : vRiN  = ((((((((((((∃ (_x : Unit), True ∧ True ∧ true = true ∧ True) ∧ True) ∧ True) ∧ True) ∧ True) ∧ True) ∧ True) ∧ True) ∧ True) ∧ True) ∧ ((((((((((∃ (_x : Unit), True ∧ True ∧ true = true ∧ True) ∧ True) ∧ True) ∧ True) ∧ True) ∧ True) ∧ True) ∧ True) ∧ True) ∧ True) ∧ True) ∧ (((((((((((∃ (_x : Unit), True ∧ True ∧ true = true ∧ True) ∧ True) ∧ True) ∧ True) ∧ True) ∧ True) ∧ True) ∧ True) ∧ True) ∧ True) ∧ True) ∧ True) := by kernel_rfl
theorem vRiZ_eq  : vRiZ  = ((((((((((((∃ (_x : Unit), True ∧ True ∧ true = true ∧ True) ∧ True) ∧ True) ∧ True) ∧ True) ∧ True) ∧ True) ∧ True) ∧ True) ∧ True) ∧ ((((((((((∃ (_x : Unit), True ∧ True ∧ true = true ∧ True) ∧ True) ∧ True) ∧ True) ∧ True) ∧ True) ∧ True) ∧ True) ∧ True) ∧ True) ∧ True) ∧ (((((((((((∃ (_x : Unit), True ∧ True ∧ true = true ∧ True) ∧ True) ∧ True) ∧ True) ∧ True) ∧ True) ∧ True) ∧ True) ∧ True) ∧ True) ∧ True) ∧ True) := by kernel_rfl
theorem riN_vc : HoldsN vRiN := by
  refine ⟨?_⟩
  rw [vRiN_eq]
  repeat' (first | exact trivial | exact ⟨(), trivial, trivial, rfl, trivial⟩ | apply And.intro)
theorem riZ_vc : HoldsN vRiZ := by
  refine ⟨?_⟩
  rw [vRiZ_eq]
  repeat' (first | exact trivial | exact ⟨(), trivial, trivial, rfl, trivial⟩ | apply And.intro)

/- The law TimerOnce: its walk, of no call. -/
import Derived.Test.YtainjcpocodehaaOnX
set_option linter.unusedSimpArgs false
set_option linter.unusedVariables false
namespace Go.Proofs.Ytainjcpocodehaa
open Go Go.Ve
set_option maxRecDepth 20000

noncomputable def vOnN  : Prop := vcF VOn [] 60 [] [] 7 [.nilsl] [] (Go.Ve.one (.bool true))
noncomputable def vOnZ  : Prop := vcF VOn [] 60 [] [] 7 [.slz] [] (Go.Ve.one (.bool true))
theorem vOnN_eq  : vOnN  = (∃ (_x : Unit), True ∧ True ∧ true = true ∧ True) := by kernel_rfl
theorem vOnZ_eq  : vOnZ  = (∃ (_x : Unit), True ∧ True ∧ true = true ∧ True) := by kernel_rfl
theorem onN_vc : HoldsN vOnN := by
  refine ⟨?_⟩
  rw [vOnN_eq]
  repeat' (first | exact trivial | exact ⟨(), trivial, trivial, rfl, trivial⟩ | apply And.intro)
theorem onZ_vc : HoldsN vOnZ := by
  refine ⟨?_⟩
  rw [vOnZ_eq]
  repeat' (first | exact trivial | exact ⟨(), trivial, trivial, rfl, trivial⟩ | apply And.intro)

/- The example that the law ReviseDrops asks first. -/
import Derived.Test.YtepohfmphgbknaaRdQ
set_option linter.unusedSimpArgs false
set_option linter.unusedVariables false
namespace Go.Proofs.Ytepohfmphgbknaa
open Go Go.Ve
set_option maxRecDepth 20000

noncomputable def vLivD  : Prop := vcF VPl [] 300 [] [] 4 [] [] (one (.bool true))
theorem vLivD_eq  : vLivD  = (∃ (_x : Unit), True ∧ True ∧ true = true ∧ True) := by kernel_rfl

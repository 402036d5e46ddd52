/- The law StoreNames, reckoned: its calls by the fast evaluator, the range over a map of one entry by its own rule. -/
import Derived.Test.YtamodepbpmfooaaDoorStNMd
import Derived.Test.YtamodepbpmfooaaDoorEe
import Derived.Test.YtamodepbpmfooaaDoorSc
set_option linter.unusedSimpArgs false
set_option linter.unusedVariables false
namespace Go.Proofs.YtamodepbpmfooaaDoor.storeNames
open Go Go.Ve
set_option maxRecDepth 20000
theorem callS0 : CallOk Tryd.prog (callS env0 V (sevI env0 V 400)) := fun f args H v ch h => call0 f args H v ch (callI_of_sev Vok h)
noncomputable def spC : SpecF := fun f args H => bif Nat.beq f 15 then none else callSp (callS env0 V (sevI env0 V 400)) f args H
theorem spC_ok : SpecOk Tryd.prog spC := by
  intro f args H sr h
  unfold spC at h
  cases hb : Nat.beq f 15 with
  | true => rw [hb] at h; cases h
  | false => rw [hb] at h; exact callSp_ok callS0 f args H sr h
noncomputable def VS : VE := ⟨Tryd.prog, spC, noO, fun _ => some ⟨[], [], []⟩⟩

noncomputable def vLaw  : Prop := vcF VS [] 400 [] [] 3 [] [] (one (.bool true))
theorem vLaw_eq  : vLaw  = (∃ (_x : Unit), True ∧ True ∧ true = true ∧ True) := by kernel_rfl
theorem law_vc : vLaw := by
  rw [vLaw_eq]
  exact ⟨(), trivial, trivial, rfl, trivial⟩
theorem law_sc : SC Tryd.prog 3 [] [] (fun v H => v = .bool true ∧ H = []) :=
  SC.one (V := VS) names0 mixed0 spC_ok noO_ok law_vc

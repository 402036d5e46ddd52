/- The law ScoreNames returns true, whatever the memory and the schedule; nothing that was there is changed. No conditions. -/
import Derived.Test.YtocmlealecehlaaRows
import Derived.Test.YtocmlealecehlaaVe12
import Derived.Test.YtocmlealecehlaaScoreNamesRun
namespace Go.Proofs.Ytocmlealecehlaa.scoreNames
open Go.Ve Go.ChangeShapes Go.WideShapes Go.ChangeAt Go.RowKit

theorem own : ownKnob Try.prog.godebug = none := by kernel_rfl
theorem allNames : Try.prog.funcs.all (fun fn => !(fn.name == "runtime.NumGoroutine")) = true := by kernel_rfl
theorem mixed : Try.prog.follows .mixedOrders = true := by kernel_rfl
set_option maxHeartbeats 4000000 in
set_option maxRecDepth 100000 in
theorem lifted (os : Os) (started : os.Started) (H : Type) (enc : TypeId × Value → H) :
    ReturnsInHanded {} Try.checked os 3 .any (Rows.scoreNamesSpec.pre6 enc Try.prog Try.f3 Rows.scoreNamesRow.domain false) (Rows.scoreNamesSpec.post enc Try.prog Try.f3 false true false false) := by
  refine returnsInHanded_of_change (C := Try.checked) own started (by kernel_rfl) Try.func3
    (ChangeSpec.witness6 (enc := enc) (C := Try.checked) false ⟨#[], #[], []⟩ 8 (by kernel_rfl) (by kernel_rfl) (by kernel_rfl) (by kernel_rfl)) ?_
  intro W base args ds gs before hval hW hcnd _
  exact contract_of_ev (E := env) allNames mixed envOk (tb := 4) (by kernel_rfl) (by kernel_rfl) rfl Try.underlying4 rfl
    (fun ds h => match ds, h with | [], _ => ⟨rfl, rfl, rfl⟩) opensArgs_nil (fun _ _ => ⟨1, _, answers⟩) hval hW

theorem over : Rows.scoreNamesRow.holds Try.pinned (OpenSpec.ofChange Rows.scoreNamesSpec) :=
  OpenClaim.holds_of_wide 3 Try.f3 rfl rfl rfl rfl rfl rfl rfl ⟨rfl, rfl, rfl, rfl, rfl⟩ rfl rfl rfl rfl rfl (by kernel_rfl) Try.func3 (by kernel_rfl)
    (of_decide_eq_true (by kernel_rfl)) (by unfold Func.isWrapper; first | (rw [if_pos (by decide +kernel)]; kernel_rfl) | (rw [if_neg (by decide +kernel)]; exact ⟨rfl, rfl⟩))
    (fun os started H enc _ => lifted os started H enc)

/-- THE STATEMENT. -/
theorem proved : Rows.ScoreNamesSaid :=
  over
#print axioms proved
end Go.Proofs.Ytocmlealecehlaa.scoreNames

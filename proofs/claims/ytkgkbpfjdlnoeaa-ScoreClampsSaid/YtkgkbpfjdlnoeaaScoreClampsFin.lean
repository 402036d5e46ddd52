/- The law ScoreClamps of layer 23 returns true for any three numbers; nothing that was there is changed. No conditions. -/
import Derived.Test.YtkgkbpfjdlnoeaaRows
import Derived.Test.YtkgkbpfjdlnoeaaVeS
import Derived.Test.YtkgkbpfjdlnoeaaClaLaw
namespace Go.Proofs.Ytkgkbpfjdlnoeaa.scoreClamps
open Go.Ve Go.ChangeShapes Go.WideShapes Go.ChangeAt Go.RowKit

theorem own : ownKnob Try.prog.godebug = none := by kernel_rfl
theorem allNames : Try.prog.funcs.all (fun fn => !(fn.name == "runtime.NumGoroutine")) = true := by kernel_rfl
theorem mixed : Try.prog.follows .mixedOrders = true := by kernel_rfl

set_option maxHeartbeats 4000000 in
set_option maxRecDepth 100000 in
theorem lifted (os : Os) (started : os.Started) (H : Type) (enc : TypeId × Value → H) :
    ReturnsInHanded {} Try.checked os 3 .any (Rows.scoreClampsSpec.pre6 enc Try.prog Try.f3 Rows.scoreClampsRow.domain false) (Rows.scoreClampsSpec.post enc Try.prog Try.f3 false true false false) := by
  refine returnsInHanded_of_change (C := Try.checked) own started (by kernel_rfl) Try.func3
    (ChangeSpec.witness6 (enc := enc) (C := Try.checked) false ⟨#[], #[.float .f64 0, .float .f64 0, .float .f64 0], []⟩ 8 (by kernel_rfl) (by kernel_rfl) (by kernel_rfl) (by kernel_rfl)) ?_
  intro W base args ds gs before hval hW hcnd _
  exact contract_of_ev (E := env) allNames mixed envOk (tb := 4) (by kernel_rfl) (by kernel_rfl) rfl Try.underlying4 rfl
    (fun ds h => match ds, h with | [_, _, _], _ => ⟨rfl, rfl, rfl⟩) (opensArgs_cons (t := 22) (b := false) (by kernel_rfl) (flat_float Try.underlying22).opens (opensArgs_cons (t := 22) (b := false) (by kernel_rfl) (flat_float Try.underlying22).opens (opensArgs_cons (t := 22) (b := false) (by kernel_rfl) (flat_float Try.underlying22).opens opensArgs_nil))) (fun x hx => (clamps_law x.1 x.2.1 x.2.2.1 hx.1 hx.2.1 hx.2.2.1).to) hval hW

theorem over : Rows.scoreClampsRow.holds Try.pinned (OpenSpec.ofChange Rows.scoreClampsSpec) :=
  OpenClaim.holds_of_wide 3 Try.f3 rfl rfl rfl rfl rfl rfl rfl ⟨rfl, rfl, rfl, rfl, rfl⟩ rfl rfl rfl rfl rfl (by kernel_rfl) Try.func3 (by kernel_rfl)
    (of_decide_eq_true (by kernel_rfl)) (by unfold Func.isWrapper; first | (rw [if_pos (by decide +kernel)]; kernel_rfl) | (rw [if_neg (by decide +kernel)]; exact ⟨rfl, rfl⟩))
    (fun os started H enc _ => lifted os started H enc)

/-- THE STATEMENT. -/
theorem proved : Rows.ScoreClampsSaid :=
  over
#print axioms proved
end Go.Proofs.Ytkgkbpfjdlnoeaa.scoreClamps

/- The law AgeHalves of layer 14 returns true for any span and any power; nothing that was there is changed. No conditions. -/
import Derived.Test.YtdjkfaennnibkaaRows
import Derived.Test.YtdjkfaennnibkaaVe12
import Derived.Test.YtdjkfaennnibkaaHalves
namespace Go.Proofs.Ytdjkfaennnibkaa.ageHalves
open Go.Ve Go.ChangeShapes Go.WideShapes Go.ChangeAt Go.RowKit

theorem own : ownKnob Try.prog.godebug = none := by kernel_rfl
theorem allNames : Try.prog.funcs.all (fun fn => !(fn.name == "runtime.NumGoroutine")) = true := by kernel_rfl
theorem mixed : Try.prog.follows .mixedOrders = true := by kernel_rfl

set_option maxRecDepth 100000 in
theorem lifted (os : Os) (started : os.Started) (H : Type) (enc : TypeId × Value → H) :
    ReturnsInHanded {} Try.checked os 4 .any (Rows.ageHalvesSpec.pre6 enc Try.prog Try.f4 Rows.ageHalvesRow.domain false) (Rows.ageHalvesSpec.post enc Try.prog Try.f4 false true false false) := by
  refine returnsInHanded_of_change (C := Try.checked) own started (by kernel_rfl) Try.func4
    (ChangeSpec.witness6 (enc := enc) (C := Try.checked) false ⟨#[], #[.int .i64 0, .int .i64 0], []⟩ 8 (by kernel_rfl) (by kernel_rfl) (by kernel_rfl) (by kernel_rfl)) ?_
  intro W base args ds gs before hval hW hcnd _
  exact contract_of_ev (E := env) allNames mixed envOk (tb := 4) (by kernel_rfl) (by kernel_rfl) rfl Try.underlying4 rfl
    (fun ds h => match ds, h with | [_, _], _ => ⟨rfl, rfl, rfl⟩) (opensArgs_cons (t := 2) (b := false) (by kernel_rfl) (flat_int Try.underlying2).opens (opensArgs_cons (t := 3) (b := false) (by kernel_rfl) (flat_int Try.underlying3).opens opensArgs_nil)) (fun x _ => (halves_law x.1 x.2.1).to) hval hW

theorem over : Rows.ageHalvesRow.holds Try.pinned (OpenSpec.ofChange Rows.ageHalvesSpec) :=
  OpenClaim.holds_of_wide 4 Try.f4 rfl rfl rfl rfl rfl rfl rfl ⟨rfl, rfl, rfl, rfl, rfl⟩ rfl rfl rfl rfl rfl (by kernel_rfl) Try.func4 (by kernel_rfl)
    (of_decide_eq_true (by kernel_rfl)) (by unfold Func.isWrapper; first | (rw [if_pos (by decide +kernel)]; kernel_rfl) | (rw [if_neg (by decide +kernel)]; exact ⟨rfl, rfl⟩))
    (fun os started H enc _ => lifted os started H enc)

/-- THE STATEMENT. -/
theorem proved : Rows.AgeHalvesSaid :=
  over
#print axioms proved
end Go.Proofs.Ytdjkfaennnibkaa.ageHalves

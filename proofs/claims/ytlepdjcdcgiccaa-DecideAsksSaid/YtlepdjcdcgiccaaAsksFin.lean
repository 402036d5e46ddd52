/- The law DecideAsks of layer 15 returns true for any stored response, control, second and more seconds; nothing that was there is changed. No conditions. -/
import Derived.Test.YtlepdjcdcgiccaaRows
import Derived.Test.YtlepdjcdcgiccaaVeS
import Derived.Test.YtlepdjcdcgiccaaAskLaw
namespace Go.Proofs.Ytlepdjcdcgiccaa.decideAsks
open Go.Ve Go.ChangeShapes Go.WideShapes Go.ChangeAt Go.RowKit

theorem own : ownKnob Try.prog.godebug = none := by kernel_rfl
theorem allNames : Try.prog.funcs.all (fun fn => !(fn.name == "runtime.NumGoroutine")) = true := by kernel_rfl
theorem mixed : Try.prog.follows .mixedOrders = true := by kernel_rfl

set_option maxRecDepth 100000 in
theorem lifted (os : Os) (started : os.Started) (H : Type) (enc : TypeId × Value → H) :
    ReturnsInHanded {} Try.checked os 3 .any (Rows.decideAsksSpec.pre6 enc Try.prog Try.f3 Rows.decideAsksRow.domain false) (Rows.decideAsksSpec.post enc Try.prog Try.f3 false true false false) := by
  refine returnsInHanded_of_change (C := Try.checked) own started (by kernel_rfl) Try.func3
    (ChangeSpec.witness6 (enc := enc) (C := Try.checked) false ⟨#[], #[.agg #[.int .i64 0, .int .i64 0, .int .i64 0, .int .i64 0, .int .i64 0, .int .i64 0, .bool false, .bool false, .bool false, .bool false, .bool false, .bool false, .bool false, .bool false, .bool false, .int .i64 0, .int .i64 0, .int .i64 0, .int .i64 0, .int .i64 0, .bool false], .agg #[.int .i64 0, .int .i64 0, .int .i64 0, .int .i64 0, .int .i64 0, .int .i64 0, .bool false, .bool false, .bool false, .bool false, .bool false, .bool false, .bool false, .bool false, .bool false], .int .i64 0, .int .i64 0], []⟩ 8 (by kernel_rfl) (by kernel_rfl) (by kernel_rfl) (by kernel_rfl)) ?_
  intro W base args ds gs before hval hW hcnd _
  exact contract_of_ev (E := envC) allNames mixed envCOk (tb := 4) (by kernel_rfl) (by kernel_rfl) rfl Try.underlying4 rfl
    (fun ds h => match ds, h with | [_, _, _, _], _ => ⟨rfl, rfl, rfl⟩) (opensArgs_cons (t := 27) (b := true) (by kernel_rfl) (flat_struct (n := 21) Try.underlying27 (flatFs_cons (n := 15) (flat_struct (n := 15) Try.underlying23 (flatFs_cons (n := 1) (flat_int Try.underlying2) (flatFs_cons (n := 1) (flat_int Try.underlying2) (flatFs_cons (n := 1) (flat_int Try.underlying2) (flatFs_cons (n := 1) (flat_int Try.underlying2) (flatFs_cons (n := 1) (flat_int Try.underlying2) (flatFs_cons (n := 1) (flat_int Try.underlying2) (flatFs_cons (n := 1) (flat_bool Try.underlying4) (flatFs_cons (n := 1) (flat_bool Try.underlying4) (flatFs_cons (n := 1) (flat_bool Try.underlying4) (flatFs_cons (n := 1) (flat_bool Try.underlying4) (flatFs_cons (n := 1) (flat_bool Try.underlying4) (flatFs_cons (n := 1) (flat_bool Try.underlying4) (flatFs_cons (n := 1) (flat_bool Try.underlying4) (flatFs_cons (n := 1) (flat_bool Try.underlying4) (flatFs_cons (n := 1) (flat_bool Try.underlying4) (flatFs_nil 15))))))))))))))))) (flatFs_cons (n := 4) (flat_struct (n := 4) Try.underlying25 (flatFs_cons (n := 1) (flat_int Try.underlying2) (flatFs_cons (n := 1) (flat_int Try.underlying2) (flatFs_cons (n := 1) (flat_int Try.underlying2) (flatFs_cons (n := 1) (flat_int Try.underlying2) (flatFs_nil 4)))))) (flatFs_cons (n := 1) (flat_int Try.underlying2) (flatFs_cons (n := 1) (flat_bool Try.underlying4) (flatFs_nil 21)))))).opens (opensArgs_cons (t := 23) (b := true) (by kernel_rfl) (flat_struct (n := 15) Try.underlying23 (flatFs_cons (n := 1) (flat_int Try.underlying2) (flatFs_cons (n := 1) (flat_int Try.underlying2) (flatFs_cons (n := 1) (flat_int Try.underlying2) (flatFs_cons (n := 1) (flat_int Try.underlying2) (flatFs_cons (n := 1) (flat_int Try.underlying2) (flatFs_cons (n := 1) (flat_int Try.underlying2) (flatFs_cons (n := 1) (flat_bool Try.underlying4) (flatFs_cons (n := 1) (flat_bool Try.underlying4) (flatFs_cons (n := 1) (flat_bool Try.underlying4) (flatFs_cons (n := 1) (flat_bool Try.underlying4) (flatFs_cons (n := 1) (flat_bool Try.underlying4) (flatFs_cons (n := 1) (flat_bool Try.underlying4) (flatFs_cons (n := 1) (flat_bool Try.underlying4) (flatFs_cons (n := 1) (flat_bool Try.underlying4) (flatFs_cons (n := 1) (flat_bool Try.underlying4) (flatFs_nil 15))))))))))))))))).opens (opensArgs_cons (t := 2) (b := false) (by kernel_rfl) (flat_int Try.underlying2).opens (opensArgs_cons (t := 2) (b := false) (by kernel_rfl) (flat_int Try.underlying2).opens opensArgs_nil)))) (fun x _ => (ask_law x.1.1.1 x.1.1.2.1 x.1.1.2.2.1 x.1.1.2.2.2.1 x.1.1.2.2.2.2.1 x.1.1.2.2.2.2.2.1 x.1.1.2.2.2.2.2.2.1 x.1.1.2.2.2.2.2.2.2.1 x.1.1.2.2.2.2.2.2.2.2.1 x.1.1.2.2.2.2.2.2.2.2.2.1 x.1.1.2.2.2.2.2.2.2.2.2.2.1 x.1.1.2.2.2.2.2.2.2.2.2.2.2.1 x.1.1.2.2.2.2.2.2.2.2.2.2.2.2.1 x.1.1.2.2.2.2.2.2.2.2.2.2.2.2.2.1 x.1.1.2.2.2.2.2.2.2.2.2.2.2.2.2.2.1 x.1.2.1.1 x.1.2.1.2.1 x.1.2.1.2.2.1 x.1.2.1.2.2.2.1 x.1.2.2.1 x.1.2.2.2.1 x.2.1.1 x.2.1.2.1 x.2.1.2.2.1 x.2.1.2.2.2.1 x.2.1.2.2.2.2.1 x.2.1.2.2.2.2.2.1 x.2.1.2.2.2.2.2.2.1 x.2.1.2.2.2.2.2.2.2.1 x.2.1.2.2.2.2.2.2.2.2.1 x.2.1.2.2.2.2.2.2.2.2.2.1 x.2.1.2.2.2.2.2.2.2.2.2.2.1 x.2.1.2.2.2.2.2.2.2.2.2.2.2.1 x.2.1.2.2.2.2.2.2.2.2.2.2.2.2.1 x.2.1.2.2.2.2.2.2.2.2.2.2.2.2.2.1 x.2.1.2.2.2.2.2.2.2.2.2.2.2.2.2.2.1 x.2.2.1 x.2.2.2.1).to) hval hW

theorem over : Rows.decideAsksRow.holds Try.pinned (OpenSpec.ofChange Rows.decideAsksSpec) :=
  OpenClaim.holds_of_wide 3 Try.f3 rfl rfl rfl rfl rfl rfl rfl ⟨rfl, rfl, rfl, rfl, rfl⟩ rfl rfl rfl rfl rfl (by kernel_rfl) Try.func3 (by kernel_rfl)
    (of_decide_eq_true (by kernel_rfl)) (by unfold Func.isWrapper; first | (rw [if_pos (by decide +kernel)]; kernel_rfl) | (rw [if_neg (by decide +kernel)]; exact ⟨rfl, rfl⟩))
    (fun os started H enc _ => lifted os started H enc)

/-- THE STATEMENT. -/
theorem proved : Rows.DecideAsksSaid :=
  over
#print axioms proved
end Go.Proofs.Ytlepdjcdcgiccaa.decideAsks

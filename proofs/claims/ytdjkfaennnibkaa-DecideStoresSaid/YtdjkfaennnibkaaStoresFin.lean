/- The law DecideStores of layer 15 returns true for any offer and any number; nothing that was there is changed. No conditions. -/
import Derived.Test.YtdjkfaennnibkaaRows
import Derived.Test.YtdjkfaennnibkaaVe12
import Derived.Test.YtdjkfaennnibkaaVeS
import Derived.Test.YtdjkfaennnibkaaStLaw
namespace Go.Proofs.Ytdjkfaennnibkaa.decideStores
open Go.Ve Go.ChangeShapes Go.WideShapes Go.ChangeAt Go.RowKit

theorem own : ownKnob Try.prog.godebug = none := by kernel_rfl
theorem allNames : Try.prog.funcs.all (fun fn => !(fn.name == "runtime.NumGoroutine")) = true := by kernel_rfl
theorem mixed : Try.prog.follows .mixedOrders = true := by kernel_rfl

set_option maxRecDepth 100000 in
theorem lifted (os : Os) (started : os.Started) (H : Type) (enc : TypeId × Value → H) :
    ReturnsInHanded {} Try.checked os 5 .any (Rows.decideStoresSpec.pre6 enc Try.prog Try.f5 Rows.decideStoresRow.domain false) (Rows.decideStoresSpec.post enc Try.prog Try.f5 false true false false) := by
  refine returnsInHanded_of_change (C := Try.checked) own started (by kernel_rfl) Try.func5
    (ChangeSpec.witness6 (enc := enc) (C := Try.checked) false ⟨#[], #[.agg #[.string ByteArray.empty, .int .i64 0, .int .i64 0, .int .i64 0, .int .i64 0, .int .i64 0, .int .i64 0, .bool false, .bool false, .bool false, .bool false, .bool false, .bool false, .bool false, .bool false, .bool false, .bool false, .int .i64 0, .int .i64 0, .int .i64 0, .int .i64 0, .int .i64 0, .int .i64 0, .int .i64 0, .bool false, .bool false, .bool false, .bool false, .bool false, .bool false, .bool false, .bool false, .bool false, .bool false, .bool false, .bool false], .int .i64 0], []⟩ 8 (by kernel_rfl) (by kernel_rfl) (by kernel_rfl) (by kernel_rfl)) ?_
  intro W base args ds gs before hval hW hcnd _
  exact contract_of_ev (E := env) allNames mixed envOk (tb := 4) (by kernel_rfl) (by kernel_rfl) rfl Try.underlying4 rfl
    (fun ds h => match ds, h with | [_, _], _ => ⟨rfl, rfl, rfl⟩) (opensArgs_cons (t := 32) (b := true) (by kernel_rfl) (flat_struct (n := 36) Try.underlying32 (flatFs_cons (n := 1) (flat_str Try.underlying9) (flatFs_cons (n := 15) (flat_struct (n := 15) Try.underlying30 (flatFs_cons (n := 1) (flat_int Try.underlying2) (flatFs_cons (n := 1) (flat_int Try.underlying2) (flatFs_cons (n := 1) (flat_int Try.underlying2) (flatFs_cons (n := 1) (flat_int Try.underlying2) (flatFs_cons (n := 1) (flat_int Try.underlying2) (flatFs_cons (n := 1) (flat_int Try.underlying2) (flatFs_cons (n := 1) (flat_bool Try.underlying4) (flatFs_cons (n := 1) (flat_bool Try.underlying4) (flatFs_cons (n := 1) (flat_bool Try.underlying4) (flatFs_cons (n := 1) (flat_bool Try.underlying4) (flatFs_cons (n := 1) (flat_bool Try.underlying4) (flatFs_cons (n := 1) (flat_bool Try.underlying4) (flatFs_cons (n := 1) (flat_bool Try.underlying4) (flatFs_cons (n := 1) (flat_bool Try.underlying4) (flatFs_cons (n := 1) (flat_bool Try.underlying4) (flatFs_nil 15))))))))))))))))) (flatFs_cons (n := 1) (flat_bool Try.underlying4) (flatFs_cons (n := 1) (flat_int Try.underlying3) (flatFs_cons (n := 15) (flat_struct (n := 15) Try.underlying30 (flatFs_cons (n := 1) (flat_int Try.underlying2) (flatFs_cons (n := 1) (flat_int Try.underlying2) (flatFs_cons (n := 1) (flat_int Try.underlying2) (flatFs_cons (n := 1) (flat_int Try.underlying2) (flatFs_cons (n := 1) (flat_int Try.underlying2) (flatFs_cons (n := 1) (flat_int Try.underlying2) (flatFs_cons (n := 1) (flat_bool Try.underlying4) (flatFs_cons (n := 1) (flat_bool Try.underlying4) (flatFs_cons (n := 1) (flat_bool Try.underlying4) (flatFs_cons (n := 1) (flat_bool Try.underlying4) (flatFs_cons (n := 1) (flat_bool Try.underlying4) (flatFs_cons (n := 1) (flat_bool Try.underlying4) (flatFs_cons (n := 1) (flat_bool Try.underlying4) (flatFs_cons (n := 1) (flat_bool Try.underlying4) (flatFs_cons (n := 1) (flat_bool Try.underlying4) (flatFs_nil 15))))))))))))))))) (flatFs_cons (n := 1) (flat_bool Try.underlying4) (flatFs_cons (n := 1) (flat_bool Try.underlying4) (flatFs_cons (n := 1) (flat_bool Try.underlying4) (flatFs_nil 36)))))))))).opens (opensArgs_cons (t := 3) (b := false) (by kernel_rfl) (flat_int Try.underlying3).opens opensArgs_nil)) (fun x _ => (stores_law x.1.1 x.1.2.1.1 x.1.2.1.2.1 x.1.2.1.2.2.1 x.1.2.1.2.2.2.1 x.1.2.1.2.2.2.2.1 x.1.2.1.2.2.2.2.2.1 x.1.2.1.2.2.2.2.2.2.1 x.1.2.1.2.2.2.2.2.2.2.1 x.1.2.1.2.2.2.2.2.2.2.2.1 x.1.2.1.2.2.2.2.2.2.2.2.2.1 x.1.2.1.2.2.2.2.2.2.2.2.2.2.1 x.1.2.1.2.2.2.2.2.2.2.2.2.2.2.1 x.1.2.1.2.2.2.2.2.2.2.2.2.2.2.2.1 x.1.2.1.2.2.2.2.2.2.2.2.2.2.2.2.2.1 x.1.2.1.2.2.2.2.2.2.2.2.2.2.2.2.2.2.1 x.1.2.2.1 x.1.2.2.2.1 x.1.2.2.2.2.1.1 x.1.2.2.2.2.1.2.1 x.1.2.2.2.2.1.2.2.1 x.1.2.2.2.2.1.2.2.2.1 x.1.2.2.2.2.1.2.2.2.2.1 x.1.2.2.2.2.1.2.2.2.2.2.1 x.1.2.2.2.2.1.2.2.2.2.2.2.1 x.1.2.2.2.2.1.2.2.2.2.2.2.2.1 x.1.2.2.2.2.1.2.2.2.2.2.2.2.2.1 x.1.2.2.2.2.1.2.2.2.2.2.2.2.2.2.1 x.1.2.2.2.2.1.2.2.2.2.2.2.2.2.2.2.1 x.1.2.2.2.2.1.2.2.2.2.2.2.2.2.2.2.2.1 x.1.2.2.2.2.1.2.2.2.2.2.2.2.2.2.2.2.2.1 x.1.2.2.2.2.1.2.2.2.2.2.2.2.2.2.2.2.2.2.1 x.1.2.2.2.2.1.2.2.2.2.2.2.2.2.2.2.2.2.2.2.1 x.1.2.2.2.2.2.1 x.1.2.2.2.2.2.2.1 x.1.2.2.2.2.2.2.2.1 x.2.1).to) hval hW

theorem over : Rows.decideStoresRow.holds Try.pinned (OpenSpec.ofChange Rows.decideStoresSpec) :=
  OpenClaim.holds_of_wide 5 Try.f5 rfl rfl rfl rfl rfl rfl rfl ⟨rfl, rfl, rfl, rfl, rfl⟩ rfl rfl rfl rfl rfl (by kernel_rfl) Try.func5 (by kernel_rfl)
    (of_decide_eq_true (by kernel_rfl)) (by unfold Func.isWrapper; first | (rw [if_pos (by decide +kernel)]; kernel_rfl) | (rw [if_neg (by decide +kernel)]; exact ⟨rfl, rfl⟩))
    (fun os started H enc _ => lifted os started H enc)

/-- THE STATEMENT. -/
theorem proved : Rows.DecideStoresSaid :=
  over
#print axioms proved
end Go.Proofs.Ytdjkfaennnibkaa.decideStores

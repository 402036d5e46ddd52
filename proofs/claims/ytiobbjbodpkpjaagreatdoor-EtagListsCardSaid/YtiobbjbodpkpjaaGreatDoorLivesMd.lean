/- How the regions that draw their order are reckoned, in the code that the law lives reaches. -/
import Derived.Test.YtiobbjbodpkpjaaGreatDoorProg
import Derived.Test.YtiobbjbodpkpjaaGreatDoorEe
namespace Go.Proofs.YtiobbjbodpkpjaaGreatDoor.lives
open Go Go.Ve
set_option maxRecDepth 20000
def V : VM := []
theorem Vok : ∀ p ∈ V, goodF Tryz.prog p = true := by
  intro p hp
  exact absurd hp (by simp [V])
theorem names0 : Tryz.prog.funcs.all (fun fn => !(fn.name == "runtime.NumGoroutine")) = true := by kernel_rfl
theorem mixed0 : Tryz.prog.follows .mixedOrders = true := by kernel_rfl
noncomputable def env0 : Env := ⟨Tryz.prog, fun _ _ _ => none⟩
theorem env0Ok : CallOk env0.P env0.orc := fun f args H v ch h => by cases h
theorem call0 : CallOk Tryz.prog (callI env0 V (evI env0 V 400)) := callI_all (E := env0) Vok names0 mixed0 env0Ok 400
end Go.Proofs.YtiobbjbodpkpjaaGreatDoor.lives

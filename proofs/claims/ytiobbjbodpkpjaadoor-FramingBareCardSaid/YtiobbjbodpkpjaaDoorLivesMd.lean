/- How the regions that draw their order are reckoned, in the code that the law lives reaches. -/
import Derived.Test.YtiobbjbodpkpjaaDoorProg
import Derived.Test.YtiobbjbodpkpjaaDoorEe
set_option linter.unusedSimpArgs false
set_option linter.unusedVariables false
namespace Go.Proofs.YtiobbjbodpkpjaaDoor.lives
open Go Go.Ve
set_option maxRecDepth 20000
def r18 : RM := [(8, .chain [0, 0, 0, 0, 0, 0, 274877906944, 274877906944, 274877906944, 240518168576, 0, 0, 0] [1, 2, 4, 8, 16, 32, 64, 128, 512, 448, 1024, 2048, 4096])]
theorem g18 : goodF Tryd.prog (18, r18) = true := by kernel_rfl
def V : VM := [(18, r18)]
theorem Vok : ∀ p ∈ V, goodF Tryd.prog p = true := by
  intro p hp
  simp only [V, List.mem_cons, List.mem_nil_iff, or_false] at hp
  rcases hp with rfl
  · exact g18
theorem names0 : Tryd.prog.funcs.all (fun fn => !(fn.name == "runtime.NumGoroutine")) = true := by kernel_rfl
theorem mixed0 : Tryd.prog.follows .mixedOrders = true := by kernel_rfl
noncomputable def env0 : Env := ⟨Tryd.prog, fun _ _ _ => none⟩
theorem env0Ok : CallOk env0.P env0.orc := fun f args H v ch h => by cases h
theorem call0 : CallOk Tryd.prog (callI env0 V (evI env0 V 400)) := callI_all (E := env0) Vok names0 mixed0 env0Ok 400
end Go.Proofs.YtiobbjbodpkpjaaDoor.lives

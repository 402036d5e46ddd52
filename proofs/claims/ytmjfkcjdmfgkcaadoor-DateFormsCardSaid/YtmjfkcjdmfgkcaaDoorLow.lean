/- What all walks begin with. -/
import Derived.Test.YtmjfkcjdmfgkcaaDoorProg
import Derived.Test.YtmjfkcjdmfgkcaaDoorSc
set_option linter.unusedSimpArgs false
set_option linter.unusedVariables false
namespace Go.Proofs.YtmjfkcjdmfgkcaaDoor
open Go Go.Ve
set_option maxRecDepth 20000
theorem names0 : Tryd.prog.funcs.all (fun fn => !(fn.name == "runtime.NumGoroutine")) = true := by kernel_rfl
theorem mixed0 : Tryd.prog.follows .mixedOrders = true := by kernel_rfl
noncomputable def V0 : VE := ⟨Tryd.prog, noS, noO, fun _ => none⟩
end Go.Proofs.YtmjfkcjdmfgkcaaDoor

/- The environment of layer 15. -/
import Derived.Test.YtmhhhcflnjfaiaaProg
import Derived.Test.YtmhhhcflnjfaiaaVe14
namespace Go.Proofs.Ytmhhhcflnjfaiaa
open Go Go.Ve
noncomputable def env : Env := ⟨Try.prog, fun _ _ _ => none⟩
theorem envOk : CallOk env.P env.orc := fun f args H v ch h => by cases h
theorem livesAny : evCall env (ev env 40) 7 [] [] = some (.bool true, none) := by kernel_rfl
end Go.Proofs.Ytmhhhcflnjfaiaa

/- The environment of layer 23. -/
import Derived.Test.YtpdioclnoigopaaProg
import Derived.Test.YtpdioclnoigopaaVe14
namespace Go.Proofs.Ytpdioclnoigopaa
open Go Go.Ve
noncomputable def env : Env := ⟨Try.prog, fun _ _ _ => none⟩
theorem envOk : CallOk env.P env.orc := fun f args H v ch h => by cases h
theorem livesAny : evCall env (ev env 40) 9 [] [] = some (.bool true, none) := by kernel_rfl
end Go.Proofs.Ytpdioclnoigopaa

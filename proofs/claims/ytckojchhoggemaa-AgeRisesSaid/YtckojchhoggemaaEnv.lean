/- The environment of layer 14. -/
import Derived.Test.YtckojchhoggemaaProg
import Derived.Test.YtckojchhoggemaaVe14
namespace Go.Proofs.Ytckojchhoggemaa
open Go Go.Ve
noncomputable def env : Env := ⟨Try.prog, fun _ _ _ => none⟩
theorem envOk : CallOk env.P env.orc := fun f args H v ch h => by cases h
theorem livesAny : evCall env (ev env 40) 7 [] [] = some (.bool true, none) := by kernel_rfl
end Go.Proofs.Ytckojchhoggemaa

/- The environment of the seat. -/
import Derived.Test.YtlepdjcdcgiccaaProg
import Derived.Test.YtlepdjcdcgiccaaVe14
namespace Go.Proofs.Ytlepdjcdcgiccaa
open Go Go.Ve
noncomputable def env : Env := ⟨Try.prog, fun _ _ _ => none⟩
theorem envOk : CallOk env.P env.orc := fun f args H v ch h => by cases h
end Go.Proofs.Ytlepdjcdcgiccaa

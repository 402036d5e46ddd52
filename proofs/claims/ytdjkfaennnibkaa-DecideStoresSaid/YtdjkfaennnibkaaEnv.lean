/- The environment of the seat. -/
import Derived.Test.YtdjkfaennnibkaaProg
import Derived.Test.YtdjkfaennnibkaaVe14
namespace Go.Proofs.Ytdjkfaennnibkaa
open Go Go.Ve
noncomputable def env : Env := ⟨Try.prog, fun _ _ _ => none⟩
theorem envOk : CallOk env.P env.orc := fun f args H v ch h => by cases h
end Go.Proofs.Ytdjkfaennnibkaa

/- Calls that the law DecideNames makes, reckoned (1.2). -/
import Derived.Test.YtililkcbnkidjaaGreatDoorDecideNamesMd
namespace Go.Proofs.YtililkcbnkidjaaGreatDoor.decideNames
open Go Go.Ve
set_option maxRecDepth 20000
theorem q1_2_0 : sCall env0 V (sev env0 V 400) 64 [.str [109, 97, 120, 45, 97, 103, 101]] [] = some (.bool true, none) := by kernel_rfl
end Go.Proofs.YtililkcbnkidjaaGreatDoor.decideNames

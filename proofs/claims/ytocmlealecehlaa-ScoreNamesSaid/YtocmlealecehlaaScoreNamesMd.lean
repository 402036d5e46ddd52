/- How the regions that draw their order are reckoned, in the code that the law ScoreNames reaches. -/
import Derived.Test.YtocmlealecehlaaProg
import Derived.Test.YtocmlealecehlaaVeP
namespace Go.Proofs.Ytocmlealecehlaa.scoreNames
open Go Go.Ve
set_option maxRecDepth 20000
def r11 : RM := [(6, .chain [31719424, 31588352, 31457280, 31457280, 6160384, 4063232, 1966080, 1966080, 0, 0] [1, 2, 4, 240, 16, 32, 64, 15, 0, 512])]
theorem g11 : goodF Try.prog (11, r11) = true := by kernel_rfl
def r57 : RM := [(4, .chain [524288, 262144, 0, 0, 4286578688, 4181721088, 4173332480, 4164943872, 4164943872, 935329792, 264241152, 264241152, 130023424, 130023424, 0, 0, 0] [1, 2, 4, 8, 16, 32, 64, 128, 15888, 512, 1024, 2048, 4096, 496, 0, 32768, 65536]), (6, .chain [2251524935778304, 2251387496824832, 4502912432603136, 4500163653533696, 4500163653533696, 2141711211954176, 2119720979398656, 2119720979398656, 2115322932887552, 2115322932887552, 422075026112512, 281337537757184, 140600049401856, 140600049401856, 3848290697216, 3848290697216, 0, 0] [1, 2, 4, 8, 16, 32, 64, 128, 256, 15391, 1024, 2048, 4096, 1023, 16384, 28, 65536, 0])]
theorem g57 : goodF Try.prog (57, r57) = true := by kernel_rfl
def V : VM := [(11, r11), (57, r57)]
theorem Vok : ∀ p ∈ V, goodF Try.prog p = true := by
  intro p hp
  simp only [V, List.mem_cons, List.mem_nil_iff, or_false] at hp
  rcases hp with rfl | rfl
  · exact g11
  · exact g57
theorem names0 : Try.prog.funcs.all (fun fn => !(fn.name == "runtime.NumGoroutine")) = true := by kernel_rfl
theorem mixed0 : Try.prog.follows .mixedOrders = true := by kernel_rfl
noncomputable def env0 : Env := ⟨Try.prog, fun _ _ _ => none⟩
theorem env0Ok : CallOk env0.P env0.orc := fun f args H v ch h => by cases h
theorem call0 : CallOk Try.prog (callI env0 V (evI env0 V 400)) := callI_all (E := env0) Vok names0 mixed0 env0Ok 400
end Go.Proofs.Ytocmlealecehlaa.scoreNames

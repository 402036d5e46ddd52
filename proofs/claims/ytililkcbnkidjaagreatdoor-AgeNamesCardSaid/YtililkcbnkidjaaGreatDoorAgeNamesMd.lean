/- How the regions that draw their order are reckoned, in the code that the law AgeNames reaches. -/
import Derived.Test.YtililkcbnkidjaaGreatDoorProg
import Derived.Test.YtililkcbnkidjaaGreatDoorVeP
namespace Go.Proofs.YtililkcbnkidjaaGreatDoor.ageNames
open Go Go.Ve
set_option maxRecDepth 20000
def r16 : RM := [(1, .gen 20)]
theorem g16 : goodF Tryz.prog (16, r16) = true := by kernel_rfl
def r18 : RM := [(1, .quiet)]
theorem g18 : goodF Tryz.prog (18, r18) = true := by kernel_rfl
def r19 : RM := [(1, .quiet)]
theorem g19 : goodF Tryz.prog (19, r19) = true := by kernel_rfl
def r35 : RM := [(13, .chain [8778913153024, 2345052143616, 2345052143616, 6743098654720, 6725918785536, 6605659701248, 6605659701248, 6605659701248, 2190433320960, 2138893713408, 0] [1, 273, 273, 785, 16, 32, 64, 769, 256, 249, 0]), (8, .chain [33292288, 13238272, 29753344, 29491200, 29491200, 12451840, 8257536, 3801088, 0] [1, 101, 4, 8, 225, 32, 64, 29, 0])]
theorem g35 : goodF Tryz.prog (35, r35) = true := by kernel_rfl
def r104 : RM := [(2, .quiet)]
theorem g104 : goodF Tryz.prog (104, r104) = true := by kernel_rfl
def r110 : RM := [(3, .quiet)]
theorem g110 : goodF Tryz.prog (110, r110) = true := by kernel_rfl
def V : VM := [(16, r16), (18, r18), (19, r19), (35, r35), (104, r104), (110, r110)]
theorem Vok : ∀ p ∈ V, goodF Tryz.prog p = true := by
  intro p hp
  simp only [V, List.mem_cons, List.mem_nil_iff, or_false] at hp
  rcases hp with rfl | rfl | rfl | rfl | rfl | rfl
  · exact g16
  · exact g18
  · exact g19
  · exact g35
  · exact g104
  · exact g110
theorem names0 : Tryz.prog.funcs.all (fun fn => !(fn.name == "runtime.NumGoroutine")) = true := by kernel_rfl
theorem mixed0 : Tryz.prog.follows .mixedOrders = true := by kernel_rfl
noncomputable def env0 : Env := ⟨Tryz.prog, fun _ _ _ => none⟩
theorem env0Ok : CallOk env0.P env0.orc := fun f args H v ch h => by cases h
theorem call0 : CallOk Tryz.prog (evCallM env0 V (evM env0 V 400)) := callM_ok (E := env0) Vok names0 mixed0 env0Ok 400
end Go.Proofs.YtililkcbnkidjaaGreatDoor.ageNames

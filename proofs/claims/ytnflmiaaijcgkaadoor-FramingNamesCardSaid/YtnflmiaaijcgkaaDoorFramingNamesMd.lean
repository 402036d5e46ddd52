/- How the regions that draw their order are reckoned, in the code that the law FramingNames reaches. -/
import Derived.Test.YtnflmiaaijcgkaaDoorProg
import Derived.Test.YtnflmiaaijcgkaaDoorVeP
namespace Go.Proofs.YtnflmiaaijcgkaaDoor.framingNames
open Go Go.Ve
set_option maxRecDepth 20000
def r35 : RM := [(8, .chain [0, 0, 0, 0, 0, 0, 274877906944, 274877906944, 274877906944, 240518168576, 0, 0, 0] [1, 2, 4, 8, 16, 32, 64, 128, 512, 448, 1024, 2048, 4096])]
theorem g35 : goodF Tryd.prog (35, r35) = true := by kernel_rfl
def r69 : RM := [(3, .chain [1556480, 1556480, 1556480, 1556480, 1556480, 1064448, 1064448, 1064448, 1064448, 1064448, 1048576, 1048064, 0] [1, 2, 4, 3040, 3040, 32, 64, 128, 2079, 2079, 1024, 2048, 4096])]
theorem g69 : goodF Tryd.prog (69, r69) = true := by kernel_rfl
def r71 : RM := [(1, .chain [7936, 7936, 7936, 7936, 7936, 248, 248, 248, 248, 248, 0, 0] [1, 2, 4, 992, 992, 32, 64, 128, 31, 31, 0, 2048])]
theorem g71 : goodF Tryd.prog (71, r71) = true := by kernel_rfl
def r79 : RM := [(1, .chain [448, 288, 288, 224, 0, 0, 0] [1, 2, 9, 7, 16, 0, 64])]
theorem g79 : goodF Tryd.prog (79, r79) = true := by kernel_rfl
def r88 : RM := [(0, .chain [509952, 509952, 509952, 509952, 509952, 509952, 509920, 507904, 507904, 16352, 16352, 16352, 16352, 16352, 0, 0] [1, 2, 4, 15936, 15936, 32, 64, 128, 15872, 512, 1024, 2048, 511, 511, 16384, 32768])]
theorem g88 : goodF Tryd.prog (88, r88) = true := by kernel_rfl
def V : VM := [(35, r35), (69, r69), (71, r71), (79, r79), (88, r88)]
theorem Vok : ∀ p ∈ V, goodF Tryd.prog p = true := by
  intro p hp
  simp only [V, List.mem_cons, List.mem_nil_iff, or_false] at hp
  rcases hp with rfl | rfl | rfl | rfl | rfl
  · exact g35
  · exact g69
  · exact g71
  · exact g79
  · exact g88
theorem names0 : Tryd.prog.funcs.all (fun fn => !(fn.name == "runtime.NumGoroutine")) = true := by kernel_rfl
theorem mixed0 : Tryd.prog.follows .mixedOrders = true := by kernel_rfl
noncomputable def env0 : Env := ⟨Tryd.prog, fun _ _ _ => none⟩
theorem env0Ok : CallOk env0.P env0.orc := fun f args H v ch h => by cases h
theorem call0 : CallOk Tryd.prog (callI env0 V (evI env0 V 400)) := callI_all (E := env0) Vok names0 mixed0 env0Ok 400
end Go.Proofs.YtnflmiaaijcgkaaDoor.framingNames

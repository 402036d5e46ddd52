/- How the regions that draw their order are reckoned, in the code that the law VaryNames reaches. -/
import Derived.Test.YtocmlealecehlaaDoorProg
import Derived.Test.YtocmlealecehlaaDoorVeP
namespace Go.Proofs.YtocmlealecehlaaDoor.varyNames
open Go Go.Ve
set_option maxRecDepth 20000
def r17 : RM := [(6, .chain [31719424, 31588352, 31457280, 31457280, 6160384, 4063232, 1966080, 1966080, 0] [1, 2, 4, 240, 16, 32, 64, 15, 256])]
theorem g17 : goodF Tryd.prog (17, r17) = true := by kernel_rfl
def r39 : RM := [(6, .chain [32636928, 32571392, 32505856, 32505856, 7274496, 2031616, 2031616, 983040, 983040, 0] [1, 2, 4, 496, 16, 32, 64, 128, 15, 512])]
theorem g39 : goodF Tryd.prog (39, r39) = true := by kernel_rfl
def r44 : RM := [(1, .chain [832, 800, 768, 736, 480, 0, 0, 0] [26, 2, 24, 23, 16, 0, 64, 128])]
theorem g44 : goodF Tryd.prog (44, r44) = true := by kernel_rfl
def r47 : RM := [(1, .chain [7936, 7936, 7936, 7936, 7936, 248, 248, 248, 248, 248, 0, 0] [1, 2, 4, 992, 992, 32, 64, 128, 31, 31, 0, 2048])]
theorem g47 : goodF Tryd.prog (47, r47) = true := by kernel_rfl
def r60 : RM := [(3, .chain [1556480, 1556480, 1556480, 1556480, 1556480, 1064448, 1064448, 1064448, 1064448, 1064448, 1048576, 1048064, 0] [1, 2, 4, 3040, 3040, 32, 64, 128, 2079, 2079, 1024, 2048, 4096])]
theorem g60 : goodF Tryd.prog (60, r60) = true := by kernel_rfl
def r68 : RM := [(6, .chain [140720308486144, 140711718551552, 281432027037696, 281260228345856, 281260228345856, 133856950747136, 132482561212416, 132482561212416, 132207683305472, 132207683305472, 26379689132032, 17583596109824, 8787503087616, 8787503087616, 240518168576, 240518168576, 0, 0] [1, 2, 4, 8, 16, 32, 64, 128, 256, 15391, 1024, 2048, 4096, 1023, 16384, 28, 65536, 0]), (4, .chain [131072, 65536, 0, 0, 522190848, 521142272, 520093696, 520093696, 116391936, 32505856, 32505856, 15728640, 15728640, 0, 0] [1, 2, 4, 8, 16, 32, 64, 7936, 256, 512, 1024, 2048, 240, 0, 16384])]
theorem g68 : goodF Tryd.prog (68, r68) = true := by kernel_rfl
def r82 : RM := [(0, .chain [509952, 509952, 509952, 509952, 509952, 509952, 509920, 507904, 507904, 16352, 16352, 16352, 16352, 16352, 0, 0] [1, 2, 4, 15936, 15936, 32, 64, 128, 15872, 512, 1024, 2048, 511, 511, 16384, 32768])]
theorem g82 : goodF Tryd.prog (82, r82) = true := by kernel_rfl
def V : VM := [(17, r17), (39, r39), (44, r44), (47, r47), (60, r60), (68, r68), (82, r82)]
theorem Vok : ∀ p ∈ V, goodF Tryd.prog p = true := by
  intro p hp
  simp only [V, List.mem_cons, List.mem_nil_iff, or_false] at hp
  rcases hp with rfl | rfl | rfl | rfl | rfl | rfl | rfl
  · exact g17
  · exact g39
  · exact g44
  · exact g47
  · exact g60
  · exact g68
  · exact g82
theorem names0 : Tryd.prog.funcs.all (fun fn => !(fn.name == "runtime.NumGoroutine")) = true := by kernel_rfl
theorem mixed0 : Tryd.prog.follows .mixedOrders = true := by kernel_rfl
noncomputable def env0 : Env := ⟨Tryd.prog, fun _ _ _ => none⟩
theorem env0Ok : CallOk env0.P env0.orc := fun f args H v ch h => by cases h
theorem call0 : CallOk Tryd.prog (callI env0 V (evI env0 V 400)) := callI_all (E := env0) Vok names0 mixed0 env0Ok 400
end Go.Proofs.YtocmlealecehlaaDoor.varyNames

/- How the regions that draw their order are reckoned, in the code that the law DateNames reaches. -/
import Derived.Test.YtnflmiaaijcgkaaDoorProg
import Derived.Test.YtnflmiaaijcgkaaDoorVeP
namespace Go.Proofs.YtnflmiaaijcgkaaDoor.dateNames
open Go Go.Ve
set_option maxRecDepth 20000
def r7 : RM := [(4, .chain [19576869978112, 57030670827520, 57030670827520, 57030670811136, 57030670811136, 57030670811136, 57030670811136, 19576865669120, 19576865669120, 19576865652736, 57030656131072, 57030656131072, 19576915984384, 57028709957632, 57028709957632, 57028628152320, 57028628152320, 57028575756288, 57028575756288, 19524921311232, 19524921311232, 19524921311232, 19524839505920, 56899726737408, 17867063934976, 17867063934976, 17867063934976, 17738133110784, 52776558133248, 52776558133248, 17592186028032, 13340086599680, 0, 0, 0, 0] [1194877318, 2, 3480875905, 8, 3480875904, 32, 64, 128, 1194877055, 1194877054, 1024, 2048, 1194880126, 8192, 3480756223, 32768, 3480751230, 131072, 262144, 524288, 1191706623, 2097152, 1191701630, 8388608, 16777216, 1090519039, 67108864, 1082649726, 268435456, 536870912, 1073741823, 814214270, 4294967296, 8589934592, 17179869184, 34359738368])]
theorem g7 : goodF Tryd.prog (7, r7) = true := by kernel_rfl
def r22 : RM := [(1, .quiet)]
theorem g22 : goodF Tryd.prog (22, r22) = true := by kernel_rfl
def V : VM := [(7, r7), (22, r22)]
theorem Vok : ∀ p ∈ V, goodF Tryd.prog p = true := by
  intro p hp
  simp only [V, List.mem_cons, List.mem_nil_iff, or_false] at hp
  rcases hp with rfl | rfl
  · exact g7
  · exact g22
theorem names0 : Tryd.prog.funcs.all (fun fn => !(fn.name == "runtime.NumGoroutine")) = true := by kernel_rfl
theorem mixed0 : Tryd.prog.follows .mixedOrders = true := by kernel_rfl
noncomputable def env0 : Env := ⟨Tryd.prog, fun _ _ _ => none⟩
theorem env0Ok : CallOk env0.P env0.orc := fun f args H v ch h => by cases h
theorem call0 : CallOk Tryd.prog (evCallM env0 V (evM env0 V 400)) := callM_ok (E := env0) Vok names0 mixed0 env0Ok 400
end Go.Proofs.YtnflmiaaijcgkaaDoor.dateNames

/- The environment: what slices.Collect answers is reckoned with ranges over functions. -/
import Derived.Test.YtkgkbpfjdlnoeaaProg
import Derived.Test.YtkgkbpfjdlnoeaaVeP
import Derived.Test.YtkgkbpfjdlnoeaaVe14
namespace Go.Proofs.Ytkgkbpfjdlnoeaa
open Go Go.Ve
set_option maxRecDepth 20000
theorem names0 : Try.prog.funcs.all (fun fn => !(fn.name == "runtime.NumGoroutine")) = true := by kernel_rfl
theorem mixed0 : Try.prog.follows .mixedOrders = true := by kernel_rfl
noncomputable def env0 : Env := ⟨Try.prog, fun _ _ _ => none⟩
theorem env0Ok : CallOk env0.P env0.orc := fun f args H v ch h => by cases h
theorem call0 : CallOk Try.prog (callI env0 [] (evI env0 [] 60)) := callI_all (E := env0) (V := []) (fun p hp => absurd hp (by simp)) names0 mixed0 env0Ok 60
noncomputable def env : Env := ⟨Try.prog, fun f args H => bif Nat.beq f 17 then callI env0 [] (evI env0 [] 60) f args H else none⟩
theorem envOk : CallOk env.P env.orc := by
  intro f args H v ch h
  have h' : (bif Nat.beq f 17 then callI env0 [] (evI env0 [] 60) f args H else none) = some (v, ch) := h
  cases hb : Nat.beq f 17 with
  | true => rw [hb] at h'; exact call0 f args H v ch h'
  | false => rw [hb] at h'; cases h'
theorem orc_col (args : List AV) (H : AH) : env.orc 17 args H = callI env0 [] (evI env0 [] 60) 17 args H := rfl
theorem livesAny : evCall env (ev env 40) 4 [] [] = some (.bool true, none) := by kernel_rfl
end Go.Proofs.Ytkgkbpfjdlnoeaa

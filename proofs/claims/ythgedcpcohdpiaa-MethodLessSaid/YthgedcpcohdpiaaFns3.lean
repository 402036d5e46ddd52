/- Small tests of layer 13. -/
import Derived.Test.YthgedcpcohdpiaaFns2
namespace Go.Proofs.Ythgedcpcohdpiaa
open Go Go.Ve

theorem refSafe (m : List UInt8) (H : AH) : CW env 18 [.str m] H fun v ch => v = .bool (([[71, 69, 84], [72, 69, 65, 68], [79, 80, 84, 73, 79, 78, 83], [84, 82, 65, 67, 69]] : List (List UInt8)).contains m) ∧ ch = none := by
  by_cases h0 : (m == [71, 69, 84]) = true
  · refine CW.body (E := env) (f := 18) rfl Try.func18 rfl Try.ntmps18 ?_
    repeat (first | refine WP.seq ?_ | refine WP.region ?_ | refine opsW.mov rfl rfl rfl ?_ | refine opsW.asg rfl rfl rfl ?_ | refine opsW.boolE (by rfl) (by rfl) (by rfl) (by assumption) ?_ | refine opsW.go (by rfl) (by rfl) (by rfl) ?_ | refine opsW.skip rfl ?_ | refine opsW.pickT rfl rfl rfl (by constructor <;> rfl) ?_ | refine opsW.pickF rfl rfl rfl (by constructor <;> rfl) ?_ | refine opsW.done ?_ | refine WP.block ?_ | refine thenQ.norm ?_ | refine WP.skip ?_ | refine WP.cond_true rfl ?_ | refine WP.cond_false rfl ?_ | refine WP.ret ?_ | refine thenQ.ret ?_ | refine blockQ.ret ?_)
    refine endQ rfl (by simp) (v := .bool true) rfl rfl ⟨bool_eq (by simp only [List.contains_cons, h0]; simp), rfl⟩ (by intro _ h; cases h)
  rw [Bool.not_eq_true] at h0
  by_cases h1 : (m == [72, 69, 65, 68]) = true
  · refine CW.body (E := env) (f := 18) rfl Try.func18 rfl Try.ntmps18 ?_
    repeat (first | refine WP.seq ?_ | refine WP.region ?_ | refine opsW.mov rfl rfl rfl ?_ | refine opsW.asg rfl rfl rfl ?_ | refine opsW.boolE (by rfl) (by rfl) (by rfl) (by assumption) ?_ | refine opsW.go (by rfl) (by rfl) (by rfl) ?_ | refine opsW.skip rfl ?_ | refine opsW.pickT rfl rfl rfl (by constructor <;> rfl) ?_ | refine opsW.pickF rfl rfl rfl (by constructor <;> rfl) ?_ | refine opsW.done ?_ | refine WP.block ?_ | refine thenQ.norm ?_ | refine WP.skip ?_ | refine WP.cond_true rfl ?_ | refine WP.cond_false rfl ?_ | refine WP.ret ?_ | refine thenQ.ret ?_ | refine blockQ.ret ?_)
    refine endQ rfl (by simp) (v := .bool true) rfl rfl ⟨bool_eq (by simp only [List.contains_cons, h0, h1]; simp), rfl⟩ (by intro _ h; cases h)
  rw [Bool.not_eq_true] at h1
  by_cases h2 : (m == [79, 80, 84, 73, 79, 78, 83]) = true
  · refine CW.body (E := env) (f := 18) rfl Try.func18 rfl Try.ntmps18 ?_
    repeat (first | refine WP.seq ?_ | refine WP.region ?_ | refine opsW.mov rfl rfl rfl ?_ | refine opsW.asg rfl rfl rfl ?_ | refine opsW.boolE (by rfl) (by rfl) (by rfl) (by assumption) ?_ | refine opsW.go (by rfl) (by rfl) (by rfl) ?_ | refine opsW.skip rfl ?_ | refine opsW.pickT rfl rfl rfl (by constructor <;> rfl) ?_ | refine opsW.pickF rfl rfl rfl (by constructor <;> rfl) ?_ | refine opsW.done ?_ | refine WP.block ?_ | refine thenQ.norm ?_ | refine WP.skip ?_ | refine WP.cond_true rfl ?_ | refine WP.cond_false rfl ?_ | refine WP.ret ?_ | refine thenQ.ret ?_ | refine blockQ.ret ?_)
    refine endQ rfl (by simp) (v := .bool true) rfl rfl ⟨bool_eq (by simp only [List.contains_cons, h0, h1, h2]; simp), rfl⟩ (by intro _ h; cases h)
  rw [Bool.not_eq_true] at h2
  by_cases h3 : (m == [84, 82, 65, 67, 69]) = true
  · refine CW.body (E := env) (f := 18) rfl Try.func18 rfl Try.ntmps18 ?_
    repeat (first | refine WP.seq ?_ | refine WP.region ?_ | refine opsW.mov rfl rfl rfl ?_ | refine opsW.asg rfl rfl rfl ?_ | refine opsW.boolE (by rfl) (by rfl) (by rfl) (by assumption) ?_ | refine opsW.go (by rfl) (by rfl) (by rfl) ?_ | refine opsW.skip rfl ?_ | refine opsW.pickT rfl rfl rfl (by constructor <;> rfl) ?_ | refine opsW.pickF rfl rfl rfl (by constructor <;> rfl) ?_ | refine opsW.done ?_ | refine WP.block ?_ | refine thenQ.norm ?_ | refine WP.skip ?_ | refine WP.cond_true rfl ?_ | refine WP.cond_false rfl ?_ | refine WP.ret ?_ | refine thenQ.ret ?_ | refine blockQ.ret ?_)
    refine endQ rfl (by simp) (v := .bool true) rfl rfl ⟨bool_eq (by simp only [List.contains_cons, h0, h1, h2, h3]; simp), rfl⟩ (by intro _ h; cases h)
  rw [Bool.not_eq_true] at h3
  refine CW.body (E := env) (f := 18) rfl Try.func18 rfl Try.ntmps18 ?_
  repeat (first | refine WP.seq ?_ | refine WP.region ?_ | refine opsW.mov rfl rfl rfl ?_ | refine opsW.asg rfl rfl rfl ?_ | refine opsW.boolE (by rfl) (by rfl) (by rfl) (by assumption) ?_ | refine opsW.go (by rfl) (by rfl) (by rfl) ?_ | refine opsW.skip rfl ?_ | refine opsW.pickT rfl rfl rfl (by constructor <;> rfl) ?_ | refine opsW.pickF rfl rfl rfl (by constructor <;> rfl) ?_ | refine opsW.done ?_ | refine WP.block ?_ | refine thenQ.norm ?_ | refine WP.skip ?_ | refine WP.cond_true rfl ?_ | refine WP.cond_false rfl ?_ | refine WP.ret ?_ | refine thenQ.ret ?_ | refine blockQ.ret ?_)
  refine endQ rfl (by simp) (v := .bool false) rfl rfl ⟨bool_eq (by simp only [List.contains_cons, h0, h1, h2, h3]; simp), rfl⟩ (by intro _ h; cases h)

theorem refCached (m : List UInt8) (H : AH) : CW env 21 [.str m] H fun v ch => v = .bool (([[71, 69, 84], [72, 69, 65, 68]] : List (List UInt8)).contains m) ∧ ch = none := by
  by_cases h0 : (m == [71, 69, 84]) = true
  · refine CW.body (E := env) (f := 21) rfl Try.func21 rfl Try.ntmps21 ?_
    repeat (first | refine WP.seq ?_ | refine WP.region ?_ | refine opsW.mov rfl rfl rfl ?_ | refine opsW.asg rfl rfl rfl ?_ | refine opsW.boolE (by rfl) (by rfl) (by rfl) (by assumption) ?_ | refine opsW.go (by rfl) (by rfl) (by rfl) ?_ | refine opsW.skip rfl ?_ | refine opsW.pickT rfl rfl rfl (by constructor <;> rfl) ?_ | refine opsW.pickF rfl rfl rfl (by constructor <;> rfl) ?_ | refine opsW.done ?_ | refine WP.block ?_ | refine thenQ.norm ?_ | refine WP.skip ?_ | refine WP.cond_true rfl ?_ | refine WP.cond_false rfl ?_ | refine WP.ret ?_ | refine thenQ.ret ?_ | refine blockQ.ret ?_)
    refine endQ rfl (by simp) (v := .bool true) rfl rfl ⟨bool_eq (by simp only [List.contains_cons, h0]; simp), rfl⟩ (by intro _ h; cases h)
  rw [Bool.not_eq_true] at h0
  by_cases h1 : (m == [72, 69, 65, 68]) = true
  · refine CW.body (E := env) (f := 21) rfl Try.func21 rfl Try.ntmps21 ?_
    repeat (first | refine WP.seq ?_ | refine WP.region ?_ | refine opsW.mov rfl rfl rfl ?_ | refine opsW.asg rfl rfl rfl ?_ | refine opsW.boolE (by rfl) (by rfl) (by rfl) (by assumption) ?_ | refine opsW.go (by rfl) (by rfl) (by rfl) ?_ | refine opsW.skip rfl ?_ | refine opsW.pickT rfl rfl rfl (by constructor <;> rfl) ?_ | refine opsW.pickF rfl rfl rfl (by constructor <;> rfl) ?_ | refine opsW.done ?_ | refine WP.block ?_ | refine thenQ.norm ?_ | refine WP.skip ?_ | refine WP.cond_true rfl ?_ | refine WP.cond_false rfl ?_ | refine WP.ret ?_ | refine thenQ.ret ?_ | refine blockQ.ret ?_)
    refine endQ rfl (by simp) (v := .bool true) rfl rfl ⟨bool_eq (by simp only [List.contains_cons, h0, h1]; simp), rfl⟩ (by intro _ h; cases h)
  rw [Bool.not_eq_true] at h1
  refine CW.body (E := env) (f := 21) rfl Try.func21 rfl Try.ntmps21 ?_
  repeat (first | refine WP.seq ?_ | refine WP.region ?_ | refine opsW.mov rfl rfl rfl ?_ | refine opsW.asg rfl rfl rfl ?_ | refine opsW.boolE (by rfl) (by rfl) (by rfl) (by assumption) ?_ | refine opsW.go (by rfl) (by rfl) (by rfl) ?_ | refine opsW.skip rfl ?_ | refine opsW.pickT rfl rfl rfl (by constructor <;> rfl) ?_ | refine opsW.pickF rfl rfl rfl (by constructor <;> rfl) ?_ | refine opsW.done ?_ | refine WP.block ?_ | refine thenQ.norm ?_ | refine WP.skip ?_ | refine WP.cond_true rfl ?_ | refine WP.cond_false rfl ?_ | refine WP.ret ?_ | refine thenQ.ret ?_ | refine blockQ.ret ?_)
  refine endQ rfl (by simp) (v := .bool false) rfl rfl ⟨bool_eq (by simp only [List.contains_cons, h0, h1]; simp), rfl⟩ (by intro _ h; cases h)

end Go.Proofs.Ythgedcpcohdpiaa

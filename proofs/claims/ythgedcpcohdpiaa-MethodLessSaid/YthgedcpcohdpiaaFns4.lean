/- Small tests of layer 13, continued. -/
import Derived.Test.YthgedcpcohdpiaaFns3
namespace Go.Proofs.Ythgedcpcohdpiaa
open Go Go.Ve
def safeL : List (List UInt8) := [[71, 69, 84], [72, 69, 65, 68], [79, 80, 84, 73, 79, 78, 83], [84, 82, 65, 67, 69]]
def putL : List (List UInt8) := [[80, 85, 84], [68, 69, 76, 69, 84, 69]]
def cachedL : List (List UInt8) := [[71, 69, 84], [72, 69, 65, 68]]

theorem idempotent (m : List UInt8) (H : AH) : CW env 19 [.str m] H fun v ch => v = .bool (safeL.contains m || putL.contains m) ∧ ch = none := by
  have cs : ∀ H, CW env 17 [.str m] H fun v ch => v = .bool (safeL.contains m) ∧ ch = none := fun H => safe m H
  cases hs : safeL.contains m with
  | true =>
    rw [hs] at cs
    refine CW.body (E := env) (f := 19) rfl Try.func19 rfl Try.ntmps19 ?_
    repeat (first | refine WP.seq ?_ | refine WP.region ?_ | refine opsW.mov rfl rfl rfl ?_ | refine opsW.asg rfl rfl rfl ?_ | refine opsW.boolE (by rfl) (by rfl) (by rfl) (by assumption) ?_ | refine opsW.go (by rfl) (by rfl) (by rfl) ?_ | refine opsW.skip rfl ?_ | refine opsW.pickT rfl rfl rfl (by constructor <;> rfl) ?_ | refine opsW.pickF rfl rfl rfl (by constructor <;> rfl) ?_ | refine opsW.done ?_ | refine WP.block ?_ | refine thenQ.norm ?_ | refine WP.skip ?_ | refine WP.cond_true rfl ?_ | refine WP.cond_false rfl ?_ | refine WP.ret ?_ | refine thenQ.ret ?_ | refine blockQ.ret ?_)
    refine opsW.callQ rfl rfl (cs _) ?_
    repeat (first | refine WP.seq ?_ | refine WP.region ?_ | refine opsW.mov rfl rfl rfl ?_ | refine opsW.asg rfl rfl rfl ?_ | refine opsW.boolE (by rfl) (by rfl) (by rfl) (by assumption) ?_ | refine opsW.go (by rfl) (by rfl) (by rfl) ?_ | refine opsW.skip rfl ?_ | refine opsW.pickT rfl rfl rfl (by constructor <;> rfl) ?_ | refine opsW.pickF rfl rfl rfl (by constructor <;> rfl) ?_ | refine opsW.done ?_ | refine WP.block ?_ | refine thenQ.norm ?_ | refine WP.skip ?_ | refine WP.cond_true rfl ?_ | refine WP.cond_false rfl ?_ | refine WP.ret ?_ | refine thenQ.ret ?_ | refine blockQ.ret ?_)
    refine endQ rfl (by simp) (v := .bool true) rfl rfl ⟨rfl, rfl⟩ (by intro _ h; cases h)
  | false =>
    rw [hs] at cs
    refine CW.body (E := env) (f := 19) rfl Try.func19 rfl Try.ntmps19 ?_
    repeat (first | refine WP.seq ?_ | refine WP.region ?_ | refine opsW.mov rfl rfl rfl ?_ | refine opsW.asg rfl rfl rfl ?_ | refine opsW.boolE (by rfl) (by rfl) (by rfl) (by assumption) ?_ | refine opsW.go (by rfl) (by rfl) (by rfl) ?_ | refine opsW.skip rfl ?_ | refine opsW.pickT rfl rfl rfl (by constructor <;> rfl) ?_ | refine opsW.pickF rfl rfl rfl (by constructor <;> rfl) ?_ | refine opsW.done ?_ | refine WP.block ?_ | refine thenQ.norm ?_ | refine WP.skip ?_ | refine WP.cond_true rfl ?_ | refine WP.cond_false rfl ?_ | refine WP.ret ?_ | refine thenQ.ret ?_ | refine blockQ.ret ?_)
    refine opsW.callQ rfl rfl (cs _) ?_
    repeat (first | refine WP.seq ?_ | refine WP.region ?_ | refine opsW.mov rfl rfl rfl ?_ | refine opsW.asg rfl rfl rfl ?_ | refine opsW.boolE (by rfl) (by rfl) (by rfl) (by assumption) ?_ | refine opsW.go (by rfl) (by rfl) (by rfl) ?_ | refine opsW.skip rfl ?_ | refine opsW.pickT rfl rfl rfl (by constructor <;> rfl) ?_ | refine opsW.pickF rfl rfl rfl (by constructor <;> rfl) ?_ | refine opsW.done ?_ | refine WP.block ?_ | refine thenQ.norm ?_ | refine WP.skip ?_ | refine WP.cond_true rfl ?_ | refine WP.cond_false rfl ?_ | refine WP.ret ?_ | refine thenQ.ret ?_ | refine blockQ.ret ?_)
    refine opsW.new (v := .sl H.length 0 2 2 true) (t := [.cells (putL.map .str) 0 false]) rfl (by kernel_rfl) ?_
    refine opsW.callQ rfl rfl (among_s m putL _ _ _ _ (cells_last _ _ _ _) (by decide)) ?_
    repeat (first | refine WP.seq ?_ | refine WP.region ?_ | refine opsW.mov rfl rfl rfl ?_ | refine opsW.asg rfl rfl rfl ?_ | refine opsW.boolE (by rfl) (by rfl) (by rfl) (by assumption) ?_ | refine opsW.go (by rfl) (by rfl) (by rfl) ?_ | refine opsW.skip rfl ?_ | refine opsW.pickT rfl rfl rfl (by constructor <;> rfl) ?_ | refine opsW.pickF rfl rfl rfl (by constructor <;> rfl) ?_ | refine opsW.done ?_ | refine WP.block ?_ | refine thenQ.norm ?_ | refine WP.skip ?_ | refine WP.cond_true rfl ?_ | refine WP.cond_false rfl ?_ | refine WP.ret ?_ | refine thenQ.ret ?_ | refine blockQ.ret ?_)
    refine endQ rfl (by simp) (v := .bool (putL.contains m)) rfl rfl ⟨by simp, rfl⟩ (by intro _ h; cases h)

theorem refIdempotent (m : List UInt8) (H : AH) : CW env 20 [.str m] H fun v ch => v = .bool (safeL.contains m || putL.contains m) ∧ ch = none := by
  have cs : ∀ H, CW env 18 [.str m] H fun v ch => v = .bool (safeL.contains m) ∧ ch = none := fun H => refSafe m H
  cases hs : safeL.contains m with
  | true =>
    rw [hs] at cs
    refine CW.body (E := env) (f := 20) rfl Try.func20 rfl Try.ntmps20 ?_
    repeat (first | refine WP.seq ?_ | refine WP.region ?_ | refine opsW.mov rfl rfl rfl ?_ | refine opsW.asg rfl rfl rfl ?_ | refine opsW.boolE (by rfl) (by rfl) (by rfl) (by assumption) ?_ | refine opsW.go (by rfl) (by rfl) (by rfl) ?_ | refine opsW.skip rfl ?_ | refine opsW.pickT rfl rfl rfl (by constructor <;> rfl) ?_ | refine opsW.pickF rfl rfl rfl (by constructor <;> rfl) ?_ | refine opsW.done ?_ | refine WP.block ?_ | refine thenQ.norm ?_ | refine WP.skip ?_ | refine WP.cond_true rfl ?_ | refine WP.cond_false rfl ?_ | refine WP.ret ?_ | refine thenQ.ret ?_ | refine blockQ.ret ?_)
    refine opsW.callQ rfl rfl (cs _) ?_
    repeat (first | refine WP.seq ?_ | refine WP.region ?_ | refine opsW.mov rfl rfl rfl ?_ | refine opsW.asg rfl rfl rfl ?_ | refine opsW.boolE (by rfl) (by rfl) (by rfl) (by assumption) ?_ | refine opsW.go (by rfl) (by rfl) (by rfl) ?_ | refine opsW.skip rfl ?_ | refine opsW.pickT rfl rfl rfl (by constructor <;> rfl) ?_ | refine opsW.pickF rfl rfl rfl (by constructor <;> rfl) ?_ | refine opsW.done ?_ | refine WP.block ?_ | refine thenQ.norm ?_ | refine WP.skip ?_ | refine WP.cond_true rfl ?_ | refine WP.cond_false rfl ?_ | refine WP.ret ?_ | refine thenQ.ret ?_ | refine blockQ.ret ?_)
    refine endQ rfl (by simp) (v := .bool true) rfl rfl ⟨rfl, rfl⟩ (by intro _ h; cases h)
  | false =>
    rw [hs] at cs
    by_cases h0 : (m == [80, 85, 84]) = true
    · refine CW.body (E := env) (f := 20) rfl Try.func20 rfl Try.ntmps20 ?_
      repeat (first | refine WP.seq ?_ | refine WP.region ?_ | refine opsW.mov rfl rfl rfl ?_ | refine opsW.asg rfl rfl rfl ?_ | refine opsW.boolE (by rfl) (by rfl) (by rfl) (by assumption) ?_ | refine opsW.go (by rfl) (by rfl) (by rfl) ?_ | refine opsW.skip rfl ?_ | refine opsW.pickT rfl rfl rfl (by constructor <;> rfl) ?_ | refine opsW.pickF rfl rfl rfl (by constructor <;> rfl) ?_ | refine opsW.done ?_ | refine WP.block ?_ | refine thenQ.norm ?_ | refine WP.skip ?_ | refine WP.cond_true rfl ?_ | refine WP.cond_false rfl ?_ | refine WP.ret ?_ | refine thenQ.ret ?_ | refine blockQ.ret ?_)
      refine opsW.callQ rfl rfl (cs _) ?_
      repeat (first | refine WP.seq ?_ | refine WP.region ?_ | refine opsW.mov rfl rfl rfl ?_ | refine opsW.asg rfl rfl rfl ?_ | refine opsW.boolE (by rfl) (by rfl) (by rfl) (by assumption) ?_ | refine opsW.go (by rfl) (by rfl) (by rfl) ?_ | refine opsW.skip rfl ?_ | refine opsW.pickT rfl rfl rfl (by constructor <;> rfl) ?_ | refine opsW.pickF rfl rfl rfl (by constructor <;> rfl) ?_ | refine opsW.done ?_ | refine WP.block ?_ | refine thenQ.norm ?_ | refine WP.skip ?_ | refine WP.cond_true rfl ?_ | refine WP.cond_false rfl ?_ | refine WP.ret ?_ | refine thenQ.ret ?_ | refine blockQ.ret ?_)
      refine endQ rfl (by simp) (v := .bool true) rfl rfl ⟨bool_eq (by simp only [putL, List.contains_cons, h0]; simp), rfl⟩ (by intro _ h; cases h)
    · rw [Bool.not_eq_true] at h0
      by_cases h1 : (m == [68, 69, 76, 69, 84, 69]) = true
      · refine CW.body (E := env) (f := 20) rfl Try.func20 rfl Try.ntmps20 ?_
        repeat (first | refine WP.seq ?_ | refine WP.region ?_ | refine opsW.mov rfl rfl rfl ?_ | refine opsW.asg rfl rfl rfl ?_ | refine opsW.boolE (by rfl) (by rfl) (by rfl) (by assumption) ?_ | refine opsW.go (by rfl) (by rfl) (by rfl) ?_ | refine opsW.skip rfl ?_ | refine opsW.pickT rfl rfl rfl (by constructor <;> rfl) ?_ | refine opsW.pickF rfl rfl rfl (by constructor <;> rfl) ?_ | refine opsW.done ?_ | refine WP.block ?_ | refine thenQ.norm ?_ | refine WP.skip ?_ | refine WP.cond_true rfl ?_ | refine WP.cond_false rfl ?_ | refine WP.ret ?_ | refine thenQ.ret ?_ | refine blockQ.ret ?_)
        refine opsW.callQ rfl rfl (cs _) ?_
        repeat (first | refine WP.seq ?_ | refine WP.region ?_ | refine opsW.mov rfl rfl rfl ?_ | refine opsW.asg rfl rfl rfl ?_ | refine opsW.boolE (by rfl) (by rfl) (by rfl) (by assumption) ?_ | refine opsW.go (by rfl) (by rfl) (by rfl) ?_ | refine opsW.skip rfl ?_ | refine opsW.pickT rfl rfl rfl (by constructor <;> rfl) ?_ | refine opsW.pickF rfl rfl rfl (by constructor <;> rfl) ?_ | refine opsW.done ?_ | refine WP.block ?_ | refine thenQ.norm ?_ | refine WP.skip ?_ | refine WP.cond_true rfl ?_ | refine WP.cond_false rfl ?_ | refine WP.ret ?_ | refine thenQ.ret ?_ | refine blockQ.ret ?_)
        refine endQ rfl (by simp) (v := .bool true) rfl rfl ⟨bool_eq (by simp only [putL, List.contains_cons, h0, h1]; simp), rfl⟩ (by intro _ h; cases h)
      · rw [Bool.not_eq_true] at h1
        refine CW.body (E := env) (f := 20) rfl Try.func20 rfl Try.ntmps20 ?_
        repeat (first | refine WP.seq ?_ | refine WP.region ?_ | refine opsW.mov rfl rfl rfl ?_ | refine opsW.asg rfl rfl rfl ?_ | refine opsW.boolE (by rfl) (by rfl) (by rfl) (by assumption) ?_ | refine opsW.go (by rfl) (by rfl) (by rfl) ?_ | refine opsW.skip rfl ?_ | refine opsW.pickT rfl rfl rfl (by constructor <;> rfl) ?_ | refine opsW.pickF rfl rfl rfl (by constructor <;> rfl) ?_ | refine opsW.done ?_ | refine WP.block ?_ | refine thenQ.norm ?_ | refine WP.skip ?_ | refine WP.cond_true rfl ?_ | refine WP.cond_false rfl ?_ | refine WP.ret ?_ | refine thenQ.ret ?_ | refine blockQ.ret ?_)
        refine opsW.callQ rfl rfl (cs _) ?_
        repeat (first | refine WP.seq ?_ | refine WP.region ?_ | refine opsW.mov rfl rfl rfl ?_ | refine opsW.asg rfl rfl rfl ?_ | refine opsW.boolE (by rfl) (by rfl) (by rfl) (by assumption) ?_ | refine opsW.go (by rfl) (by rfl) (by rfl) ?_ | refine opsW.skip rfl ?_ | refine opsW.pickT rfl rfl rfl (by constructor <;> rfl) ?_ | refine opsW.pickF rfl rfl rfl (by constructor <;> rfl) ?_ | refine opsW.done ?_ | refine WP.block ?_ | refine thenQ.norm ?_ | refine WP.skip ?_ | refine WP.cond_true rfl ?_ | refine WP.cond_false rfl ?_ | refine WP.ret ?_ | refine thenQ.ret ?_ | refine blockQ.ret ?_)
        refine endQ rfl (by simp) (v := .bool false) rfl rfl ⟨bool_eq (by simp only [putL, List.contains_cons, h0, h1]; simp), rfl⟩ (by intro _ h; cases h)

theorem final (s : Int) (H : AH) : CW env 12 [.int .i64 s] H fun v ch => v = .bool (decide (200 ≤ s) && decide (s ≤ 599)) ∧ ch = none := by
  by_cases h0 : decide (200 ≤ s) = true
  · refine CW.body (E := env) (f := 12) rfl Try.func12 rfl Try.ntmps12 ?_
    repeat (first | refine WP.seq ?_ | refine WP.region ?_ | refine opsW.mov rfl rfl rfl ?_ | refine opsW.asg rfl rfl rfl ?_ | refine opsW.boolE (by rfl) (by rfl) (by rfl) (by assumption) ?_ | refine opsW.go (by rfl) (by rfl) (by rfl) ?_ | refine opsW.skip rfl ?_ | refine opsW.pickT rfl rfl rfl (by constructor <;> rfl) ?_ | refine opsW.pickF rfl rfl rfl (by constructor <;> rfl) ?_ | refine opsW.done ?_ | refine WP.block ?_ | refine thenQ.norm ?_ | refine WP.skip ?_ | refine WP.cond_true rfl ?_ | refine WP.cond_false rfl ?_ | refine WP.ret ?_ | refine thenQ.ret ?_ | refine blockQ.ret ?_)
    refine endQ rfl (by simp) (v := .bool (decide (s ≤ 599))) rfl rfl ⟨by rw [h0]; rfl, rfl⟩ (by intro _ h; cases h)
  · rw [Bool.not_eq_true] at h0
    refine CW.body (E := env) (f := 12) rfl Try.func12 rfl Try.ntmps12 ?_
    repeat (first | refine WP.seq ?_ | refine WP.region ?_ | refine opsW.mov rfl rfl rfl ?_ | refine opsW.asg rfl rfl rfl ?_ | refine opsW.boolE (by rfl) (by rfl) (by rfl) (by assumption) ?_ | refine opsW.go (by rfl) (by rfl) (by rfl) ?_ | refine opsW.skip rfl ?_ | refine opsW.pickT rfl rfl rfl (by constructor <;> rfl) ?_ | refine opsW.pickF rfl rfl rfl (by constructor <;> rfl) ?_ | refine opsW.done ?_ | refine WP.block ?_ | refine thenQ.norm ?_ | refine WP.skip ?_ | refine WP.cond_true rfl ?_ | refine WP.cond_false rfl ?_ | refine WP.ret ?_ | refine thenQ.ret ?_ | refine blockQ.ret ?_)
    refine endQ rfl (by simp) (v := .bool false) rfl rfl ⟨by rw [h0]; rfl, rfl⟩ (by intro _ h; cases h)

theorem refFinal (s : Int) (H : AH) : CW env 23 [.int .i64 s] H fun v ch => v = .bool (decide (200 ≤ s) && decide (s ≤ 599)) ∧ ch = none := by
  by_cases h0 : decide (200 ≤ s) = true
  · refine CW.body (E := env) (f := 23) rfl Try.func23 rfl Try.ntmps23 ?_
    repeat (first | refine WP.seq ?_ | refine WP.region ?_ | refine opsW.mov rfl rfl rfl ?_ | refine opsW.asg rfl rfl rfl ?_ | refine opsW.boolE (by rfl) (by rfl) (by rfl) (by assumption) ?_ | refine opsW.go (by rfl) (by rfl) (by rfl) ?_ | refine opsW.skip rfl ?_ | refine opsW.pickT rfl rfl rfl (by constructor <;> rfl) ?_ | refine opsW.pickF rfl rfl rfl (by constructor <;> rfl) ?_ | refine opsW.done ?_ | refine WP.block ?_ | refine thenQ.norm ?_ | refine WP.skip ?_ | refine WP.cond_true rfl ?_ | refine WP.cond_false rfl ?_ | refine WP.ret ?_ | refine thenQ.ret ?_ | refine blockQ.ret ?_)
    refine endQ rfl (by simp) (v := .bool (decide (s ≤ 599))) rfl rfl ⟨by rw [h0]; rfl, rfl⟩ (by intro _ h; cases h)
  · rw [Bool.not_eq_true] at h0
    refine CW.body (E := env) (f := 23) rfl Try.func23 rfl Try.ntmps23 ?_
    repeat (first | refine WP.seq ?_ | refine WP.region ?_ | refine opsW.mov rfl rfl rfl ?_ | refine opsW.asg rfl rfl rfl ?_ | refine opsW.boolE (by rfl) (by rfl) (by rfl) (by assumption) ?_ | refine opsW.go (by rfl) (by rfl) (by rfl) ?_ | refine opsW.skip rfl ?_ | refine opsW.pickT rfl rfl rfl (by constructor <;> rfl) ?_ | refine opsW.pickF rfl rfl rfl (by constructor <;> rfl) ?_ | refine opsW.done ?_ | refine WP.block ?_ | refine thenQ.norm ?_ | refine WP.skip ?_ | refine WP.cond_true rfl ?_ | refine WP.cond_false rfl ?_ | refine WP.ret ?_ | refine thenQ.ret ?_ | refine blockQ.ret ?_)
    refine endQ rfl (by simp) (v := .bool false) rfl rfl ⟨by rw [h0]; rfl, rfl⟩ (by intro _ h; cases h)

theorem refKnown (x : List UInt8) (H : AH) : CW env 16 [.str x] H fun v ch => v = .bool (nameList.contains x) ∧ ch = none := by
  refine CW.body (E := env) (f := 16) rfl Try.func16 rfl Try.ntmps16 ?_
  repeat (first | refine WP.seq ?_ | refine WP.region ?_ | refine opsW.mov rfl rfl rfl ?_ | refine opsW.asg rfl rfl rfl ?_ | refine opsW.go (by rfl) (by rfl) (by rfl) ?_ | refine opsW.skip rfl ?_ | refine opsW.pickT rfl rfl rfl (by constructor) ?_ | refine opsW.done ?_ | refine WP.block ?_ | refine thenQ.norm ?_ | refine WP.skip ?_ | refine WP.cond_true rfl ?_ | refine WP.cond_false rfl ?_ | refine WP.ret ?_ | refine thenQ.ret ?_ | refine blockQ.ret ?_)
  refine opsW.callN rfl rfl (refNames H) ?_
  repeat (first | refine WP.seq ?_ | refine WP.region ?_ | refine opsW.mov rfl rfl rfl ?_ | refine opsW.asg rfl rfl rfl ?_ | refine opsW.go (by rfl) (by rfl) (by rfl) ?_ | refine opsW.skip rfl ?_ | refine opsW.pickT rfl rfl rfl (by constructor) ?_ | refine opsW.done ?_ | refine WP.block ?_ | refine thenQ.norm ?_ | refine WP.skip ?_ | refine WP.cond_true rfl ?_ | refine WP.cond_false rfl ?_ | refine WP.ret ?_ | refine thenQ.ret ?_ | refine blockQ.ret ?_)
  refine WP.loopN 9 (fun k fr H1 lo => H1 = H ++ [.cells (nameList.map .str) 0 false] ∧ lo = H.length ∧ ∃ i s6 s7 s8 s9 s10 s11 s12 s13 s14 s15 s16 s17, i + k = 9 ∧ (nameList.take i).contains x = false ∧
    fr = [.str x, .tuple [], .bool false, .sl H.length 0 9 9 true, .int .i64 (i : Nat), .sl H.length 0 9 9 true, s6, s7, s8, s9, s10, s11, s12, s13, s14, s15, s16, s17]) ?_ ?_
  · exact ⟨rfl, rfl, 0, _, _, _, _, _, _, _, _, _, _, _, _, by omega, rfl, rfl⟩
  · rintro k fr H1 lo hk ⟨rfl, rfl, i, s6, s7, s8, s9, s10, s11, s12, s13, s14, s15, s16, s17, hik, hno, rfl⟩
    repeat (first | refine WP.seq ?_ | refine WP.region ?_ | refine opsW.mov rfl rfl rfl ?_ | refine opsW.asg rfl rfl rfl ?_ | refine opsW.go (by rfl) (by rfl) (by rfl) ?_ | refine opsW.skip rfl ?_ | refine opsW.pickT rfl rfl rfl (by constructor) ?_ | refine opsW.done ?_ | refine WP.block ?_ | refine thenQ.norm ?_ | refine WP.skip ?_ | refine WP.cond_true rfl ?_ | refine WP.cond_false rfl ?_ | refine WP.ret ?_ | refine thenQ.ret ?_ | refine blockQ.ret ?_)
    refine WP.cond rfl (fun h => ?_) (fun h => ?_)
    · have hi : i < 9 := (fun (h' : (i : Int) < 9) => by omega) (by simpa using h)
      have hl : nameList.length = 9 := rfl
      repeat (first | refine WP.seq ?_ | refine WP.region ?_ | refine opsW.mov rfl rfl rfl ?_ | refine opsW.asg rfl rfl rfl ?_ | refine opsW.go (by rfl) (by rfl) (by rfl) ?_ | refine opsW.skip rfl ?_ | refine opsW.pickT rfl rfl rfl (by constructor) ?_ | refine opsW.done ?_ | refine WP.block ?_ | refine thenQ.norm ?_ | refine WP.skip ?_ | refine WP.cond_true rfl ?_ | refine WP.cond_false rfl ?_ | refine WP.ret ?_ | refine thenQ.ret ?_ | refine blockQ.ret ?_)
      refine opsW.idx (sz := 1) rfl rfl rfl rfl rfl rfl rfl (by omega) (by omega) (m := i) (by simp) ?_
      refine opsW.ld rfl rfl rfl rfl (cells_last _ _ _ _) (v := .str (nameList[i]'(by omega))) (by simp [hl, hi]) ?_
      repeat (first | refine WP.seq ?_ | refine WP.region ?_ | refine opsW.mov rfl rfl rfl ?_ | refine opsW.asg rfl rfl rfl ?_ | refine opsW.go (by rfl) (by rfl) (by rfl) ?_ | refine opsW.skip rfl ?_ | refine opsW.pickT rfl rfl rfl (by constructor) ?_ | refine opsW.done ?_ | refine WP.block ?_ | refine thenQ.norm ?_ | refine WP.skip ?_ | refine WP.cond_true rfl ?_ | refine WP.cond_false rfl ?_ | refine WP.ret ?_ | refine thenQ.ret ?_ | refine blockQ.ret ?_)
      refine WP.cond rfl (fun h2 => ?_) (fun h2 => ?_)
      · repeat (first | refine WP.seq ?_ | refine WP.region ?_ | refine opsW.mov rfl rfl rfl ?_ | refine opsW.asg rfl rfl rfl ?_ | refine opsW.go (by rfl) (by rfl) (by rfl) ?_ | refine opsW.skip rfl ?_ | refine opsW.pickT rfl rfl rfl (by constructor) ?_ | refine opsW.done ?_ | refine WP.block ?_ | refine thenQ.norm ?_ | refine WP.skip ?_ | refine WP.cond_true rfl ?_ | refine WP.cond_false rfl ?_ | refine WP.ret ?_ | refine thenQ.ret ?_ | refine blockQ.ret ?_)
        refine endQ rfl rfl (v := .bool true) rfl rfl ?_ (by intro _ h; cases h)
        have hx : (nameList[i]'(by omega) == x) = true := h2
        refine ⟨bool_eq ?_, rfl⟩
        have : nameList[i]'(by omega) = x := by simpa using hx
        subst this
        simp
      · repeat (first | refine WP.skip ?_ | refine WP.seq ?_ | refine WP.region ?_ | refine WP.block ?_ | refine thenQ.norm ?_ | refine blockQ.norm ?_)
        refine opsW.mov rfl rfl rfl ?_
        refine opsW.valE rfl rfl (v' := .int .i64 ((i + 1 : Nat) : Int)) (congrArg _ (nat_succ_i64 i (by unfold maxLen; omega))) ?_
        repeat (first | refine WP.seq ?_ | refine WP.region ?_ | refine opsW.mov rfl rfl rfl ?_ | refine opsW.asg rfl rfl rfl ?_ | refine opsW.go (by rfl) (by rfl) (by rfl) ?_ | refine opsW.skip rfl ?_ | refine opsW.pickT rfl rfl rfl (by constructor) ?_ | refine opsW.done ?_ | refine WP.block ?_ | refine thenQ.norm ?_ | refine WP.skip ?_ | refine WP.cond_true rfl ?_ | refine WP.cond_false rfl ?_ | refine WP.ret ?_ | refine thenQ.ret ?_ | refine blockQ.ret ?_)
        have hx : (nameList[i]'(by omega) == x) = false := h2
        refine ⟨k - 1, by omega, rfl, rfl, i + 1, _, _, _, _, _, _, _, _, _, _, _, _, by omega, ?_, rfl⟩
        rw [List.take_succ_eq_append_getElem (by omega)]
        have hx' : (x == nameList[i]'(by omega)) = false := by rw [Bool.beq_comm]; exact hx
        simp only [List.contains_append, hno, List.contains_cons, hx']
        rfl
    · repeat (first | refine WP.seq ?_ | refine WP.region ?_ | refine opsW.go (by rfl) (by rfl) (by rfl) ?_ | refine opsW.done ?_ | refine WP.block ?_ | refine WP.exit ?_ | refine WP.ret ?_)
      refine endQ rfl rfl (v := .bool false) rfl rfl ?_ (by intro _ h; cases h)
      have hi : ¬ i < 9 := (fun (h' : (9 : Int) ≤ i) => by omega) (by simpa using h)
      rw [List.take_of_length_le (by show 9 ≤ i; omega)] at hno
      rw [hno]
      exact ⟨rfl, rfl⟩

end Go.Proofs.Ythgedcpcohdpiaa

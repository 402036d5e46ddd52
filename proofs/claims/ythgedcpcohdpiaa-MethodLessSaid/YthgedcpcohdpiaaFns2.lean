/- What the small functions of layer 13 answer, and the laws' own walks. -/
import Derived.Test.YthgedcpcohdpiaaFns
namespace Go.Proofs.Ythgedcpcohdpiaa
open Go Go.Ve

def nameList : List (List UInt8) := [[67, 79, 78, 78, 69, 67, 84], [68, 69, 76, 69, 84, 69], [71, 69, 84], [72, 69, 65, 68], [79, 80, 84, 73, 79, 78, 83], [80, 65, 84, 67, 72], [80, 79, 83, 84], [80, 85, 84], [84, 82, 65, 67, 69]]
def heurs : List Int := [200, 203, 204, 206, 300, 301, 308, 404, 405, 410, 414, 501]
def unders : List Int := [200, 203, 204, 300, 301, 302, 307, 308, 404, 405, 410, 414, 501]
def brokens : List Int := [500, 502, 503, 504]

theorem names (H : AH) : CW env 7 [] H fun v ch => v = .sl H.length 0 9 9 true ∧ ch = some (H ++ [.cells (nameList.map .str) 0 false], H.length) := by
  refine CW.body (E := env) (f := 7) rfl Try.func7 rfl Try.ntmps7 ?_
  repeat (first | refine WP.seq ?_ | refine WP.region ?_ | refine opsW.mov rfl rfl rfl ?_ | refine opsW.asg rfl rfl rfl ?_ | refine opsW.go (by rfl) (by rfl) (by rfl) ?_ | refine opsW.new rfl rfl ?_ | refine opsW.skip rfl ?_ | refine opsW.pickT rfl rfl rfl (by constructor) ?_ | refine opsW.done ?_ | refine WP.block ?_ | refine thenQ.norm ?_ | refine WP.skip ?_ | refine WP.cond_true rfl ?_ | refine WP.cond_false rfl ?_ | refine WP.ret ?_ | refine thenQ.ret ?_ | refine blockQ.ret ?_)
  refine endC rfl rfl rfl ⟨rfl, ?_⟩ (by intro _ h; cases h)
  rfl

theorem refNames (H : AH) : CW env 15 [] H fun v ch => v = .sl H.length 0 9 9 true ∧ ch = some (H ++ [.cells (nameList.map .str) 0 false], H.length) := by
  refine CW.body (E := env) (f := 15) rfl Try.func15 rfl Try.ntmps15 ?_
  repeat (first | refine WP.seq ?_ | refine WP.region ?_ | refine opsW.mov rfl rfl rfl ?_ | refine opsW.asg rfl rfl rfl ?_ | refine opsW.go (by rfl) (by rfl) (by rfl) ?_ | refine opsW.new rfl rfl ?_ | refine opsW.skip rfl ?_ | refine opsW.pickT rfl rfl rfl (by constructor) ?_ | refine opsW.done ?_ | refine WP.block ?_ | refine thenQ.norm ?_ | refine WP.skip ?_ | refine WP.cond_true rfl ?_ | refine WP.cond_false rfl ?_ | refine WP.ret ?_ | refine thenQ.ret ?_ | refine blockQ.ret ?_)
  refine endC rfl rfl rfl ⟨rfl, ?_⟩ (by intro _ h; cases h)
  rfl

theorem known (m : List UInt8) (H : AH) : CW env 8 [.str m] H fun v ch => v = .bool (nameList.contains m) ∧ ch = none := by
  refine CW.body (E := env) (f := 8) rfl Try.func8 rfl Try.ntmps8 ?_
  repeat (first | refine WP.seq ?_ | refine WP.region ?_ | refine opsW.mov rfl rfl rfl ?_ | refine opsW.asg rfl rfl rfl ?_ | refine opsW.go (by rfl) (by rfl) (by rfl) ?_ | refine opsW.new rfl rfl ?_ | refine opsW.skip rfl ?_ | refine opsW.pickT rfl rfl rfl (by constructor) ?_ | refine opsW.done ?_ | refine WP.block ?_ | refine thenQ.norm ?_ | refine WP.skip ?_ | refine WP.cond_true rfl ?_ | refine WP.cond_false rfl ?_ | refine WP.ret ?_ | refine thenQ.ret ?_ | refine blockQ.ret ?_)
  refine opsW.callN rfl rfl (names H) ?_
  refine opsW.callQ rfl rfl (among_s m nameList _ _ _ _ (cells_last _ _ _ _) (by decide)) ?_
  repeat (first | refine WP.seq ?_ | refine WP.region ?_ | refine opsW.mov rfl rfl rfl ?_ | refine opsW.asg rfl rfl rfl ?_ | refine opsW.go (by rfl) (by rfl) (by rfl) ?_ | refine opsW.new rfl rfl ?_ | refine opsW.skip rfl ?_ | refine opsW.pickT rfl rfl rfl (by constructor) ?_ | refine opsW.done ?_ | refine WP.block ?_ | refine thenQ.norm ?_ | refine WP.skip ?_ | refine WP.cond_true rfl ?_ | refine WP.cond_false rfl ?_ | refine WP.ret ?_ | refine thenQ.ret ?_ | refine blockQ.ret ?_)
  refine endQ rfl (by simp) rfl rfl ⟨rfl, rfl⟩ (by intro _ h; cases h)

theorem safe (m : List UInt8) (H : AH) : CW env 17 [.str m] H fun v ch => v = .bool (([[71, 69, 84], [72, 69, 65, 68], [79, 80, 84, 73, 79, 78, 83], [84, 82, 65, 67, 69]] : List (List UInt8)).contains m) ∧ ch = none := by
  refine CW.body (E := env) (f := 17) rfl Try.func17 rfl Try.ntmps17 ?_
  repeat (first | refine WP.seq ?_ | refine WP.region ?_ | refine opsW.mov rfl rfl rfl ?_ | refine opsW.asg rfl rfl rfl ?_ | refine opsW.go (by rfl) (by rfl) (by rfl) ?_ | refine opsW.skip rfl ?_ | refine opsW.pickT rfl rfl rfl (by constructor) ?_ | refine opsW.done ?_ | refine WP.block ?_ | refine thenQ.norm ?_ | refine WP.skip ?_ | refine WP.cond_true rfl ?_ | refine WP.cond_false rfl ?_ | refine WP.ret ?_ | refine thenQ.ret ?_ | refine blockQ.ret ?_)
  refine opsW.new (v := .sl H.length 0 ([[71, 69, 84], [72, 69, 65, 68], [79, 80, 84, 73, 79, 78, 83], [84, 82, 65, 67, 69]] : List (List UInt8)).length ([[71, 69, 84], [72, 69, 65, 68], [79, 80, 84, 73, 79, 78, 83], [84, 82, 65, 67, 69]] : List (List UInt8)).length true) (t := [.cells (([[71, 69, 84], [72, 69, 65, 68], [79, 80, 84, 73, 79, 78, 83], [84, 82, 65, 67, 69]] : List (List UInt8)).map .str) 0 false]) rfl (by kernel_rfl) ?_
  refine opsW.callQ rfl rfl (among_s m [[71, 69, 84], [72, 69, 65, 68], [79, 80, 84, 73, 79, 78, 83], [84, 82, 65, 67, 69]] _ _ _ _ (cells_last _ _ _ _) (by decide)) ?_
  repeat (first | refine WP.seq ?_ | refine WP.region ?_ | refine opsW.mov rfl rfl rfl ?_ | refine opsW.asg rfl rfl rfl ?_ | refine opsW.go (by rfl) (by rfl) (by rfl) ?_ | refine opsW.new rfl rfl ?_ | refine opsW.skip rfl ?_ | refine opsW.pickT rfl rfl rfl (by constructor) ?_ | refine opsW.done ?_ | refine WP.block ?_ | refine thenQ.norm ?_ | refine WP.skip ?_ | refine WP.cond_true rfl ?_ | refine WP.cond_false rfl ?_ | refine WP.ret ?_ | refine thenQ.ret ?_ | refine blockQ.ret ?_)
  refine endQ rfl (by simp) rfl rfl ⟨rfl, rfl⟩ (by intro _ h; cases h)

theorem cached (m : List UInt8) (H : AH) : CW env 9 [.str m] H fun v ch => v = .bool (([[71, 69, 84], [72, 69, 65, 68]] : List (List UInt8)).contains m) ∧ ch = none := by
  refine CW.body (E := env) (f := 9) rfl Try.func9 rfl Try.ntmps9 ?_
  repeat (first | refine WP.seq ?_ | refine WP.region ?_ | refine opsW.mov rfl rfl rfl ?_ | refine opsW.asg rfl rfl rfl ?_ | refine opsW.go (by rfl) (by rfl) (by rfl) ?_ | refine opsW.skip rfl ?_ | refine opsW.pickT rfl rfl rfl (by constructor) ?_ | refine opsW.done ?_ | refine WP.block ?_ | refine thenQ.norm ?_ | refine WP.skip ?_ | refine WP.cond_true rfl ?_ | refine WP.cond_false rfl ?_ | refine WP.ret ?_ | refine thenQ.ret ?_ | refine blockQ.ret ?_)
  refine opsW.new (v := .sl H.length 0 ([[71, 69, 84], [72, 69, 65, 68]] : List (List UInt8)).length ([[71, 69, 84], [72, 69, 65, 68]] : List (List UInt8)).length true) (t := [.cells (([[71, 69, 84], [72, 69, 65, 68]] : List (List UInt8)).map .str) 0 false]) rfl (by kernel_rfl) ?_
  refine opsW.callQ rfl rfl (among_s m [[71, 69, 84], [72, 69, 65, 68]] _ _ _ _ (cells_last _ _ _ _) (by decide)) ?_
  repeat (first | refine WP.seq ?_ | refine WP.region ?_ | refine opsW.mov rfl rfl rfl ?_ | refine opsW.asg rfl rfl rfl ?_ | refine opsW.go (by rfl) (by rfl) (by rfl) ?_ | refine opsW.new rfl rfl ?_ | refine opsW.skip rfl ?_ | refine opsW.pickT rfl rfl rfl (by constructor) ?_ | refine opsW.done ?_ | refine WP.block ?_ | refine thenQ.norm ?_ | refine WP.skip ?_ | refine WP.cond_true rfl ?_ | refine WP.cond_false rfl ?_ | refine WP.ret ?_ | refine thenQ.ret ?_ | refine blockQ.ret ?_)
  refine endQ rfl (by simp) rfl rfl ⟨rfl, rfl⟩ (by intro _ h; cases h)

theorem heuristic (m : Int) (H : AH) : CW env 10 [.int .i64 m] H fun v ch => v = .bool ((heurs : List Int).contains m) ∧ ch = none := by
  refine CW.body (E := env) (f := 10) rfl Try.func10 rfl Try.ntmps10 ?_
  repeat (first | refine WP.seq ?_ | refine WP.region ?_ | refine opsW.mov rfl rfl rfl ?_ | refine opsW.asg rfl rfl rfl ?_ | refine opsW.go (by rfl) (by rfl) (by rfl) ?_ | refine opsW.skip rfl ?_ | refine opsW.pickT rfl rfl rfl (by constructor) ?_ | refine opsW.done ?_ | refine WP.block ?_ | refine thenQ.norm ?_ | refine WP.skip ?_ | refine WP.cond_true rfl ?_ | refine WP.cond_false rfl ?_ | refine WP.ret ?_ | refine thenQ.ret ?_ | refine blockQ.ret ?_)
  refine opsW.new (v := .sl H.length 0 (heurs : List Int).length (heurs : List Int).length true) (t := [.cells ((heurs : List Int).map (.int .i64)) 0 false]) rfl (by kernel_rfl) ?_
  refine opsW.callQ rfl rfl (among_i m heurs _ _ _ _ (cells_last _ _ _ _) (by decide)) ?_
  repeat (first | refine WP.seq ?_ | refine WP.region ?_ | refine opsW.mov rfl rfl rfl ?_ | refine opsW.asg rfl rfl rfl ?_ | refine opsW.go (by rfl) (by rfl) (by rfl) ?_ | refine opsW.new rfl rfl ?_ | refine opsW.skip rfl ?_ | refine opsW.pickT rfl rfl rfl (by constructor) ?_ | refine opsW.done ?_ | refine WP.block ?_ | refine thenQ.norm ?_ | refine WP.skip ?_ | refine WP.cond_true rfl ?_ | refine WP.cond_false rfl ?_ | refine WP.ret ?_ | refine thenQ.ret ?_ | refine blockQ.ret ?_)
  refine endQ rfl (by simp) rfl rfl ⟨rfl, rfl⟩ (by intro _ h; cases h)

theorem understood (m : Int) (H : AH) : CW env 11 [.int .i64 m] H fun v ch => v = .bool ((unders : List Int).contains m) ∧ ch = none := by
  refine CW.body (E := env) (f := 11) rfl Try.func11 rfl Try.ntmps11 ?_
  repeat (first | refine WP.seq ?_ | refine WP.region ?_ | refine opsW.mov rfl rfl rfl ?_ | refine opsW.asg rfl rfl rfl ?_ | refine opsW.go (by rfl) (by rfl) (by rfl) ?_ | refine opsW.skip rfl ?_ | refine opsW.pickT rfl rfl rfl (by constructor) ?_ | refine opsW.done ?_ | refine WP.block ?_ | refine thenQ.norm ?_ | refine WP.skip ?_ | refine WP.cond_true rfl ?_ | refine WP.cond_false rfl ?_ | refine WP.ret ?_ | refine thenQ.ret ?_ | refine blockQ.ret ?_)
  refine opsW.new (v := .sl H.length 0 (unders : List Int).length (unders : List Int).length true) (t := [.cells ((unders : List Int).map (.int .i64)) 0 false]) rfl (by kernel_rfl) ?_
  refine opsW.callQ rfl rfl (among_i m unders _ _ _ _ (cells_last _ _ _ _) (by decide)) ?_
  repeat (first | refine WP.seq ?_ | refine WP.region ?_ | refine opsW.mov rfl rfl rfl ?_ | refine opsW.asg rfl rfl rfl ?_ | refine opsW.go (by rfl) (by rfl) (by rfl) ?_ | refine opsW.new rfl rfl ?_ | refine opsW.skip rfl ?_ | refine opsW.pickT rfl rfl rfl (by constructor) ?_ | refine opsW.done ?_ | refine WP.block ?_ | refine thenQ.norm ?_ | refine WP.skip ?_ | refine WP.cond_true rfl ?_ | refine WP.cond_false rfl ?_ | refine WP.ret ?_ | refine thenQ.ret ?_ | refine blockQ.ret ?_)
  refine endQ rfl (by simp) rfl rfl ⟨rfl, rfl⟩ (by intro _ h; cases h)

theorem broken (m : Int) (H : AH) : CW env 13 [.int .i64 m] H fun v ch => v = .bool ((brokens : List Int).contains m) ∧ ch = none := by
  refine CW.body (E := env) (f := 13) rfl Try.func13 rfl Try.ntmps13 ?_
  repeat (first | refine WP.seq ?_ | refine WP.region ?_ | refine opsW.mov rfl rfl rfl ?_ | refine opsW.asg rfl rfl rfl ?_ | refine opsW.go (by rfl) (by rfl) (by rfl) ?_ | refine opsW.skip rfl ?_ | refine opsW.pickT rfl rfl rfl (by constructor) ?_ | refine opsW.done ?_ | refine WP.block ?_ | refine thenQ.norm ?_ | refine WP.skip ?_ | refine WP.cond_true rfl ?_ | refine WP.cond_false rfl ?_ | refine WP.ret ?_ | refine thenQ.ret ?_ | refine blockQ.ret ?_)
  refine opsW.new (v := .sl H.length 0 (brokens : List Int).length (brokens : List Int).length true) (t := [.cells ((brokens : List Int).map (.int .i64)) 0 false]) rfl (by kernel_rfl) ?_
  refine opsW.callQ rfl rfl (among_i m brokens _ _ _ _ (cells_last _ _ _ _) (by decide)) ?_
  repeat (first | refine WP.seq ?_ | refine WP.region ?_ | refine opsW.mov rfl rfl rfl ?_ | refine opsW.asg rfl rfl rfl ?_ | refine opsW.go (by rfl) (by rfl) (by rfl) ?_ | refine opsW.new rfl rfl ?_ | refine opsW.skip rfl ?_ | refine opsW.pickT rfl rfl rfl (by constructor) ?_ | refine opsW.done ?_ | refine WP.block ?_ | refine thenQ.norm ?_ | refine WP.skip ?_ | refine WP.cond_true rfl ?_ | refine WP.cond_false rfl ?_ | refine WP.ret ?_ | refine thenQ.ret ?_ | refine blockQ.ret ?_)
  refine endQ rfl (by simp) rfl rfl ⟨rfl, rfl⟩ (by intro _ h; cases h)

theorem refHeuristic (m : Int) (H : AH) : CW env 22 [.int .i64 m] H fun v ch => v = .bool ((heurs : List Int).contains m) ∧ ch = none := by
  refine CW.body (E := env) (f := 22) rfl Try.func22 rfl Try.ntmps22 ?_
  repeat (first | refine WP.seq ?_ | refine WP.region ?_ | refine opsW.mov rfl rfl rfl ?_ | refine opsW.asg rfl rfl rfl ?_ | refine opsW.go (by rfl) (by rfl) (by rfl) ?_ | refine opsW.skip rfl ?_ | refine opsW.pickT rfl rfl rfl (by constructor) ?_ | refine opsW.done ?_ | refine WP.block ?_ | refine thenQ.norm ?_ | refine WP.skip ?_ | refine WP.cond_true rfl ?_ | refine WP.cond_false rfl ?_ | refine WP.ret ?_ | refine thenQ.ret ?_ | refine blockQ.ret ?_)
  refine opsW.new (v := .sl H.length 0 (heurs : List Int).length (heurs : List Int).length true) (t := [.cells ((heurs : List Int).map (.int .i64)) 0 false]) rfl (by kernel_rfl) ?_
  refine opsW.callQ rfl rfl (refIn m heurs _ _ _ _ (cells_last _ _ _ _) (by decide)) ?_
  repeat (first | refine WP.seq ?_ | refine WP.region ?_ | refine opsW.mov rfl rfl rfl ?_ | refine opsW.asg rfl rfl rfl ?_ | refine opsW.go (by rfl) (by rfl) (by rfl) ?_ | refine opsW.new rfl rfl ?_ | refine opsW.skip rfl ?_ | refine opsW.pickT rfl rfl rfl (by constructor) ?_ | refine opsW.done ?_ | refine WP.block ?_ | refine thenQ.norm ?_ | refine WP.skip ?_ | refine WP.cond_true rfl ?_ | refine WP.cond_false rfl ?_ | refine WP.ret ?_ | refine thenQ.ret ?_ | refine blockQ.ret ?_)
  refine endQ rfl (by simp) rfl rfl ⟨rfl, rfl⟩ (by intro _ h; cases h)

theorem refUnderstood (m : Int) (H : AH) : CW env 24 [.int .i64 m] H fun v ch => v = .bool ((unders : List Int).contains m) ∧ ch = none := by
  refine CW.body (E := env) (f := 24) rfl Try.func24 rfl Try.ntmps24 ?_
  repeat (first | refine WP.seq ?_ | refine WP.region ?_ | refine opsW.mov rfl rfl rfl ?_ | refine opsW.asg rfl rfl rfl ?_ | refine opsW.go (by rfl) (by rfl) (by rfl) ?_ | refine opsW.skip rfl ?_ | refine opsW.pickT rfl rfl rfl (by constructor) ?_ | refine opsW.done ?_ | refine WP.block ?_ | refine thenQ.norm ?_ | refine WP.skip ?_ | refine WP.cond_true rfl ?_ | refine WP.cond_false rfl ?_ | refine WP.ret ?_ | refine thenQ.ret ?_ | refine blockQ.ret ?_)
  refine opsW.new (v := .sl H.length 0 (unders : List Int).length (unders : List Int).length true) (t := [.cells ((unders : List Int).map (.int .i64)) 0 false]) rfl (by kernel_rfl) ?_
  refine opsW.callQ rfl rfl (refIn m unders _ _ _ _ (cells_last _ _ _ _) (by decide)) ?_
  repeat (first | refine WP.seq ?_ | refine WP.region ?_ | refine opsW.mov rfl rfl rfl ?_ | refine opsW.asg rfl rfl rfl ?_ | refine opsW.go (by rfl) (by rfl) (by rfl) ?_ | refine opsW.new rfl rfl ?_ | refine opsW.skip rfl ?_ | refine opsW.pickT rfl rfl rfl (by constructor) ?_ | refine opsW.done ?_ | refine WP.block ?_ | refine thenQ.norm ?_ | refine WP.skip ?_ | refine WP.cond_true rfl ?_ | refine WP.cond_false rfl ?_ | refine WP.ret ?_ | refine thenQ.ret ?_ | refine blockQ.ret ?_)
  refine endQ rfl (by simp) rfl rfl ⟨rfl, rfl⟩ (by intro _ h; cases h)

theorem refBroken (m : Int) (H : AH) : CW env 25 [.int .i64 m] H fun v ch => v = .bool ((brokens : List Int).contains m) ∧ ch = none := by
  refine CW.body (E := env) (f := 25) rfl Try.func25 rfl Try.ntmps25 ?_
  repeat (first | refine WP.seq ?_ | refine WP.region ?_ | refine opsW.mov rfl rfl rfl ?_ | refine opsW.asg rfl rfl rfl ?_ | refine opsW.go (by rfl) (by rfl) (by rfl) ?_ | refine opsW.skip rfl ?_ | refine opsW.pickT rfl rfl rfl (by constructor) ?_ | refine opsW.done ?_ | refine WP.block ?_ | refine thenQ.norm ?_ | refine WP.skip ?_ | refine WP.cond_true rfl ?_ | refine WP.cond_false rfl ?_ | refine WP.ret ?_ | refine thenQ.ret ?_ | refine blockQ.ret ?_)
  refine opsW.new (v := .sl H.length 0 (brokens : List Int).length (brokens : List Int).length true) (t := [.cells ((brokens : List Int).map (.int .i64)) 0 false]) rfl (by kernel_rfl) ?_
  refine opsW.callQ rfl rfl (refIn m brokens _ _ _ _ (cells_last _ _ _ _) (by decide)) ?_
  repeat (first | refine WP.seq ?_ | refine WP.region ?_ | refine opsW.mov rfl rfl rfl ?_ | refine opsW.asg rfl rfl rfl ?_ | refine opsW.go (by rfl) (by rfl) (by rfl) ?_ | refine opsW.new rfl rfl ?_ | refine opsW.skip rfl ?_ | refine opsW.pickT rfl rfl rfl (by constructor) ?_ | refine opsW.done ?_ | refine WP.block ?_ | refine thenQ.norm ?_ | refine WP.skip ?_ | refine WP.cond_true rfl ?_ | refine WP.cond_false rfl ?_ | refine WP.ret ?_ | refine thenQ.ret ?_ | refine blockQ.ret ?_)
  refine endQ rfl (by simp) rfl rfl ⟨rfl, rfl⟩ (by intro _ h; cases h)

end Go.Proofs.Ythgedcpcohdpiaa

/- What the small functions of layer 13 answer, for any status. -/
import Derived.Test.YtdjkfaennnibkaaEnv
namespace Go.Proofs.Ytdjkfaennnibkaa
open Go Go.Ve

def heurs : List Int := [200, 203, 204, 206, 300, 301, 308, 404, 405, 410, 414, 501]
def unders : List Int := [200, 203, 204, 300, 301, 302, 307, 308, 404, 405, 410, 414, 501]

theorem among_i (x : Int) (vs : List Int) (H : AH) (b c : Nat) (ex : Bool) (hb : cellsOf? H b = some (vs.map (.int .i64))) (hlen : vs.length ≤ maxLen) :
    CW env 28 [.int .i64 x, .sl b 0 vs.length c ex] H fun v ch => v = .bool (vs.contains x) ∧ ch = none := by
  refine CW.body (E := env) (f := 28) rfl Try.func28 rfl Try.ntmps28 ?_
  repeat (first | refine WP.seq ?_ | refine WP.region ?_ | refine opsW.mov rfl rfl rfl ?_ | refine opsW.asg rfl rfl rfl ?_ | refine opsW.go (by rfl) (by rfl) (by rfl) ?_ | refine opsW.done ?_ | refine WP.block ?_)
  refine WP.loopN vs.length (fun k fr H1 lo => H1 = H ∧ lo = H.length ∧ ∃ i s6 s10 s11 s12 s13 s14 s15 s16, i + k = vs.length ∧ (vs.take i).contains x = false ∧
    fr = [.int .i64 x, .sl b 0 vs.length c ex, .tuple [], .tuple [], .bool false, .tuple [], s6, .sl b 0 vs.length c ex, .int .i64 vs.length, .int .i64 i, s10, s11, s12, s13, s14, s15, s16]) ?_ ?_
  · exact ⟨rfl, rfl, 0, _, _, _, _, _, _, _, _, by omega, rfl, rfl⟩
  · rintro k fr H1 lo hk ⟨rfl, rfl, i, s6, s10, s11, s12, s13, s14, s15, s16, hik, hno, rfl⟩
    repeat (first | refine WP.seq ?_ | refine WP.region ?_ | refine opsW.mov rfl rfl rfl ?_ | refine opsW.asg rfl rfl rfl ?_ | refine opsW.go (by rfl) (by rfl) (by rfl) ?_ | refine opsW.done ?_ | refine WP.block ?_)
    refine WP.cond rfl (fun h => ?_) (fun h => ?_)
    · have hi : i < vs.length := by simpa using h
      refine WP.skip ?_
      repeat (first | refine WP.seq ?_ | refine WP.region ?_ | refine opsW.mov rfl rfl rfl ?_ | refine opsW.asg rfl rfl rfl ?_ | refine opsW.go (by rfl) (by rfl) (by rfl) ?_ | refine opsW.done ?_ | refine WP.block ?_)
      refine opsW.idx (sz := 1) rfl rfl rfl rfl rfl rfl rfl (by omega) (by omega) (m := i) (by simp) ?_
      refine opsW.ld rfl rfl rfl rfl hb (v := .int .i64 vs[i]) (by simp [hi]) ?_
      repeat (first | refine WP.seq ?_ | refine WP.region ?_ | refine opsW.mov rfl rfl rfl ?_ | refine opsW.asg rfl rfl rfl ?_ | refine opsW.go (by rfl) (by rfl) (by rfl) ?_ | refine opsW.done ?_ | refine WP.block ?_)
      refine WP.cond rfl (fun h2 => ?_) (fun h2 => ?_)
      · repeat (first | refine WP.seq ?_ | refine WP.region ?_ | refine opsW.mov rfl rfl rfl ?_ | refine opsW.asg rfl rfl rfl ?_ | refine opsW.go (by rfl) (by rfl) (by rfl) ?_ | refine opsW.done ?_ | refine WP.block ?_)
        refine WP.ret ?_
        repeat (first | refine thenQ.ret ?_ | refine blockQ.ret ?_)
        refine endQ rfl rfl (v := .bool true) rfl rfl ?_ (by intro _ h; cases h)
        have hx : (x == vs[i]) = true := h2
        refine ⟨bool_eq ?_, rfl⟩
        have : x = vs[i] := by simpa using hx
        subst this
        simp
      · refine WP.skip ?_
        refine WP.region ?_
        refine opsW.valE rfl rfl (v' := .int .i64 ((i + 1 : Nat) : Int)) (congrArg _ (nat_succ_i64 i (by omega))) ?_
        repeat (first | refine WP.seq ?_ | refine WP.region ?_ | refine opsW.mov rfl rfl rfl ?_ | refine opsW.asg rfl rfl rfl ?_ | refine opsW.go (by rfl) (by rfl) (by rfl) ?_ | refine opsW.done ?_ | refine WP.block ?_)
        have hx : (x == vs[i]) = false := h2
        refine ⟨k - 1, by omega, rfl, rfl, i + 1, _, _, _, _, _, _, _, _, by omega, ?_, rfl⟩
        rw [List.take_succ_eq_append_getElem hi]
        simp only [List.contains_append, hno, List.contains_cons, hx]
        rfl
    · repeat (first | refine WP.seq ?_ | refine WP.region ?_ | refine opsW.mov rfl rfl rfl ?_ | refine opsW.asg rfl rfl rfl ?_ | refine opsW.go (by rfl) (by rfl) (by rfl) ?_ | refine opsW.done ?_ | refine WP.block ?_ | refine WP.exit ?_ | refine WP.ret ?_)
      refine endQ rfl rfl (v := .bool false) rfl rfl ?_ (by intro _ h; cases h)
      have hi : ¬ i < vs.length := by simpa using h
      rw [List.take_of_length_le (by omega)] at hno
      rw [hno]
      exact ⟨rfl, rfl⟩

theorem heuristic (m : Int) (H : AH) : CW env 21 [.int .i64 m] H fun v ch => v = .bool ((heurs : List Int).contains m) ∧ ch = none := by
  refine CW.body (E := env) (f := 21) rfl Try.func21 rfl Try.ntmps21 ?_
  repeat (first | refine WP.seq ?_ | refine WP.region ?_ | refine opsW.mov rfl rfl rfl ?_ | refine opsW.asg rfl rfl rfl ?_ | refine opsW.go (by rfl) (by rfl) (by rfl) ?_ | refine opsW.skip rfl ?_ | refine opsW.pickT rfl rfl rfl (by constructor) ?_ | refine opsW.done ?_ | refine WP.block ?_ | refine thenQ.norm ?_ | refine WP.skip ?_ | refine WP.cond_true rfl ?_ | refine WP.cond_false rfl ?_ | refine WP.ret ?_ | refine thenQ.ret ?_ | refine blockQ.ret ?_)
  refine opsW.new (v := .sl H.length 0 (heurs : List Int).length (heurs : List Int).length true) (t := [.cells ((heurs : List Int).map (.int .i64)) 0 false]) rfl (by kernel_rfl) ?_
  refine opsW.callQ rfl rfl (among_i m heurs _ _ _ _ (cells_last _ _ _ _) (by decide)) ?_
  repeat (first | refine WP.seq ?_ | refine WP.region ?_ | refine opsW.mov rfl rfl rfl ?_ | refine opsW.asg rfl rfl rfl ?_ | refine opsW.go (by rfl) (by rfl) (by rfl) ?_ | refine opsW.new rfl rfl ?_ | refine opsW.skip rfl ?_ | refine opsW.pickT rfl rfl rfl (by constructor) ?_ | refine opsW.done ?_ | refine WP.block ?_ | refine thenQ.norm ?_ | refine WP.skip ?_ | refine WP.cond_true rfl ?_ | refine WP.cond_false rfl ?_ | refine WP.ret ?_ | refine thenQ.ret ?_ | refine blockQ.ret ?_)
  refine endQ rfl (by simp) rfl rfl ⟨rfl, rfl⟩ (by intro _ h; cases h)

theorem understood (m : Int) (H : AH) : CW env 20 [.int .i64 m] H fun v ch => v = .bool ((unders : List Int).contains m) ∧ ch = none := by
  refine CW.body (E := env) (f := 20) rfl Try.func20 rfl Try.ntmps20 ?_
  repeat (first | refine WP.seq ?_ | refine WP.region ?_ | refine opsW.mov rfl rfl rfl ?_ | refine opsW.asg rfl rfl rfl ?_ | refine opsW.go (by rfl) (by rfl) (by rfl) ?_ | refine opsW.skip rfl ?_ | refine opsW.pickT rfl rfl rfl (by constructor) ?_ | refine opsW.done ?_ | refine WP.block ?_ | refine thenQ.norm ?_ | refine WP.skip ?_ | refine WP.cond_true rfl ?_ | refine WP.cond_false rfl ?_ | refine WP.ret ?_ | refine thenQ.ret ?_ | refine blockQ.ret ?_)
  refine opsW.new (v := .sl H.length 0 (unders : List Int).length (unders : List Int).length true) (t := [.cells ((unders : List Int).map (.int .i64)) 0 false]) rfl (by kernel_rfl) ?_
  refine opsW.callQ rfl rfl (among_i m unders _ _ _ _ (cells_last _ _ _ _) (by decide)) ?_
  repeat (first | refine WP.seq ?_ | refine WP.region ?_ | refine opsW.mov rfl rfl rfl ?_ | refine opsW.asg rfl rfl rfl ?_ | refine opsW.go (by rfl) (by rfl) (by rfl) ?_ | refine opsW.new rfl rfl ?_ | refine opsW.skip rfl ?_ | refine opsW.pickT rfl rfl rfl (by constructor) ?_ | refine opsW.done ?_ | refine WP.block ?_ | refine thenQ.norm ?_ | refine WP.skip ?_ | refine WP.cond_true rfl ?_ | refine WP.cond_false rfl ?_ | refine WP.ret ?_ | refine thenQ.ret ?_ | refine blockQ.ret ?_)
  refine endQ rfl (by simp) rfl rfl ⟨rfl, rfl⟩ (by intro _ h; cases h)

theorem final (s : Int) (H : AH) : CW env 19 [.int .i64 s] H fun v ch => v = .bool (decide (200 ≤ s) && decide (s ≤ 599)) ∧ ch = none := by
  by_cases h0 : decide (200 ≤ s) = true
  · refine CW.body (E := env) (f := 19) rfl Try.func19 rfl Try.ntmps19 ?_
    repeat (first | refine WP.seq ?_ | refine WP.region ?_ | refine opsW.mov rfl rfl rfl ?_ | refine opsW.asg rfl rfl rfl ?_ | refine opsW.boolE (by rfl) (by rfl) (by rfl) (by assumption) ?_ | refine opsW.go (by rfl) (by rfl) (by rfl) ?_ | refine opsW.skip rfl ?_ | refine opsW.pickT rfl rfl rfl (by constructor <;> rfl) ?_ | refine opsW.pickF rfl rfl rfl (by constructor <;> rfl) ?_ | refine opsW.done ?_ | refine WP.block ?_ | refine thenQ.norm ?_ | refine WP.skip ?_ | refine WP.cond_true rfl ?_ | refine WP.cond_false rfl ?_ | refine WP.ret ?_ | refine thenQ.ret ?_ | refine blockQ.ret ?_)
    refine endQ rfl (by simp) (v := .bool (decide (s ≤ 599))) rfl rfl ⟨by rw [h0]; rfl, rfl⟩ (by intro _ h; cases h)
  · rw [Bool.not_eq_true] at h0
    refine CW.body (E := env) (f := 19) rfl Try.func19 rfl Try.ntmps19 ?_
    repeat (first | refine WP.seq ?_ | refine WP.region ?_ | refine opsW.mov rfl rfl rfl ?_ | refine opsW.asg rfl rfl rfl ?_ | refine opsW.boolE (by rfl) (by rfl) (by rfl) (by assumption) ?_ | refine opsW.go (by rfl) (by rfl) (by rfl) ?_ | refine opsW.skip rfl ?_ | refine opsW.pickT rfl rfl rfl (by constructor <;> rfl) ?_ | refine opsW.pickF rfl rfl rfl (by constructor <;> rfl) ?_ | refine opsW.done ?_ | refine WP.block ?_ | refine thenQ.norm ?_ | refine WP.skip ?_ | refine WP.cond_true rfl ?_ | refine WP.cond_false rfl ?_ | refine WP.ret ?_ | refine thenQ.ret ?_ | refine blockQ.ret ?_)
    refine endQ rfl (by simp) (v := .bool false) rfl rfl ⟨by rw [h0]; rfl, rfl⟩ (by intro _ h; cases h)

end Go.Proofs.Ytdjkfaennnibkaa

/- What the functions of layer 13 and of its reference answer, for any text and any status. -/
import Derived.Test.YthgedcpcohdpiaaVe14
import Derived.Test.YthgedcpcohdpiaaProg
import Derived.KernelRfl
namespace Go.Proofs.Ythgedcpcohdpiaa
open Go Go.Ve

noncomputable def env : Env := ⟨Try.prog, fun _ _ _ => none⟩
theorem envOk : CallOk env.P env.orc := fun f args H v ch h => by cases h

/-- method.among at texts. -/
theorem among_s (x : List UInt8) (vs : List (List UInt8)) (H : AH) (b c : Nat) (ex : Bool) (hb : cellsOf? H b = some (vs.map .str)) (hlen : vs.length ≤ maxLen) :
    CW env 26 [.str x, .sl b 0 vs.length c ex] H fun v ch => v = .bool (vs.contains x) ∧ ch = none := by
  refine CW.body (E := env) (f := 26) rfl Try.func26 rfl Try.ntmps26 ?_
  repeat (first | refine WP.seq ?_ | refine WP.region ?_ | refine opsW.mov rfl rfl rfl ?_ | refine opsW.asg rfl rfl rfl ?_ | refine opsW.go (by rfl) (by rfl) (by rfl) ?_ | refine opsW.done ?_ | refine WP.block ?_)
  refine WP.loopN vs.length (fun k fr H1 lo => H1 = H ∧ lo = H.length ∧ ∃ i s6 s10 s11 s12 s13 s14 s15 s16, i + k = vs.length ∧ (vs.take i).contains x = false ∧
    fr = [.str x, .sl b 0 vs.length c ex, .tuple [], .tuple [], .bool false, .tuple [], s6, .sl b 0 vs.length c ex, .int .i64 vs.length, .int .i64 i, s10, s11, s12, s13, s14, s15, s16]) ?_ ?_
  · exact ⟨rfl, rfl, 0, _, _, _, _, _, _, _, _, by omega, rfl, rfl⟩
  · rintro k fr H1 lo hk ⟨rfl, rfl, i, s6, s10, s11, s12, s13, s14, s15, s16, hik, hno, rfl⟩
    repeat (first | refine WP.seq ?_ | refine WP.region ?_ | refine opsW.mov rfl rfl rfl ?_ | refine opsW.asg rfl rfl rfl ?_ | refine opsW.go (by rfl) (by rfl) (by rfl) ?_ | refine opsW.done ?_ | refine WP.block ?_)
    refine WP.cond rfl (fun h => ?_) (fun h => ?_)
    · have hi : i < vs.length := by simpa using h
      refine WP.skip ?_
      repeat (first | refine WP.seq ?_ | refine WP.region ?_ | refine opsW.mov rfl rfl rfl ?_ | refine opsW.asg rfl rfl rfl ?_ | refine opsW.go (by rfl) (by rfl) (by rfl) ?_ | refine opsW.done ?_ | refine WP.block ?_)
      refine opsW.idx (sz := 1) rfl rfl rfl rfl rfl rfl rfl (by omega) (by omega) (m := i) (by simp) ?_
      refine opsW.ld rfl rfl rfl rfl hb (v := .str vs[i]) (by simp [hi]) ?_
      repeat (first | refine WP.seq ?_ | refine WP.region ?_ | refine opsW.mov rfl rfl rfl ?_ | refine opsW.asg rfl rfl rfl ?_ | refine opsW.go (by rfl) (by rfl) (by rfl) ?_ | refine opsW.done ?_ | refine WP.block ?_)
      refine WP.cond rfl (fun h2 => ?_) (fun h2 => ?_)
      · repeat (first | refine WP.seq ?_ | refine WP.region ?_ | refine opsW.mov rfl rfl rfl ?_ | refine opsW.asg rfl rfl rfl ?_ | refine opsW.go (by rfl) (by rfl) (by rfl) ?_ | refine opsW.done ?_ | refine WP.block ?_)
        refine WP.ret ?_
        repeat (first | refine thenQ.ret ?_ | refine blockQ.ret ?_)
        refine endQ rfl rfl (v := .bool true) rfl rfl ?_ (by intro _ h; cases h)
        have hx : (x == vs[i]) = true := h2
        refine ⟨bool_eq ?_, rfl⟩
        have : x = vs[i] := by simpa using hx
        subst this
        simp
      · refine WP.skip ?_
        refine WP.region ?_
        refine opsW.valE rfl rfl (v' := .int .i64 ((i + 1 : Nat) : Int)) (congrArg _ (nat_succ_i64 i (by omega))) ?_
        repeat (first | refine WP.seq ?_ | refine WP.region ?_ | refine opsW.mov rfl rfl rfl ?_ | refine opsW.asg rfl rfl rfl ?_ | refine opsW.go (by rfl) (by rfl) (by rfl) ?_ | refine opsW.done ?_ | refine WP.block ?_)
        have hx : (x == vs[i]) = false := h2
        refine ⟨k - 1, by omega, rfl, rfl, i + 1, _, _, _, _, _, _, _, _, by omega, ?_, rfl⟩
        rw [List.take_succ_eq_append_getElem hi]
        simp only [List.contains_append, hno, List.contains_cons, hx]
        rfl
    · repeat (first | refine WP.seq ?_ | refine WP.region ?_ | refine opsW.mov rfl rfl rfl ?_ | refine opsW.asg rfl rfl rfl ?_ | refine opsW.go (by rfl) (by rfl) (by rfl) ?_ | refine opsW.done ?_ | refine WP.block ?_ | refine WP.exit ?_ | refine WP.ret ?_)
      refine endQ rfl rfl (v := .bool false) rfl rfl ?_ (by intro _ h; cases h)
      have hi : ¬ i < vs.length := by simpa using h
      rw [List.take_of_length_le (by omega)] at hno
      rw [hno]
      exact ⟨rfl, rfl⟩

/-- method.among at numbers. -/
theorem among_i (x : Int) (vs : List Int) (H : AH) (b c : Nat) (ex : Bool) (hb : cellsOf? H b = some (vs.map (.int .i64))) (hlen : vs.length ≤ maxLen) :
    CW env 27 [.int .i64 x, .sl b 0 vs.length c ex] H fun v ch => v = .bool (vs.contains x) ∧ ch = none := by
  refine CW.body (E := env) (f := 27) rfl Try.func27 rfl Try.ntmps27 ?_
  repeat (first | refine WP.seq ?_ | refine WP.region ?_ | refine opsW.mov rfl rfl rfl ?_ | refine opsW.asg rfl rfl rfl ?_ | refine opsW.go (by rfl) (by rfl) (by rfl) ?_ | refine opsW.done ?_ | refine WP.block ?_)
  refine WP.loopN vs.length (fun k fr H1 lo => H1 = H ∧ lo = H.length ∧ ∃ i s6 s10 s11 s12 s13 s14 s15 s16, i + k = vs.length ∧ (vs.take i).contains x = false ∧
    fr = [.int .i64 x, .sl b 0 vs.length c ex, .tuple [], .tuple [], .bool false, .tuple [], s6, .sl b 0 vs.length c ex, .int .i64 vs.length, .int .i64 i, s10, s11, s12, s13, s14, s15, s16]) ?_ ?_
  · exact ⟨rfl, rfl, 0, _, _, _, _, _, _, _, _, by omega, rfl, rfl⟩
  · rintro k fr H1 lo hk ⟨rfl, rfl, i, s6, s10, s11, s12, s13, s14, s15, s16, hik, hno, rfl⟩
    repeat (first | refine WP.seq ?_ | refine WP.region ?_ | refine opsW.mov rfl rfl rfl ?_ | refine opsW.asg rfl rfl rfl ?_ | refine opsW.go (by rfl) (by rfl) (by rfl) ?_ | refine opsW.done ?_ | refine WP.block ?_)
    refine WP.cond rfl (fun h => ?_) (fun h => ?_)
    · have hi : i < vs.length := by simpa using h
      refine WP.skip ?_
      repeat (first | refine WP.seq ?_ | refine WP.region ?_ | refine opsW.mov rfl rfl rfl ?_ | refine opsW.asg rfl rfl rfl ?_ | refine opsW.go (by rfl) (by rfl) (by rfl) ?_ | refine opsW.done ?_ | refine WP.block ?_)
      refine opsW.idx (sz := 1) rfl rfl rfl rfl rfl rfl rfl (by omega) (by omega) (m := i) (by simp) ?_
      refine opsW.ld rfl rfl rfl rfl hb (v := .int .i64 vs[i]) (by simp [hi]) ?_
      repeat (first | refine WP.seq ?_ | refine WP.region ?_ | refine opsW.mov rfl rfl rfl ?_ | refine opsW.asg rfl rfl rfl ?_ | refine opsW.go (by rfl) (by rfl) (by rfl) ?_ | refine opsW.done ?_ | refine WP.block ?_)
      refine WP.cond rfl (fun h2 => ?_) (fun h2 => ?_)
      · repeat (first | refine WP.seq ?_ | refine WP.region ?_ | refine opsW.mov rfl rfl rfl ?_ | refine opsW.asg rfl rfl rfl ?_ | refine opsW.go (by rfl) (by rfl) (by rfl) ?_ | refine opsW.done ?_ | refine WP.block ?_)
        refine WP.ret ?_
        repeat (first | refine thenQ.ret ?_ | refine blockQ.ret ?_)
        refine endQ rfl rfl (v := .bool true) rfl rfl ?_ (by intro _ h; cases h)
        have hx : (x == vs[i]) = true := h2
        refine ⟨bool_eq ?_, rfl⟩
        have : x = vs[i] := by simpa using hx
        subst this
        simp
      · refine WP.skip ?_
        refine WP.region ?_
        refine opsW.valE rfl rfl (v' := .int .i64 ((i + 1 : Nat) : Int)) (congrArg _ (nat_succ_i64 i (by omega))) ?_
        repeat (first | refine WP.seq ?_ | refine WP.region ?_ | refine opsW.mov rfl rfl rfl ?_ | refine opsW.asg rfl rfl rfl ?_ | refine opsW.go (by rfl) (by rfl) (by rfl) ?_ | refine opsW.done ?_ | refine WP.block ?_)
        have hx : (x == vs[i]) = false := h2
        refine ⟨k - 1, by omega, rfl, rfl, i + 1, _, _, _, _, _, _, _, _, by omega, ?_, rfl⟩
        rw [List.take_succ_eq_append_getElem hi]
        simp only [List.contains_append, hno, List.contains_cons, hx]
        rfl
    · repeat (first | refine WP.seq ?_ | refine WP.region ?_ | refine opsW.mov rfl rfl rfl ?_ | refine opsW.asg rfl rfl rfl ?_ | refine opsW.go (by rfl) (by rfl) (by rfl) ?_ | refine opsW.done ?_ | refine WP.block ?_ | refine WP.exit ?_ | refine WP.ret ?_)
      refine endQ rfl rfl (v := .bool false) rfl rfl ?_ (by intro _ h; cases h)
      have hi : ¬ i < vs.length := by simpa using h
      rw [List.take_of_length_le (by omega)] at hno
      rw [hno]
      exact ⟨rfl, rfl⟩

/-- The reference's search. -/
theorem refIn (x : Int) (vs : List Int) (H : AH) (b c : Nat) (ex : Bool) (hb : cellsOf? H b = some (vs.map (.int .i64))) (hlen : vs.length ≤ maxLen) :
    CW env 28 [.int .i64 x, .sl b 0 vs.length c ex] H fun v ch => v = .bool (vs.contains x) ∧ ch = none := by
  refine CW.body (E := env) (f := 28) rfl Try.func28 rfl Try.ntmps28 ?_
  repeat (first | refine WP.seq ?_ | refine WP.region ?_ | refine opsW.mov rfl rfl rfl ?_ | refine opsW.asg rfl rfl rfl ?_ | refine opsW.go (by rfl) (by rfl) (by rfl) ?_ | refine opsW.done ?_ | refine WP.block ?_)
  refine WP.loopN vs.length (fun k fr H1 lo => H1 = H ∧ lo = H.length ∧ ∃ i s6 s7 s8 s9 s10 s11 s12 s13 s14 s15 s16 s17, i + k = vs.length ∧ (vs.take i).contains x = false ∧
    fr = [.int .i64 x, .sl b 0 vs.length c ex, .tuple [], .tuple [], .bool false, .int .i64 i, s6, s7, s8, s9, s10, s11, s12, s13, s14, s15, s16, s17]) ?_ ?_
  · exact ⟨rfl, rfl, 0, _, _, _, _, _, _, _, _, _, _, _, _, by omega, rfl, rfl⟩
  · rintro k fr H1 lo hk ⟨rfl, rfl, i, s6, s7, s8, s9, s10, s11, s12, s13, s14, s15, s16, s17, hik, hno, rfl⟩
    repeat (first | refine WP.seq ?_ | refine WP.region ?_ | refine opsW.mov rfl rfl rfl ?_ | refine opsW.asg rfl rfl rfl ?_ | refine opsW.go (by rfl) (by rfl) (by rfl) ?_ | refine opsW.done ?_ | refine WP.block ?_)
    refine WP.cond rfl (fun h => ?_) (fun h => ?_)
    · have hi : i < vs.length := by simpa using h
      refine WP.skip ?_
      repeat (first | refine WP.seq ?_ | refine WP.region ?_ | refine opsW.mov rfl rfl rfl ?_ | refine opsW.asg rfl rfl rfl ?_ | refine opsW.go (by rfl) (by rfl) (by rfl) ?_ | refine opsW.done ?_ | refine WP.block ?_)
      refine opsW.idx (sz := 1) rfl rfl rfl rfl rfl rfl rfl (by omega) (by omega) (m := i) (by simp) ?_
      refine opsW.ld rfl rfl rfl rfl hb (v := .int .i64 vs[i]) (by simp [hi]) ?_
      repeat (first | refine WP.seq ?_ | refine WP.region ?_ | refine opsW.mov rfl rfl rfl ?_ | refine opsW.asg rfl rfl rfl ?_ | refine opsW.go (by rfl) (by rfl) (by rfl) ?_ | refine opsW.done ?_ | refine WP.block ?_)
      refine WP.cond rfl (fun h2 => ?_) (fun h2 => ?_)
      · repeat (first | refine WP.seq ?_ | refine WP.region ?_ | refine opsW.mov rfl rfl rfl ?_ | refine opsW.asg rfl rfl rfl ?_ | refine opsW.go (by rfl) (by rfl) (by rfl) ?_ | refine opsW.done ?_ | refine WP.block ?_)
        refine WP.ret ?_
        repeat (first | refine thenQ.ret ?_ | refine blockQ.ret ?_)
        refine endQ rfl rfl (v := .bool true) rfl rfl ?_ (by intro _ h; cases h)
        have hx : (vs[i] == x) = true := h2
        refine ⟨bool_eq ?_, rfl⟩
        have : vs[i] = x := by simpa using hx
        subst this
        simp
      · repeat (first | refine WP.skip ?_ | refine WP.seq ?_ | refine WP.region ?_ | refine WP.block ?_)
        refine opsW.mov rfl rfl rfl ?_
        refine opsW.valE rfl rfl (v' := .int .i64 ((i + 1 : Nat) : Int)) (congrArg _ (nat_succ_i64 i (by omega))) ?_
        repeat (first | refine WP.seq ?_ | refine WP.region ?_ | refine opsW.mov rfl rfl rfl ?_ | refine opsW.asg rfl rfl rfl ?_ | refine opsW.go (by rfl) (by rfl) (by rfl) ?_ | refine opsW.done ?_ | refine WP.block ?_)
        have hx : (vs[i] == x) = false := h2
        repeat (first | refine thenQ.norm ?_ | refine blockQ.norm ?_)
        refine ⟨k - 1, by omega, rfl, rfl, i + 1, _, _, _, _, _, _, _, _, _, _, _, _, by omega, ?_, rfl⟩
        rw [List.take_succ_eq_append_getElem hi]
        have hx' : (x == vs[i]) = false := by rw [Bool.beq_comm]; exact hx
        simp only [List.contains_append, hno, List.contains_cons, hx']
        rfl
    · repeat (first | refine WP.seq ?_ | refine WP.region ?_ | refine opsW.mov rfl rfl rfl ?_ | refine opsW.asg rfl rfl rfl ?_ | refine opsW.go (by rfl) (by rfl) (by rfl) ?_ | refine opsW.done ?_ | refine WP.block ?_ | refine WP.exit ?_ | refine WP.ret ?_)
      refine endQ rfl rfl (v := .bool false) rfl rfl ?_ (by intro _ h; cases h)
      have hi : ¬ i < vs.length := by simpa using h
      rw [List.take_of_length_le (by omega)] at hno
      rw [hno]
      exact ⟨rfl, rfl⟩
end Go.Proofs.Ythgedcpcohdpiaa

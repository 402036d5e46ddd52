/- What Guess answers: a part of a time, rounded down. -/
import Derived.Test.YtdjkfaennnibkaaAge
import Derived.Test.YtdjkfaennnibkaaVeY
import Derived.Test.YtdjkfaennnibkaaRound
namespace Go.Proofs.Ytdjkfaennnibkaa
open Go Go.Ve Go.Proofs.Ytdjkfaennnibkaa.Rnd

theorem one_eq : (4607182418800017408 : Nat) = one := by decide
theorem minF_one {b : Nat} (h : posF b = true) : Go.Ve.minF b 4607182418800017408 = some (min b one) := by
  unfold Go.Ve.minF
  rw [one_eq, order_one h]
  rcases Nat.lt_trichotomy b one with h | h | h
  · rw [Nat.compare_eq_lt.2 h, Nat.min_eq_left (by omega)]
  · rw [Nat.compare_eq_eq.2 h, h, Nat.min_self]; simp
  · rw [Nat.compare_eq_gt.2 h, Nat.min_eq_right (by omega)]
theorem i2f {n : Int} (h : 0 ≤ n) : FloatKind.f64.nearest n = fl n.toNat := by
  have e : FloatKind.f64.nearest n = Ieee.double.nearest (decide (n < 0)) n.natAbs 0 := rfl
  rw [e, decide_eq_false (by omega), show n.natAbs = n.toNat by omega, nearest_fl]
theorem cutN_lt (a : Int) : (cutv a).toNat < 2 ^ 53 := by
  have := cutv_0 a
  omega
theorem prodR_lt (b : Nat) (a : Int) : prodR b (cutv a).toNat < 2047 * 2 ^ 52 := Nat.lt_of_le_of_lt (prodR_le (cutN_lt a)) (fl_lt (cutN_lt a))
theorem mul_eq (b : Nat) (a : Int) : Ieee.double.mul (fl (cutv a).toNat) (min b one) = some (prodR b (cutv a).toNat) := by
  rw [mul_pos (fl_lt (cutN_lt a)) (by unfold one; omega)]
  unfold prodR
  rw [fl, fv_rg (cutN_lt a) (Nat.le_refl _) (by decide)]
theorem floor_eq {r : Nat} (hr : r < 2047 * 2 ^ 52) : aintegral .down r = some (.float .f64 (fl (whole r))) := by
  have h := floor_pos hr
  have rx : rung r = r := by unfold rung; rw [if_pos (by omega)]
  obtain ⟨m, e, h1, _⟩ := read_num (b := r) (by omega) (by rw [rx]; exact hr)
  have e2 : aintegral .down r = (match Ieee.double.read r with
    | .nan .. => none
    | d => some (.float .f64 (Ieee.double.write (d.integral .down)))) := rfl
  rw [e2]
  rw [h1] at h ⊢
  simp only
  rw [h]; rfl

theorem floor_ok (r : Nat) (hr : r < 2047 * 2 ^ 52) (H : AH) : CW env 15 [.float .f64 r] H fun v ch => v = .float .f64 (fl (whole r)) ∧ ch = none := by
  refine CW.body (E := env) (f := 15) rfl Try.func15 rfl Try.ntmps15 ?_
  repeat (first | refine WP.seq ?_ | refine WP.region ?_ | refine WP.regionQ (by kernel_rfl) ?_ | refine opsW.mov rfl rfl rfl ?_ | refine opsW.asg rfl rfl rfl ?_ | refine opsW.ld rfl rfl rfl rfl (cells_last _ _ _ _) rfl ?_ | refine opsW.ldA rfl rfl rfl rfl rfl (cells_last _ _ _ _) (Nat.le_of_ble_eq_true rfl) rfl ?_ | refine opsW.ld rfl rfl rfl rfl (cells_prev _ _ _ _ _) rfl ?_ | refine opsW.ldA rfl rfl rfl rfl rfl (cells_prev _ _ _ _ _) (Nat.le_of_ble_eq_true rfl) rfl ?_ | refine opsW.maxI rfl rfl rfl rfl rfl rfl ?_ | refine opsW.minI rfl rfl rfl rfl rfl rfl ?_ | refine opsW.goM (by rfl) (by rfl) (by rfl) ?_ | refine opsW.skip rfl ?_ | refine opsW.pickT rfl rfl rfl (by constructor <;> rfl) ?_ | refine opsW.pickF rfl rfl rfl (by constructor <;> rfl) ?_ | refine opsW.box rfl rfl rfl rfl ?_ | refine opsW.done ?_ | refine WP.block ?_ | refine thenQ.norm ?_ | refine WP.skip ?_ | refine WP.cond_true rfl ?_ | refine WP.cond_false rfl ?_ | refine WP.ret ?_ | refine thenQ.ret ?_ | refine blockQ.ret ?_)
  refine opsW.floorF rfl rfl rfl rfl rfl rfl rfl rfl rfl rfl (floor_eq hr) ?_
  repeat (first | refine WP.seq ?_ | refine WP.region ?_ | refine WP.regionQ (by kernel_rfl) ?_ | refine opsW.mov rfl rfl rfl ?_ | refine opsW.asg rfl rfl rfl ?_ | refine opsW.ld rfl rfl rfl rfl (cells_last _ _ _ _) rfl ?_ | refine opsW.ldA rfl rfl rfl rfl rfl (cells_last _ _ _ _) (Nat.le_of_ble_eq_true rfl) rfl ?_ | refine opsW.ld rfl rfl rfl rfl (cells_prev _ _ _ _ _) rfl ?_ | refine opsW.ldA rfl rfl rfl rfl rfl (cells_prev _ _ _ _ _) (Nat.le_of_ble_eq_true rfl) rfl ?_ | refine opsW.maxI rfl rfl rfl rfl rfl rfl ?_ | refine opsW.minI rfl rfl rfl rfl rfl rfl ?_ | refine opsW.goM (by rfl) (by rfl) (by rfl) ?_ | refine opsW.skip rfl ?_ | refine opsW.pickT rfl rfl rfl (by constructor <;> rfl) ?_ | refine opsW.pickF rfl rfl rfl (by constructor <;> rfl) ?_ | refine opsW.box rfl rfl rfl rfl ?_ | refine opsW.done ?_ | refine WP.block ?_ | refine thenQ.norm ?_ | refine WP.skip ?_ | refine WP.cond_true rfl ?_ | refine WP.cond_false rfl ?_ | refine WP.ret ?_ | refine thenQ.ret ?_ | refine blockQ.ret ?_)
  exact endQ rfl (by simp) rfl rfl ⟨rfl, rfl⟩ (by intro _ h; cases h)

/-- What Guess answers. -/
def guessv (b : Nat) (a : Int) : Int := if a ≤ 0 then 0 else if posF b then min ((partN b (cutv a).toNat : Nat) : Int) 86400 else 0
theorem partN_lt (b : Nat) (a : Int) : partN b (cutv a).toNat < 2 ^ 53 := Nat.lt_of_le_of_lt (partN_le (cutN_lt a)) (cutN_lt a)
theorem toInt_part (b : Nat) (a : Int) : (Ieee.double.read (fl (whole (prodR b (cutv a).toNat)))).toInt .zero = some ((partN b (cutv a).toNat : Nat) : Int) := by
  have hw : whole (prodR b (cutv a).toNat) = partN b (cutv a).toNat := rfl
  rw [hw, toInt_pos (fl_lt (partN_lt b a)), whole_fl (partN_lt b a)]

theorem guess_0 (b : Nat) (a : Int) (h : decide (a ≤ 0) = true) (H : AH) : CW env 8 [.float .f64 b, .int .i64 a] H fun v ch => v = .int .i64 0 ∧ ch = none := by
  refine CW.body (E := env) (f := 8) rfl Try.func8 rfl Try.ntmps8 ?_
  repeat (first | refine WP.seq ?_ | refine WP.region ?_ | refine WP.regionQ (by kernel_rfl) ?_ | refine opsW.mov rfl rfl rfl ?_ | refine opsW.asg rfl rfl rfl ?_ | refine opsW.ld rfl rfl rfl rfl (cells_last _ _ _ _) rfl ?_ | refine opsW.ldA rfl rfl rfl rfl rfl (cells_last _ _ _ _) (Nat.le_of_ble_eq_true rfl) rfl ?_ | refine opsW.ld rfl rfl rfl rfl (cells_prev _ _ _ _ _) rfl ?_ | refine opsW.ldA rfl rfl rfl rfl rfl (cells_prev _ _ _ _ _) (Nat.le_of_ble_eq_true rfl) rfl ?_ | refine opsW.maxI rfl rfl rfl rfl rfl rfl ?_ | refine opsW.minI rfl rfl rfl rfl rfl rfl ?_ | refine opsW.goM (by rfl) (by rfl) (by rfl) ?_ | refine opsW.skip rfl ?_ | refine opsW.pickT rfl rfl rfl (by constructor <;> rfl) ?_ | refine opsW.pickF rfl rfl rfl (by constructor <;> rfl) ?_ | refine opsW.box rfl rfl rfl rfl ?_ | refine opsW.done ?_ | refine WP.block ?_ | refine thenQ.norm ?_ | refine WP.skip ?_ | refine WP.cond_true rfl ?_ | refine WP.cond_false rfl ?_ | refine WP.ret ?_ | refine thenQ.ret ?_ | refine blockQ.ret ?_)
  refine opsW.boolE (by rfl) (by rfl) (by rfl) h ?_
  repeat (first | refine WP.seq ?_ | refine WP.region ?_ | refine WP.regionQ (by kernel_rfl) ?_ | refine opsW.mov rfl rfl rfl ?_ | refine opsW.asg rfl rfl rfl ?_ | refine opsW.ld rfl rfl rfl rfl (cells_last _ _ _ _) rfl ?_ | refine opsW.ldA rfl rfl rfl rfl rfl (cells_last _ _ _ _) (Nat.le_of_ble_eq_true rfl) rfl ?_ | refine opsW.ld rfl rfl rfl rfl (cells_prev _ _ _ _ _) rfl ?_ | refine opsW.ldA rfl rfl rfl rfl rfl (cells_prev _ _ _ _ _) (Nat.le_of_ble_eq_true rfl) rfl ?_ | refine opsW.maxI rfl rfl rfl rfl rfl rfl ?_ | refine opsW.minI rfl rfl rfl rfl rfl rfl ?_ | refine opsW.goM (by rfl) (by rfl) (by rfl) ?_ | refine opsW.skip rfl ?_ | refine opsW.pickT rfl rfl rfl (by constructor <;> rfl) ?_ | refine opsW.pickF rfl rfl rfl (by constructor <;> rfl) ?_ | refine opsW.box rfl rfl rfl rfl ?_ | refine opsW.done ?_ | refine WP.block ?_ | refine thenQ.norm ?_ | refine WP.skip ?_ | refine WP.cond_true rfl ?_ | refine WP.cond_false rfl ?_ | refine WP.ret ?_ | refine thenQ.ret ?_ | refine blockQ.ret ?_)
  exact endQ rfl (by simp) rfl rfl ⟨rfl, rfl⟩ (by intro _ h; cases h)

theorem guess_n (b : Nat) (a : Int) (h : decide (a ≤ 0) = false) (g : (Ieee.double.order b 0 == some .gt) = false) (H : AH) : CW env 8 [.float .f64 b, .int .i64 a] H fun v ch => v = .int .i64 0 ∧ ch = none := by
  refine CW.body (E := env) (f := 8) rfl Try.func8 rfl Try.ntmps8 ?_
  repeat (first | refine WP.seq ?_ | refine WP.region ?_ | refine WP.regionQ (by kernel_rfl) ?_ | refine opsW.mov rfl rfl rfl ?_ | refine opsW.asg rfl rfl rfl ?_ | refine opsW.ld rfl rfl rfl rfl (cells_last _ _ _ _) rfl ?_ | refine opsW.ldA rfl rfl rfl rfl rfl (cells_last _ _ _ _) (Nat.le_of_ble_eq_true rfl) rfl ?_ | refine opsW.ld rfl rfl rfl rfl (cells_prev _ _ _ _ _) rfl ?_ | refine opsW.ldA rfl rfl rfl rfl rfl (cells_prev _ _ _ _ _) (Nat.le_of_ble_eq_true rfl) rfl ?_ | refine opsW.maxI rfl rfl rfl rfl rfl rfl ?_ | refine opsW.minI rfl rfl rfl rfl rfl rfl ?_ | refine opsW.goM (by rfl) (by rfl) (by rfl) ?_ | refine opsW.skip rfl ?_ | refine opsW.pickT rfl rfl rfl (by constructor <;> rfl) ?_ | refine opsW.pickF rfl rfl rfl (by constructor <;> rfl) ?_ | refine opsW.box rfl rfl rfl rfl ?_ | refine opsW.done ?_ | refine WP.block ?_ | refine thenQ.norm ?_ | refine WP.skip ?_ | refine WP.cond_true rfl ?_ | refine WP.cond_false rfl ?_ | refine WP.ret ?_ | refine thenQ.ret ?_ | refine blockQ.ret ?_)
  refine opsW.boolE (by rfl) (by rfl) (by rfl) h ?_
  repeat (first | refine WP.seq ?_ | refine WP.region ?_ | refine WP.regionQ (by kernel_rfl) ?_ | refine opsW.mov rfl rfl rfl ?_ | refine opsW.asg rfl rfl rfl ?_ | refine opsW.ld rfl rfl rfl rfl (cells_last _ _ _ _) rfl ?_ | refine opsW.ldA rfl rfl rfl rfl rfl (cells_last _ _ _ _) (Nat.le_of_ble_eq_true rfl) rfl ?_ | refine opsW.ld rfl rfl rfl rfl (cells_prev _ _ _ _ _) rfl ?_ | refine opsW.ldA rfl rfl rfl rfl rfl (cells_prev _ _ _ _ _) (Nat.le_of_ble_eq_true rfl) rfl ?_ | refine opsW.maxI rfl rfl rfl rfl rfl rfl ?_ | refine opsW.minI rfl rfl rfl rfl rfl rfl ?_ | refine opsW.goM (by rfl) (by rfl) (by rfl) ?_ | refine opsW.skip rfl ?_ | refine opsW.pickT rfl rfl rfl (by constructor <;> rfl) ?_ | refine opsW.pickF rfl rfl rfl (by constructor <;> rfl) ?_ | refine opsW.box rfl rfl rfl rfl ?_ | refine opsW.done ?_ | refine WP.block ?_ | refine thenQ.norm ?_ | refine WP.skip ?_ | refine WP.cond_true rfl ?_ | refine WP.cond_false rfl ?_ | refine WP.ret ?_ | refine thenQ.ret ?_ | refine blockQ.ret ?_)
  refine opsW.boolE (by rfl) (by rfl) (by rfl) g ?_
  repeat (first | refine WP.seq ?_ | refine WP.region ?_ | refine WP.regionQ (by kernel_rfl) ?_ | refine opsW.mov rfl rfl rfl ?_ | refine opsW.asg rfl rfl rfl ?_ | refine opsW.ld rfl rfl rfl rfl (cells_last _ _ _ _) rfl ?_ | refine opsW.ldA rfl rfl rfl rfl rfl (cells_last _ _ _ _) (Nat.le_of_ble_eq_true rfl) rfl ?_ | refine opsW.ld rfl rfl rfl rfl (cells_prev _ _ _ _ _) rfl ?_ | refine opsW.ldA rfl rfl rfl rfl rfl (cells_prev _ _ _ _ _) (Nat.le_of_ble_eq_true rfl) rfl ?_ | refine opsW.maxI rfl rfl rfl rfl rfl rfl ?_ | refine opsW.minI rfl rfl rfl rfl rfl rfl ?_ | refine opsW.goM (by rfl) (by rfl) (by rfl) ?_ | refine opsW.skip rfl ?_ | refine opsW.pickT rfl rfl rfl (by constructor <;> rfl) ?_ | refine opsW.pickF rfl rfl rfl (by constructor <;> rfl) ?_ | refine opsW.box rfl rfl rfl rfl ?_ | refine opsW.done ?_ | refine WP.block ?_ | refine thenQ.norm ?_ | refine WP.skip ?_ | refine WP.cond_true rfl ?_ | refine WP.cond_false rfl ?_ | refine WP.ret ?_ | refine thenQ.ret ?_ | refine blockQ.ret ?_)
  exact endQ rfl (by simp) rfl rfl ⟨rfl, rfl⟩ (by intro _ h; cases h)

theorem guess_p (b : Nat) (a : Int) (h : decide (a ≤ 0) = false) (g : (Ieee.double.order b 0 == some .gt) = true) (hp : posF b = true) (H : AH) : CW env 8 [.float .f64 b, .int .i64 a] H fun v ch => v = .int .i64 (min ((partN b (cutv a).toNat : Nat) : Int) 86400) ∧ ch = none := by
  refine CW.body (E := env) (f := 8) rfl Try.func8 rfl Try.ntmps8 ?_
  repeat (first | refine WP.seq ?_ | refine WP.region ?_ | refine WP.regionQ (by kernel_rfl) ?_ | refine opsW.mov rfl rfl rfl ?_ | refine opsW.asg rfl rfl rfl ?_ | refine opsW.ld rfl rfl rfl rfl (cells_last _ _ _ _) rfl ?_ | refine opsW.ldA rfl rfl rfl rfl rfl (cells_last _ _ _ _) (Nat.le_of_ble_eq_true rfl) rfl ?_ | refine opsW.ld rfl rfl rfl rfl (cells_prev _ _ _ _ _) rfl ?_ | refine opsW.ldA rfl rfl rfl rfl rfl (cells_prev _ _ _ _ _) (Nat.le_of_ble_eq_true rfl) rfl ?_ | refine opsW.maxI rfl rfl rfl rfl rfl rfl ?_ | refine opsW.minI rfl rfl rfl rfl rfl rfl ?_ | refine opsW.goM (by rfl) (by rfl) (by rfl) ?_ | refine opsW.skip rfl ?_ | refine opsW.pickT rfl rfl rfl (by constructor <;> rfl) ?_ | refine opsW.pickF rfl rfl rfl (by constructor <;> rfl) ?_ | refine opsW.box rfl rfl rfl rfl ?_ | refine opsW.done ?_ | refine WP.block ?_ | refine thenQ.norm ?_ | refine WP.skip ?_ | refine WP.cond_true rfl ?_ | refine WP.cond_false rfl ?_ | refine WP.ret ?_ | refine thenQ.ret ?_ | refine blockQ.ret ?_)
  refine opsW.boolE (by rfl) (by rfl) (by rfl) h ?_
  repeat (first | refine WP.seq ?_ | refine WP.region ?_ | refine WP.regionQ (by kernel_rfl) ?_ | refine opsW.mov rfl rfl rfl ?_ | refine opsW.asg rfl rfl rfl ?_ | refine opsW.ld rfl rfl rfl rfl (cells_last _ _ _ _) rfl ?_ | refine opsW.ldA rfl rfl rfl rfl rfl (cells_last _ _ _ _) (Nat.le_of_ble_eq_true rfl) rfl ?_ | refine opsW.ld rfl rfl rfl rfl (cells_prev _ _ _ _ _) rfl ?_ | refine opsW.ldA rfl rfl rfl rfl rfl (cells_prev _ _ _ _ _) (Nat.le_of_ble_eq_true rfl) rfl ?_ | refine opsW.maxI rfl rfl rfl rfl rfl rfl ?_ | refine opsW.minI rfl rfl rfl rfl rfl rfl ?_ | refine opsW.goM (by rfl) (by rfl) (by rfl) ?_ | refine opsW.skip rfl ?_ | refine opsW.pickT rfl rfl rfl (by constructor <;> rfl) ?_ | refine opsW.pickF rfl rfl rfl (by constructor <;> rfl) ?_ | refine opsW.box rfl rfl rfl rfl ?_ | refine opsW.done ?_ | refine WP.block ?_ | refine thenQ.norm ?_ | refine WP.skip ?_ | refine WP.cond_true rfl ?_ | refine WP.cond_false rfl ?_ | refine WP.ret ?_ | refine thenQ.ret ?_ | refine blockQ.ret ?_)
  refine opsW.boolE (by rfl) (by rfl) (by rfl) g ?_
  repeat (first | refine WP.seq ?_ | refine WP.region ?_ | refine WP.regionQ (by kernel_rfl) ?_ | refine opsW.mov rfl rfl rfl ?_ | refine opsW.asg rfl rfl rfl ?_ | refine opsW.ld rfl rfl rfl rfl (cells_last _ _ _ _) rfl ?_ | refine opsW.ldA rfl rfl rfl rfl rfl (cells_last _ _ _ _) (Nat.le_of_ble_eq_true rfl) rfl ?_ | refine opsW.ld rfl rfl rfl rfl (cells_prev _ _ _ _ _) rfl ?_ | refine opsW.ldA rfl rfl rfl rfl rfl (cells_prev _ _ _ _ _) (Nat.le_of_ble_eq_true rfl) rfl ?_ | refine opsW.maxI rfl rfl rfl rfl rfl rfl ?_ | refine opsW.minI rfl rfl rfl rfl rfl rfl ?_ | refine opsW.goM (by rfl) (by rfl) (by rfl) ?_ | refine opsW.skip rfl ?_ | refine opsW.pickT rfl rfl rfl (by constructor <;> rfl) ?_ | refine opsW.pickF rfl rfl rfl (by constructor <;> rfl) ?_ | refine opsW.box rfl rfl rfl rfl ?_ | refine opsW.done ?_ | refine WP.block ?_ | refine thenQ.norm ?_ | refine WP.skip ?_ | refine WP.cond_true rfl ?_ | refine WP.cond_false rfl ?_ | refine WP.ret ?_ | refine thenQ.ret ?_ | refine blockQ.ret ?_)
  refine opsW.callQ rfl rfl (cut_ok a _) ?_
  repeat (first | refine WP.seq ?_ | refine WP.region ?_ | refine WP.regionQ (by kernel_rfl) ?_ | refine opsW.mov rfl rfl rfl ?_ | refine opsW.asg rfl rfl rfl ?_ | refine opsW.ld rfl rfl rfl rfl (cells_last _ _ _ _) rfl ?_ | refine opsW.ldA rfl rfl rfl rfl rfl (cells_last _ _ _ _) (Nat.le_of_ble_eq_true rfl) rfl ?_ | refine opsW.ld rfl rfl rfl rfl (cells_prev _ _ _ _ _) rfl ?_ | refine opsW.ldA rfl rfl rfl rfl rfl (cells_prev _ _ _ _ _) (Nat.le_of_ble_eq_true rfl) rfl ?_ | refine opsW.maxI rfl rfl rfl rfl rfl rfl ?_ | refine opsW.minI rfl rfl rfl rfl rfl rfl ?_ | refine opsW.goM (by rfl) (by rfl) (by rfl) ?_ | refine opsW.skip rfl ?_ | refine opsW.pickT rfl rfl rfl (by constructor <;> rfl) ?_ | refine opsW.pickF rfl rfl rfl (by constructor <;> rfl) ?_ | refine opsW.box rfl rfl rfl rfl ?_ | refine opsW.done ?_ | refine WP.block ?_ | refine thenQ.norm ?_ | refine WP.skip ?_ | refine WP.cond_true rfl ?_ | refine WP.cond_false rfl ?_ | refine WP.ret ?_ | refine thenQ.ret ?_ | refine blockQ.ret ?_)
  refine opsW.valE (v' := .float .f64 (fl (cutv a).toNat)) rfl rfl (congrArg (AV.float .f64) (i2f (cutv_0 a).1)) ?_
  repeat (first | refine WP.seq ?_ | refine WP.region ?_ | refine WP.regionQ (by kernel_rfl) ?_ | refine opsW.mov rfl rfl rfl ?_ | refine opsW.asg rfl rfl rfl ?_ | refine opsW.ld rfl rfl rfl rfl (cells_last _ _ _ _) rfl ?_ | refine opsW.ldA rfl rfl rfl rfl rfl (cells_last _ _ _ _) (Nat.le_of_ble_eq_true rfl) rfl ?_ | refine opsW.ld rfl rfl rfl rfl (cells_prev _ _ _ _ _) rfl ?_ | refine opsW.ldA rfl rfl rfl rfl rfl (cells_prev _ _ _ _ _) (Nat.le_of_ble_eq_true rfl) rfl ?_ | refine opsW.maxI rfl rfl rfl rfl rfl rfl ?_ | refine opsW.minI rfl rfl rfl rfl rfl rfl ?_ | refine opsW.goM (by rfl) (by rfl) (by rfl) ?_ | refine opsW.skip rfl ?_ | refine opsW.pickT rfl rfl rfl (by constructor <;> rfl) ?_ | refine opsW.pickF rfl rfl rfl (by constructor <;> rfl) ?_ | refine opsW.box rfl rfl rfl rfl ?_ | refine opsW.done ?_ | refine WP.block ?_ | refine thenQ.norm ?_ | refine WP.skip ?_ | refine WP.cond_true rfl ?_ | refine WP.cond_false rfl ?_ | refine WP.ret ?_ | refine thenQ.ret ?_ | refine blockQ.ret ?_)
  refine opsW.minF rfl rfl rfl rfl rfl rfl (minF_one hp) ?_
  repeat (first | refine WP.seq ?_ | refine WP.region ?_ | refine WP.regionQ (by kernel_rfl) ?_ | refine opsW.mov rfl rfl rfl ?_ | refine opsW.asg rfl rfl rfl ?_ | refine opsW.ld rfl rfl rfl rfl (cells_last _ _ _ _) rfl ?_ | refine opsW.ldA rfl rfl rfl rfl rfl (cells_last _ _ _ _) (Nat.le_of_ble_eq_true rfl) rfl ?_ | refine opsW.ld rfl rfl rfl rfl (cells_prev _ _ _ _ _) rfl ?_ | refine opsW.ldA rfl rfl rfl rfl rfl (cells_prev _ _ _ _ _) (Nat.le_of_ble_eq_true rfl) rfl ?_ | refine opsW.maxI rfl rfl rfl rfl rfl rfl ?_ | refine opsW.minI rfl rfl rfl rfl rfl rfl ?_ | refine opsW.goM (by rfl) (by rfl) (by rfl) ?_ | refine opsW.skip rfl ?_ | refine opsW.pickT rfl rfl rfl (by constructor <;> rfl) ?_ | refine opsW.pickF rfl rfl rfl (by constructor <;> rfl) ?_ | refine opsW.box rfl rfl rfl rfl ?_ | refine opsW.done ?_ | refine WP.block ?_ | refine thenQ.norm ?_ | refine WP.skip ?_ | refine WP.cond_true rfl ?_ | refine WP.cond_false rfl ?_ | refine WP.ret ?_ | refine thenQ.ret ?_ | refine blockQ.ret ?_)
  refine opsW.mulF rfl rfl rfl rfl (mul_eq b a) ?_
  repeat (first | refine WP.seq ?_ | refine WP.region ?_ | refine WP.regionQ (by kernel_rfl) ?_ | refine opsW.mov rfl rfl rfl ?_ | refine opsW.asg rfl rfl rfl ?_ | refine opsW.ld rfl rfl rfl rfl (cells_last _ _ _ _) rfl ?_ | refine opsW.ldA rfl rfl rfl rfl rfl (cells_last _ _ _ _) (Nat.le_of_ble_eq_true rfl) rfl ?_ | refine opsW.ld rfl rfl rfl rfl (cells_prev _ _ _ _ _) rfl ?_ | refine opsW.ldA rfl rfl rfl rfl rfl (cells_prev _ _ _ _ _) (Nat.le_of_ble_eq_true rfl) rfl ?_ | refine opsW.maxI rfl rfl rfl rfl rfl rfl ?_ | refine opsW.minI rfl rfl rfl rfl rfl rfl ?_ | refine opsW.goM (by rfl) (by rfl) (by rfl) ?_ | refine opsW.skip rfl ?_ | refine opsW.pickT rfl rfl rfl (by constructor <;> rfl) ?_ | refine opsW.pickF rfl rfl rfl (by constructor <;> rfl) ?_ | refine opsW.box rfl rfl rfl rfl ?_ | refine opsW.done ?_ | refine WP.block ?_ | refine thenQ.norm ?_ | refine WP.skip ?_ | refine WP.cond_true rfl ?_ | refine WP.cond_false rfl ?_ | refine WP.ret ?_ | refine thenQ.ret ?_ | refine blockQ.ret ?_)
  refine opsW.callQ rfl rfl (floor_ok _ (prodR_lt b a) _) ?_
  repeat (first | refine WP.seq ?_ | refine WP.region ?_ | refine WP.regionQ (by kernel_rfl) ?_ | refine opsW.mov rfl rfl rfl ?_ | refine opsW.asg rfl rfl rfl ?_ | refine opsW.ld rfl rfl rfl rfl (cells_last _ _ _ _) rfl ?_ | refine opsW.ldA rfl rfl rfl rfl rfl (cells_last _ _ _ _) (Nat.le_of_ble_eq_true rfl) rfl ?_ | refine opsW.ld rfl rfl rfl rfl (cells_prev _ _ _ _ _) rfl ?_ | refine opsW.ldA rfl rfl rfl rfl rfl (cells_prev _ _ _ _ _) (Nat.le_of_ble_eq_true rfl) rfl ?_ | refine opsW.maxI rfl rfl rfl rfl rfl rfl ?_ | refine opsW.minI rfl rfl rfl rfl rfl rfl ?_ | refine opsW.goM (by rfl) (by rfl) (by rfl) ?_ | refine opsW.skip rfl ?_ | refine opsW.pickT rfl rfl rfl (by constructor <;> rfl) ?_ | refine opsW.pickF rfl rfl rfl (by constructor <;> rfl) ?_ | refine opsW.box rfl rfl rfl rfl ?_ | refine opsW.done ?_ | refine WP.block ?_ | refine thenQ.norm ?_ | refine WP.skip ?_ | refine WP.cond_true rfl ?_ | refine WP.cond_false rfl ?_ | refine WP.ret ?_ | refine thenQ.ret ?_ | refine blockQ.ret ?_)
  refine opsW.f2i rfl rfl rfl rfl rfl (toInt_part b a) (by omega) (by have := partN_lt b a; omega) ?_
  repeat (first | refine WP.seq ?_ | refine WP.region ?_ | refine WP.regionQ (by kernel_rfl) ?_ | refine opsW.mov rfl rfl rfl ?_ | refine opsW.asg rfl rfl rfl ?_ | refine opsW.ld rfl rfl rfl rfl (cells_last _ _ _ _) rfl ?_ | refine opsW.ldA rfl rfl rfl rfl rfl (cells_last _ _ _ _) (Nat.le_of_ble_eq_true rfl) rfl ?_ | refine opsW.ld rfl rfl rfl rfl (cells_prev _ _ _ _ _) rfl ?_ | refine opsW.ldA rfl rfl rfl rfl rfl (cells_prev _ _ _ _ _) (Nat.le_of_ble_eq_true rfl) rfl ?_ | refine opsW.maxI rfl rfl rfl rfl rfl rfl ?_ | refine opsW.minI rfl rfl rfl rfl rfl rfl ?_ | refine opsW.goM (by rfl) (by rfl) (by rfl) ?_ | refine opsW.skip rfl ?_ | refine opsW.pickT rfl rfl rfl (by constructor <;> rfl) ?_ | refine opsW.pickF rfl rfl rfl (by constructor <;> rfl) ?_ | refine opsW.box rfl rfl rfl rfl ?_ | refine opsW.done ?_ | refine WP.block ?_ | refine thenQ.norm ?_ | refine WP.skip ?_ | refine WP.cond_true rfl ?_ | refine WP.cond_false rfl ?_ | refine WP.ret ?_ | refine thenQ.ret ?_ | refine blockQ.ret ?_)
  exact endQ rfl (by simp) rfl rfl ⟨rfl, rfl⟩ (by intro _ h; cases h)

theorem guess_ok (b : Nat) (hb : b < 2 ^ 64) (a : Int) (H : AH) : CW env 8 [.float .f64 b, .int .i64 a] H fun v ch => v = .int .i64 (guessv b a) ∧ ch = none := by
  unfold guessv
  have hg := gt_zero hb
  by_cases h : a ≤ 0
  · rw [if_pos h]; exact guess_0 b a (decide_eq_true h) H
  · rw [if_neg h]
    cases hp : posF b with
    | true => rw [if_pos rfl]; exact guess_p b a (decide_eq_false h) (hg.trans hp) hp H
    | false => rw [if_neg (by decide)]; exact guess_n b a (decide_eq_false h) (hg.trans hp) H
theorem guessv_0 (b : Nat) (a : Int) : 0 ≤ guessv b a ∧ guessv b a ≤ 86400 ∧ guessv b a ≤ max 0 a := by
  have h1 := partN_le (b := b) (cutN_lt a)
  unfold guessv
  unfold cutv at *
  split
  · omega
  · split <;> omega
theorem guessv_mono {b c : Nat} {a d : Int} (hbc : posF b = true → posF c = true ∧ b ≤ c) (h : a ≤ d) : guessv b a ≤ guessv c d := by
  have h0 := (guessv_0 c d).1
  by_cases h1 : a ≤ 0
  · have e : guessv b a = 0 := by unfold guessv; rw [if_pos h1]
    rw [e]; exact h0
  · cases hp : posF b with
    | false =>
      have e : guessv b a = 0 := by
        unfold guessv
        rw [if_neg h1, hp, if_neg Bool.false_ne_true]
      rw [e]; exact h0
    | true =>
      obtain ⟨h2, h3⟩ := hbc hp
      have := partN_mono h3 (show (cutv a).toNat ≤ (cutv d).toNat by unfold cutv; omega)
      have h4 : ¬ d ≤ 0 := by omega
      unfold guessv
      rw [if_neg h1, if_neg h4, hp, h2, if_pos rfl, if_pos rfl]
      omega
theorem guessv_one {b : Nat} (a : Int) (h1 : one ≤ b) (h2 : b ≤ 2047 * 2 ^ 52) : guessv b a = min (max a 0) 86400 := by
  have hp : posF b = true := posF_iff.2 ⟨Nat.lt_of_lt_of_le (by decide) h1, h2⟩
  unfold guessv
  rw [hp, partN_one (cutN_lt a) h1]
  unfold cutv
  split
  · omega
  · rw [if_pos rfl]; omega
theorem guessv_non {b : Nat} (a : Int) (h : posF b = false) : guessv b a = 0 := by
  unfold guessv
  rw [h]
  split <;> rfl

end Go.Proofs.Ytdjkfaennnibkaa

/- What the functions of the layer of decisions answer: first. -/
import Derived.Test.YtlepdjcdcgiccaaAge
namespace Go.Proofs.Ytlepdjcdcgiccaa
open Go Go.Ve

def freshv (ask ans date age life now : Int) : Bool := decide (curv ask ans date age now < life)
def stalev (ask ans date age life now : Int) : Int := if freshv ask ans date age life now then 0 else subv (curv ask ans date age now) life

theorem fresh_ok (mma msma mmx mmf msw mse : Int) (mnc mns mnt moi mmr mpr mmu mpb mpv : Bool) (ask ans date age : Int) (life : Int) (chk : Bool) (now : Int) (H : AH) : CW env 17 [.agg [.int .i64 mma, .int .i64 msma, .int .i64 mmx, .int .i64 mmf, .int .i64 msw, .int .i64 mse, .bool mnc, .bool mns, .bool mnt, .bool moi, .bool mmr, .bool mpr, .bool mmu, .bool mpb, .bool mpv, .int .i64 ask, .int .i64 ans, .int .i64 date, .int .i64 age, .int .i64 life, .bool chk], .int .i64 now] H fun v ch => v = .bool (freshv ask ans date age life now) ∧ ch = none := by
  refine CW.body (E := env) (f := 17) rfl Try.func17 rfl Try.ntmps17 ?_
  repeat (first | refine WP.seq ?_ | refine WP.region ?_ | refine WP.regionQ (by kernel_rfl) ?_ | refine opsW.mov rfl rfl rfl ?_ | refine opsW.asg rfl rfl rfl ?_ | refine opsW.ld rfl rfl rfl rfl (cells_last _ _ _ _) rfl ?_ | refine opsW.ldA rfl rfl rfl rfl rfl (cells_last _ _ _ _) (Nat.le_of_ble_eq_true rfl) rfl ?_ | refine opsW.ld rfl rfl rfl rfl (cells_prev _ _ _ _ _) rfl ?_ | refine opsW.ldA rfl rfl rfl rfl rfl (cells_prev _ _ _ _ _) (Nat.le_of_ble_eq_true rfl) rfl ?_ | refine opsW.maxI rfl rfl rfl rfl rfl rfl ?_ | refine opsW.minI rfl rfl rfl rfl rfl rfl ?_ | refine opsW.goM (by rfl) (by rfl) (by rfl) ?_ | refine opsW.skip rfl ?_ | refine opsW.pickT rfl rfl rfl (by constructor <;> rfl) ?_ | refine opsW.pickF rfl rfl rfl (by constructor <;> rfl) ?_ | refine opsW.box rfl rfl rfl rfl ?_ | refine opsW.done ?_ | refine WP.block ?_ | refine thenQ.norm ?_ | refine WP.skip ?_ | refine WP.cond_true rfl ?_ | refine WP.cond_false rfl ?_ | refine WP.ret ?_ | refine thenQ.ret ?_ | refine blockQ.ret ?_)
  refine opsW.callQ rfl rfl (cur_ok _ _ _ _ _ _) ?_
  repeat (first | refine WP.seq ?_ | refine WP.region ?_ | refine WP.regionQ (by kernel_rfl) ?_ | refine opsW.mov rfl rfl rfl ?_ | refine opsW.asg rfl rfl rfl ?_ | refine opsW.ld rfl rfl rfl rfl (cells_last _ _ _ _) rfl ?_ | refine opsW.ldA rfl rfl rfl rfl rfl (cells_last _ _ _ _) (Nat.le_of_ble_eq_true rfl) rfl ?_ | refine opsW.ld rfl rfl rfl rfl (cells_prev _ _ _ _ _) rfl ?_ | refine opsW.ldA rfl rfl rfl rfl rfl (cells_prev _ _ _ _ _) (Nat.le_of_ble_eq_true rfl) rfl ?_ | refine opsW.maxI rfl rfl rfl rfl rfl rfl ?_ | refine opsW.minI rfl rfl rfl rfl rfl rfl ?_ | refine opsW.goM (by rfl) (by rfl) (by rfl) ?_ | refine opsW.skip rfl ?_ | refine opsW.pickT rfl rfl rfl (by constructor <;> rfl) ?_ | refine opsW.pickF rfl rfl rfl (by constructor <;> rfl) ?_ | refine opsW.box rfl rfl rfl rfl ?_ | refine opsW.done ?_ | refine WP.block ?_ | refine thenQ.norm ?_ | refine WP.skip ?_ | refine WP.cond_true rfl ?_ | refine WP.cond_false rfl ?_ | refine WP.ret ?_ | refine thenQ.ret ?_ | refine blockQ.ret ?_)
  refine opsW.go (by rfl) (by rfl) (by rfl) ?_
  repeat (first | refine WP.seq ?_ | refine WP.region ?_ | refine WP.regionQ (by kernel_rfl) ?_ | refine opsW.mov rfl rfl rfl ?_ | refine opsW.asg rfl rfl rfl ?_ | refine opsW.ld rfl rfl rfl rfl (cells_last _ _ _ _) rfl ?_ | refine opsW.ldA rfl rfl rfl rfl rfl (cells_last _ _ _ _) (Nat.le_of_ble_eq_true rfl) rfl ?_ | refine opsW.ld rfl rfl rfl rfl (cells_prev _ _ _ _ _) rfl ?_ | refine opsW.ldA rfl rfl rfl rfl rfl (cells_prev _ _ _ _ _) (Nat.le_of_ble_eq_true rfl) rfl ?_ | refine opsW.maxI rfl rfl rfl rfl rfl rfl ?_ | refine opsW.minI rfl rfl rfl rfl rfl rfl ?_ | refine opsW.goM (by rfl) (by rfl) (by rfl) ?_ | refine opsW.skip rfl ?_ | refine opsW.pickT rfl rfl rfl (by constructor <;> rfl) ?_ | refine opsW.pickF rfl rfl rfl (by constructor <;> rfl) ?_ | refine opsW.box rfl rfl rfl rfl ?_ | refine opsW.done ?_ | refine WP.block ?_ | refine thenQ.norm ?_ | refine WP.skip ?_ | refine WP.cond_true rfl ?_ | refine WP.cond_false rfl ?_ | refine WP.ret ?_ | refine thenQ.ret ?_ | refine blockQ.ret ?_)
  exact endQ rfl (by simp) rfl rfl ⟨rfl, rfl⟩ (by intro _ h; cases h)

theorem stale_f (mma msma mmx mmf msw mse : Int) (mnc mns mnt moi mmr mpr mmu mpb mpv : Bool) (ask ans date age : Int) (life : Int) (chk : Bool) (now : Int) (h : freshv ask ans date age life now = true) (H : AH) : CW env 16 [.agg [.int .i64 mma, .int .i64 msma, .int .i64 mmx, .int .i64 mmf, .int .i64 msw, .int .i64 mse, .bool mnc, .bool mns, .bool mnt, .bool moi, .bool mmr, .bool mpr, .bool mmu, .bool mpb, .bool mpv, .int .i64 ask, .int .i64 ans, .int .i64 date, .int .i64 age, .int .i64 life, .bool chk], .int .i64 now] H fun v ch => v = .int .i64 0 ∧ ch = none := by
  refine CW.body (E := env) (f := 16) rfl Try.func16 rfl Try.ntmps16 ?_
  repeat (first | refine WP.seq ?_ | refine WP.region ?_ | refine WP.regionQ (by kernel_rfl) ?_ | refine opsW.mov rfl rfl rfl ?_ | refine opsW.asg rfl rfl rfl ?_ | refine opsW.ld rfl rfl rfl rfl (cells_last _ _ _ _) rfl ?_ | refine opsW.ldA rfl rfl rfl rfl rfl (cells_last _ _ _ _) (Nat.le_of_ble_eq_true rfl) rfl ?_ | refine opsW.ld rfl rfl rfl rfl (cells_prev _ _ _ _ _) rfl ?_ | refine opsW.ldA rfl rfl rfl rfl rfl (cells_prev _ _ _ _ _) (Nat.le_of_ble_eq_true rfl) rfl ?_ | refine opsW.maxI rfl rfl rfl rfl rfl rfl ?_ | refine opsW.minI rfl rfl rfl rfl rfl rfl ?_ | refine opsW.goM (by rfl) (by rfl) (by rfl) ?_ | refine opsW.skip rfl ?_ | refine opsW.pickT rfl rfl rfl (by constructor <;> rfl) ?_ | refine opsW.pickF rfl rfl rfl (by constructor <;> rfl) ?_ | refine opsW.box rfl rfl rfl rfl ?_ | refine opsW.done ?_ | refine WP.block ?_ | refine thenQ.norm ?_ | refine WP.skip ?_ | refine WP.cond_true rfl ?_ | refine WP.cond_false rfl ?_ | refine WP.ret ?_ | refine thenQ.ret ?_ | refine blockQ.ret ?_)
  refine opsW.callQ rfl rfl (CW.eq (fresh_ok mma msma mmx mmf msw mse mnc mns mnt moi mmr mpr mmu mpb mpv ask ans date age life chk now _) (congrArg AV.bool h)) ?_
  repeat (first | refine WP.seq ?_ | refine WP.region ?_ | refine WP.regionQ (by kernel_rfl) ?_ | refine opsW.mov rfl rfl rfl ?_ | refine opsW.asg rfl rfl rfl ?_ | refine opsW.ld rfl rfl rfl rfl (cells_last _ _ _ _) rfl ?_ | refine opsW.ldA rfl rfl rfl rfl rfl (cells_last _ _ _ _) (Nat.le_of_ble_eq_true rfl) rfl ?_ | refine opsW.ld rfl rfl rfl rfl (cells_prev _ _ _ _ _) rfl ?_ | refine opsW.ldA rfl rfl rfl rfl rfl (cells_prev _ _ _ _ _) (Nat.le_of_ble_eq_true rfl) rfl ?_ | refine opsW.maxI rfl rfl rfl rfl rfl rfl ?_ | refine opsW.minI rfl rfl rfl rfl rfl rfl ?_ | refine opsW.goM (by rfl) (by rfl) (by rfl) ?_ | refine opsW.skip rfl ?_ | refine opsW.pickT rfl rfl rfl (by constructor <;> rfl) ?_ | refine opsW.pickF rfl rfl rfl (by constructor <;> rfl) ?_ | refine opsW.box rfl rfl rfl rfl ?_ | refine opsW.done ?_ | refine WP.block ?_ | refine thenQ.norm ?_ | refine WP.skip ?_ | refine WP.cond_true rfl ?_ | refine WP.cond_false rfl ?_ | refine WP.ret ?_ | refine thenQ.ret ?_ | refine blockQ.ret ?_)
  exact endQ rfl (by simp) rfl rfl ⟨rfl, rfl⟩ (by intro _ h; cases h)

theorem stale_s (mma msma mmx mmf msw mse : Int) (mnc mns mnt moi mmr mpr mmu mpb mpv : Bool) (ask ans date age : Int) (life : Int) (chk : Bool) (now : Int) (h : freshv ask ans date age life now = false) (H : AH) : CW env 16 [.agg [.int .i64 mma, .int .i64 msma, .int .i64 mmx, .int .i64 mmf, .int .i64 msw, .int .i64 mse, .bool mnc, .bool mns, .bool mnt, .bool moi, .bool mmr, .bool mpr, .bool mmu, .bool mpb, .bool mpv, .int .i64 ask, .int .i64 ans, .int .i64 date, .int .i64 age, .int .i64 life, .bool chk], .int .i64 now] H fun v ch => v = .int .i64 (subv (curv ask ans date age now) life) ∧ ch = none := by
  refine CW.body (E := env) (f := 16) rfl Try.func16 rfl Try.ntmps16 ?_
  repeat (first | refine WP.seq ?_ | refine WP.region ?_ | refine WP.regionQ (by kernel_rfl) ?_ | refine opsW.mov rfl rfl rfl ?_ | refine opsW.asg rfl rfl rfl ?_ | refine opsW.ld rfl rfl rfl rfl (cells_last _ _ _ _) rfl ?_ | refine opsW.ldA rfl rfl rfl rfl rfl (cells_last _ _ _ _) (Nat.le_of_ble_eq_true rfl) rfl ?_ | refine opsW.ld rfl rfl rfl rfl (cells_prev _ _ _ _ _) rfl ?_ | refine opsW.ldA rfl rfl rfl rfl rfl (cells_prev _ _ _ _ _) (Nat.le_of_ble_eq_true rfl) rfl ?_ | refine opsW.maxI rfl rfl rfl rfl rfl rfl ?_ | refine opsW.minI rfl rfl rfl rfl rfl rfl ?_ | refine opsW.goM (by rfl) (by rfl) (by rfl) ?_ | refine opsW.skip rfl ?_ | refine opsW.pickT rfl rfl rfl (by constructor <;> rfl) ?_ | refine opsW.pickF rfl rfl rfl (by constructor <;> rfl) ?_ | refine opsW.box rfl rfl rfl rfl ?_ | refine opsW.done ?_ | refine WP.block ?_ | refine thenQ.norm ?_ | refine WP.skip ?_ | refine WP.cond_true rfl ?_ | refine WP.cond_false rfl ?_ | refine WP.ret ?_ | refine thenQ.ret ?_ | refine blockQ.ret ?_)
  refine opsW.callQ rfl rfl (CW.eq (fresh_ok mma msma mmx mmf msw mse mnc mns mnt moi mmr mpr mmu mpb mpv ask ans date age life chk now _) (congrArg AV.bool h)) ?_
  repeat (first | refine WP.seq ?_ | refine WP.region ?_ | refine WP.regionQ (by kernel_rfl) ?_ | refine opsW.mov rfl rfl rfl ?_ | refine opsW.asg rfl rfl rfl ?_ | refine opsW.ld rfl rfl rfl rfl (cells_last _ _ _ _) rfl ?_ | refine opsW.ldA rfl rfl rfl rfl rfl (cells_last _ _ _ _) (Nat.le_of_ble_eq_true rfl) rfl ?_ | refine opsW.ld rfl rfl rfl rfl (cells_prev _ _ _ _ _) rfl ?_ | refine opsW.ldA rfl rfl rfl rfl rfl (cells_prev _ _ _ _ _) (Nat.le_of_ble_eq_true rfl) rfl ?_ | refine opsW.maxI rfl rfl rfl rfl rfl rfl ?_ | refine opsW.minI rfl rfl rfl rfl rfl rfl ?_ | refine opsW.goM (by rfl) (by rfl) (by rfl) ?_ | refine opsW.skip rfl ?_ | refine opsW.pickT rfl rfl rfl (by constructor <;> rfl) ?_ | refine opsW.pickF rfl rfl rfl (by constructor <;> rfl) ?_ | refine opsW.box rfl rfl rfl rfl ?_ | refine opsW.done ?_ | refine WP.block ?_ | refine thenQ.norm ?_ | refine WP.skip ?_ | refine WP.cond_true rfl ?_ | refine WP.cond_false rfl ?_ | refine WP.ret ?_ | refine thenQ.ret ?_ | refine blockQ.ret ?_)
  refine opsW.callQ rfl rfl (cur_ok _ _ _ _ _ _) ?_
  repeat (first | refine WP.seq ?_ | refine WP.region ?_ | refine WP.regionQ (by kernel_rfl) ?_ | refine opsW.mov rfl rfl rfl ?_ | refine opsW.asg rfl rfl rfl ?_ | refine opsW.ld rfl rfl rfl rfl (cells_last _ _ _ _) rfl ?_ | refine opsW.ldA rfl rfl rfl rfl rfl (cells_last _ _ _ _) (Nat.le_of_ble_eq_true rfl) rfl ?_ | refine opsW.ld rfl rfl rfl rfl (cells_prev _ _ _ _ _) rfl ?_ | refine opsW.ldA rfl rfl rfl rfl rfl (cells_prev _ _ _ _ _) (Nat.le_of_ble_eq_true rfl) rfl ?_ | refine opsW.maxI rfl rfl rfl rfl rfl rfl ?_ | refine opsW.minI rfl rfl rfl rfl rfl rfl ?_ | refine opsW.goM (by rfl) (by rfl) (by rfl) ?_ | refine opsW.skip rfl ?_ | refine opsW.pickT rfl rfl rfl (by constructor <;> rfl) ?_ | refine opsW.pickF rfl rfl rfl (by constructor <;> rfl) ?_ | refine opsW.box rfl rfl rfl rfl ?_ | refine opsW.done ?_ | refine WP.block ?_ | refine thenQ.norm ?_ | refine WP.skip ?_ | refine WP.cond_true rfl ?_ | refine WP.cond_false rfl ?_ | refine WP.ret ?_ | refine thenQ.ret ?_ | refine blockQ.ret ?_)
  refine opsW.callQ rfl rfl (sub_ok _ _ _) ?_
  repeat (first | refine WP.seq ?_ | refine WP.region ?_ | refine WP.regionQ (by kernel_rfl) ?_ | refine opsW.mov rfl rfl rfl ?_ | refine opsW.asg rfl rfl rfl ?_ | refine opsW.ld rfl rfl rfl rfl (cells_last _ _ _ _) rfl ?_ | refine opsW.ldA rfl rfl rfl rfl rfl (cells_last _ _ _ _) (Nat.le_of_ble_eq_true rfl) rfl ?_ | refine opsW.ld rfl rfl rfl rfl (cells_prev _ _ _ _ _) rfl ?_ | refine opsW.ldA rfl rfl rfl rfl rfl (cells_prev _ _ _ _ _) (Nat.le_of_ble_eq_true rfl) rfl ?_ | refine opsW.maxI rfl rfl rfl rfl rfl rfl ?_ | refine opsW.minI rfl rfl rfl rfl rfl rfl ?_ | refine opsW.goM (by rfl) (by rfl) (by rfl) ?_ | refine opsW.skip rfl ?_ | refine opsW.pickT rfl rfl rfl (by constructor <;> rfl) ?_ | refine opsW.pickF rfl rfl rfl (by constructor <;> rfl) ?_ | refine opsW.box rfl rfl rfl rfl ?_ | refine opsW.done ?_ | refine WP.block ?_ | refine thenQ.norm ?_ | refine WP.skip ?_ | refine WP.cond_true rfl ?_ | refine WP.cond_false rfl ?_ | refine WP.ret ?_ | refine thenQ.ret ?_ | refine blockQ.ret ?_)
  exact endQ rfl (by simp) rfl rfl ⟨rfl, rfl⟩ (by intro _ h; cases h)

theorem stale_ok (mma msma mmx mmf msw mse : Int) (mnc mns mnt moi mmr mpr mmu mpb mpv : Bool) (ask ans date age : Int) (life : Int) (chk : Bool) (now : Int) (H : AH) : CW env 16 [.agg [.int .i64 mma, .int .i64 msma, .int .i64 mmx, .int .i64 mmf, .int .i64 msw, .int .i64 mse, .bool mnc, .bool mns, .bool mnt, .bool moi, .bool mmr, .bool mpr, .bool mmu, .bool mpb, .bool mpv, .int .i64 ask, .int .i64 ans, .int .i64 date, .int .i64 age, .int .i64 life, .bool chk], .int .i64 now] H fun v ch => v = .int .i64 (stalev ask ans date age life now) ∧ ch = none := by
  unfold stalev
  cases h : freshv ask ans date age life now
  · exact stale_s mma msma mmx mmf msw mse mnc mns mnt moi mmr mpr mmu mpb mpv ask ans date age life chk now h H
  · exact stale_f mma msma mmx mmf msw mse mnc mns mnt moi mmr mpr mmu mpb mpv ask ans date age life chk now h H
theorem allNames : Try.prog.funcs.all (fun fn => !(fn.name == "runtime.NumGoroutine")) = true := by kernel_rfl
theorem mixed : Try.prog.follows .mixedOrders = true := by kernel_rfl

/-- The answers that are known. -/
def orcB : CallF := fun f args _ =>
  if f = 15 then
    match args with
    | [.agg [.int .i64 ask, .int .i64 ans, .int .i64 date, .int .i64 age], .int .i64 now] => some (.int .i64 (curv ask ans date age now), none)
    | _ => none
  else if f = 17 then
    match args with
    | [.agg [.int .i64 _, .int .i64 _, .int .i64 _, .int .i64 _, .int .i64 _, .int .i64 _, .bool _, .bool _, .bool _, .bool _, .bool _, .bool _, .bool _, .bool _, .bool _, .int .i64 ask, .int .i64 ans, .int .i64 date, .int .i64 age, .int .i64 life, .bool _], .int .i64 now] => some (.bool (freshv ask ans date age life now), none)
    | _ => none
  else if f = 16 then
    match args with
    | [.agg [.int .i64 _, .int .i64 _, .int .i64 _, .int .i64 _, .int .i64 _, .int .i64 _, .bool _, .bool _, .bool _, .bool _, .bool _, .bool _, .bool _, .bool _, .bool _, .int .i64 ask, .int .i64 ans, .int .i64 date, .int .i64 age, .int .i64 life, .bool _], .int .i64 now] => some (.int .i64 (stalev ask ans date age life now), none)
    | _ => none
  else none
noncomputable def envB : Env := ⟨Try.prog, orcB⟩
theorem envBOk : CallOk envB.P envB.orc := by
  intro f args H v ch h0
  have h : orcB f args H = some (v, ch) := h0
  clear h0
  unfold orcB at h
  split at h
  · rename_i hf
    subst hf
    split at h
    · cases h
      exact orc_of_cw (E := env) allNames mixed envOk (cur_ok _ _ _ _ _ _)
    · cases h
  · split at h
    · rename_i hf
      subst hf
      split at h
      · cases h
        exact orc_of_cw (E := env) allNames mixed envOk (fresh_ok _ _ _ _ _ _ _ _ _ _ _ _ _ _ _ _ _ _ _ _ _ _ _)
      · cases h
    · split at h
      · rename_i hf
        subst hf
        split at h
        · cases h
          exact orc_of_cw (E := env) allNames mixed envOk (stale_ok _ _ _ _ _ _ _ _ _ _ _ _ _ _ _ _ _ _ _ _ _ _ _)
        · cases h
      · cases h

end Go.Proofs.Ytlepdjcdcgiccaa

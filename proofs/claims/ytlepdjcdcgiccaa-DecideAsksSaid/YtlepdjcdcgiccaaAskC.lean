/- What a verdict is, in any memory. -/
import Derived.Test.YtlepdjcdcgiccaaUse0p1
import Derived.Test.YtlepdjcdcgiccaaUse0p2
import Derived.Test.YtlepdjcdcgiccaaUse0p3
import Derived.Test.YtlepdjcdcgiccaaUse0p4
import Derived.Test.YtlepdjcdcgiccaaUse0p5
import Derived.Test.YtlepdjcdcgiccaaVeO
namespace Go.Proofs.Ytlepdjcdcgiccaa
open Go Go.Ve

def usev (oi r1 r2 r3 r4 : Bool) : Int := cond r1 (cond oi 5 4) (cond r2 1 (cond r3 2 (cond r4 3 (cond oi 5 4))))

theorem use0_ok (mma msma mmx mmf msw mse : Int) (mnc mns mnt moi mmr mpr mmu mpb mpv : Bool) (ask ans date age : Int) (life : Int) (chk : Bool) (qma qsma qmx qmf qsw qse : Int) (qnc qns qnt qoi qmr qpr qmu qpb qpv : Bool) (now : Int) : CW envB 8 [.agg [.int .i64 mma, .int .i64 msma, .int .i64 mmx, .int .i64 mmf, .int .i64 msw, .int .i64 mse, .bool mnc, .bool mns, .bool mnt, .bool moi, .bool mmr, .bool mpr, .bool mmu, .bool mpb, .bool mpv, .int .i64 ask, .int .i64 ans, .int .i64 date, .int .i64 age, .int .i64 life, .bool chk], .agg [.int .i64 qma, .int .i64 qsma, .int .i64 qmx, .int .i64 qmf, .int .i64 qsw, .int .i64 qse, .bool qnc, .bool qns, .bool qnt, .bool qoi, .bool qmr, .bool qpr, .bool qmu, .bool qpb, .bool qpv], .int .i64 now] [] fun v ch => v = .int .i64 (usev qoi (r1v qnc mnc) (r2v (freshv ask ans date age life now) qma qmf (curv ask ans date age now) life) (r3v (freshv ask ans date age life now) mmr mpr mnc msma qma qmx (curv ask ans date age now) (stalev ask ans date age life now)) (r4v (freshv ask ans date age life now) mmr mpr mnc msma qma qmf msw (stalev ask ans date age life now))) ∧ ch = none := by
  cases h1 : r1v qnc mnc
  · cases h2 : r2v (freshv ask ans date age life now) qma qmf (curv ask ans date age now) life
    · cases h3 : r3v (freshv ask ans date age life now) mmr mpr mnc msma qma qmx (curv ask ans date age now) (stalev ask ans date age life now)
      · cases h4 : r4v (freshv ask ans date age life now) mmr mpr mnc msma qma qmf msw (stalev ask ans date age life now)
        · cases qoi
          · exact use0_5f mma msma mmx mmf msw mse mnc mns mnt moi mmr mpr mmu mpb mpv ask ans date age life chk qma qsma qmx qmf qsw qse qnc qns qnt qmr qpr qmu qpb qpv now h1 h2 h3 h4
          · exact use0_5t mma msma mmx mmf msw mse mnc mns mnt moi mmr mpr mmu mpb mpv ask ans date age life chk qma qsma qmx qmf qsw qse qnc qns qnt qmr qpr qmu qpb qpv now h1 h2 h3 h4
        · cases qoi
          · exact use0_4f mma msma mmx mmf msw mse mnc mns mnt moi mmr mpr mmu mpb mpv ask ans date age life chk qma qsma qmx qmf qsw qse qnc qns qnt qmr qpr qmu qpb qpv now h1 h2 h3 h4
          · exact use0_4t mma msma mmx mmf msw mse mnc mns mnt moi mmr mpr mmu mpb mpv ask ans date age life chk qma qsma qmx qmf qsw qse qnc qns qnt qmr qpr qmu qpb qpv now h1 h2 h3 h4
      · cases qoi
        · exact use0_3f mma msma mmx mmf msw mse mnc mns mnt moi mmr mpr mmu mpb mpv ask ans date age life chk qma qsma qmx qmf qsw qse qnc qns qnt qmr qpr qmu qpb qpv now h1 h2 h3
        · exact use0_3t mma msma mmx mmf msw mse mnc mns mnt moi mmr mpr mmu mpb mpv ask ans date age life chk qma qsma qmx qmf qsw qse qnc qns qnt qmr qpr qmu qpb qpv now h1 h2 h3
    · cases qoi
      · exact use0_2f mma msma mmx mmf msw mse mnc mns mnt moi mmr mpr mmu mpb mpv ask ans date age life chk qma qsma qmx qmf qsw qse qnc qns qnt qmr qpr qmu qpb qpv now h1 h2
      · exact use0_2t mma msma mmx mmf msw mse mnc mns mnt moi mmr mpr mmu mpb mpv ask ans date age life chk qma qsma qmx qmf qsw qse qnc qns qnt qmr qpr qmu qpb qpv now h1 h2
  · cases qoi
    · exact use0_1f mma msma mmx mmf msw mse mnc mns mnt moi mmr mpr mmu mpb mpv ask ans date age life chk qma qsma qmx qmf qsw qse qnc qns qnt qmr qpr qmu qpb qpv now h1
    · exact use0_1t mma msma mmx mmf msw mse mnc mns mnt moi mmr mpr mmu mpb mpv ask ans date age life chk qma qsma qmx qmf qsw qse qnc qns qnt qmr qpr qmu qpb qpv now h1


/-- The answers that are known. -/
def orcU : CallF := fun f args _ =>
  if f = 8 then
    match args with
    | [.agg [.int .i64 _, .int .i64 msma, .int .i64 _, .int .i64 _, .int .i64 msw, .int .i64 _, .bool mnc, .bool _, .bool _, .bool _, .bool mmr, .bool mpr, .bool _, .bool _, .bool _, .int .i64 ask, .int .i64 ans, .int .i64 date, .int .i64 age, .int .i64 life, .bool _], .agg [.int .i64 qma, .int .i64 _, .int .i64 qmx, .int .i64 qmf, .int .i64 _, .int .i64 _, .bool qnc, .bool _, .bool _, .bool qoi, .bool _, .bool _, .bool _, .bool _, .bool _], .int .i64 now] => some (.int .i64 (usev qoi (r1v qnc mnc) (r2v (freshv ask ans date age life now) qma qmf (curv ask ans date age now) life) (r3v (freshv ask ans date age life now) mmr mpr mnc msma qma qmx (curv ask ans date age now) (stalev ask ans date age life now)) (r4v (freshv ask ans date age life now) mmr mpr mnc msma qma qmf msw (stalev ask ans date age life now))), none)
    | _ => none
  else if f = 7 then
    match args with
    | [] => some (.bool true, none)
    | _ => none
  else none
noncomputable def envC : Env := ⟨Try.prog, orcU⟩
theorem livesC : evCall envB (ev envB 40) 7 [] [] = some (.bool true, none) := by kernel_rfl
theorem envCOk : CallOk envC.P envC.orc := by
  intro f args H v ch h0
  have h : orcU f args H = some (v, ch) := h0
  clear h0
  unfold orcU at h
  split at h
  · rename_i hf
    subst hf
    split at h
    · cases h
      obtain ⟨n, u, ch, h1, rfl, rfl⟩ := use0_ok _ _ _ _ _ _ _ _ _ _ _ _ _ _ _ _ _ _ _ _ _ _ _ _ _ _ _ _ _ _ _ _ _ _ _ _ _
      exact ⟨fun w0 φ w us hr hu => lift0 (evCall_ok envBOk (ev_ok allNames mixed envBOk n)) h1 rfl rfl hr hu, fun H' lo hh => by cases hh⟩
    · cases h
  · split at h
    · rename_i hf
      subst hf
      split at h
      · cases h
        exact ⟨fun w0 φ w us hr hu => lift0 (evCall_ok envBOk (ev_ok allNames mixed envBOk 40)) livesC rfl rfl hr hu, fun H' lo hh => by cases hh⟩
      · cases h
    · cases h
theorem useC (mma msma mmx mmf msw mse : Int) (mnc mns mnt moi mmr mpr mmu mpb mpv : Bool) (ask ans date age : Int) (life : Int) (chk : Bool) (qma qsma qmx qmf qsw qse : Int) (qnc qns qnt qoi qmr qpr qmu qpb qpv : Bool) (now : Int) (H : AH) : CW envC 8 [.agg [.int .i64 mma, .int .i64 msma, .int .i64 mmx, .int .i64 mmf, .int .i64 msw, .int .i64 mse, .bool mnc, .bool mns, .bool mnt, .bool moi, .bool mmr, .bool mpr, .bool mmu, .bool mpb, .bool mpv, .int .i64 ask, .int .i64 ans, .int .i64 date, .int .i64 age, .int .i64 life, .bool chk], .agg [.int .i64 qma, .int .i64 qsma, .int .i64 qmx, .int .i64 qmf, .int .i64 qsw, .int .i64 qse, .bool qnc, .bool qns, .bool qnt, .bool qoi, .bool qmr, .bool qpr, .bool qmu, .bool qpb, .bool qpv], .int .i64 now] H fun v ch => v = .int .i64 (usev qoi (r1v qnc mnc) (r2v (freshv ask ans date age life now) qma qmf (curv ask ans date age now) life) (r3v (freshv ask ans date age life now) mmr mpr mnc msma qma qmx (curv ask ans date age now) (stalev ask ans date age life now)) (r4v (freshv ask ans date age life now) mmr mpr mnc msma qma qmf msw (stalev ask ans date age life now))) ∧ ch = none :=
  ⟨0, _, _, rfl, rfl, rfl⟩
theorem livesU (H : AH) : CW envC 7 [] H fun v ch => v = .bool true ∧ ch = none := ⟨0, _, _, rfl, rfl, rfl⟩

end Go.Proofs.Ytlepdjcdcgiccaa

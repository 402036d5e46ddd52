/- What a verdict is; and more answers for the laws. -/
import Derived.Test.YtmhhhcflnjfaiaaUse3p1
import Derived.Test.YtmhhhcflnjfaiaaUse3p2
import Derived.Test.YtmhhhcflnjfaiaaUse3p3
import Derived.Test.YtmhhhcflnjfaiaaUse3p4
import Derived.Test.YtmhhhcflnjfaiaaUse3p5
import Derived.Test.YtmhhhcflnjfaiaaErr2
namespace Go.Proofs.Ytmhhhcflnjfaiaa
open Go Go.Ve

def usev (oi r1 r2 r3 r4 : Bool) : Int := cond r1 (cond oi 5 4) (cond r2 1 (cond r3 2 (cond r4 3 (cond oi 5 4))))

theorem use3_ok (mma msma mmx mmf msw mse : Int) (mnc mns mnt moi mmr mpr mmu mpb mpv : Bool) (ask ans date age : Int) (life : Int) (chk : Bool) (qma qsma qmx qmf qsw qse : Int) (qnc qns qnt qoi qmr qpr qmu qpb qpv : Bool) (now : Int) (B0 B1 B2 : ABlk) : CW envB 8 [.agg [.int .i64 mma, .int .i64 msma, .int .i64 mmx, .int .i64 mmf, .int .i64 msw, .int .i64 mse, .bool mnc, .bool mns, .bool mnt, .bool moi, .bool mmr, .bool mpr, .bool mmu, .bool mpb, .bool mpv, .int .i64 ask, .int .i64 ans, .int .i64 date, .int .i64 age, .int .i64 life, .bool chk], .agg [.int .i64 qma, .int .i64 qsma, .int .i64 qmx, .int .i64 qmf, .int .i64 qsw, .int .i64 qse, .bool qnc, .bool qns, .bool qnt, .bool qoi, .bool qmr, .bool qpr, .bool qmu, .bool qpb, .bool qpv], .int .i64 now] [B0, B1, B2] fun v ch => v = .int .i64 (usev qoi (r1v qnc mnc) (r2v (freshv ask ans date age life now) qma qmf (curv ask ans date age now) life) (r3v (freshv ask ans date age life now) mmr mpr mnc msma qma qmx (curv ask ans date age now) (stalev ask ans date age life now)) (r4v (freshv ask ans date age life now) mmr mpr mnc msma qma qmf msw (stalev ask ans date age life now))) ∧ ch = none := by
  cases h1 : r1v qnc mnc
  · cases h2 : r2v (freshv ask ans date age life now) qma qmf (curv ask ans date age now) life
    · cases h3 : r3v (freshv ask ans date age life now) mmr mpr mnc msma qma qmx (curv ask ans date age now) (stalev ask ans date age life now)
      · cases h4 : r4v (freshv ask ans date age life now) mmr mpr mnc msma qma qmf msw (stalev ask ans date age life now)
        · cases qoi
          · exact use3_5f mma msma mmx mmf msw mse mnc mns mnt moi mmr mpr mmu mpb mpv ask ans date age life chk qma qsma qmx qmf qsw qse qnc qns qnt qmr qpr qmu qpb qpv now h1 h2 h3 h4 B0 B1 B2
          · exact use3_5t mma msma mmx mmf msw mse mnc mns mnt moi mmr mpr mmu mpb mpv ask ans date age life chk qma qsma qmx qmf qsw qse qnc qns qnt qmr qpr qmu qpb qpv now h1 h2 h3 h4 B0 B1 B2
        · cases qoi
          · exact use3_4f mma msma mmx mmf msw mse mnc mns mnt moi mmr mpr mmu mpb mpv ask ans date age life chk qma qsma qmx qmf qsw qse qnc qns qnt qmr qpr qmu qpb qpv now h1 h2 h3 h4 B0 B1 B2
          · exact use3_4t mma msma mmx mmf msw mse mnc mns mnt moi mmr mpr mmu mpb mpv ask ans date age life chk qma qsma qmx qmf qsw qse qnc qns qnt qmr qpr qmu qpb qpv now h1 h2 h3 h4 B0 B1 B2
      · cases qoi
        · exact use3_3f mma msma mmx mmf msw mse mnc mns mnt moi mmr mpr mmu mpb mpv ask ans date age life chk qma qsma qmx qmf qsw qse qnc qns qnt qmr qpr qmu qpb qpv now h1 h2 h3 B0 B1 B2
        · exact use3_3t mma msma mmx mmf msw mse mnc mns mnt moi mmr mpr mmu mpb mpv ask ans date age life chk qma qsma qmx qmf qsw qse qnc qns qnt qmr qpr qmu qpb qpv now h1 h2 h3 B0 B1 B2
    · cases qoi
      · exact use3_2f mma msma mmx mmf msw mse mnc mns mnt moi mmr mpr mmu mpb mpv ask ans date age life chk qma qsma qmx qmf qsw qse qnc qns qnt qmr qpr qmu qpb qpv now h1 h2 B0 B1 B2
      · exact use3_2t mma msma mmx mmf msw mse mnc mns mnt moi mmr mpr mmu mpb mpv ask ans date age life chk qma qsma qmx qmf qsw qse qnc qns qnt qmr qpr qmu qpb qpv now h1 h2 B0 B1 B2
  · cases qoi
    · exact use3_1f mma msma mmx mmf msw mse mnc mns mnt moi mmr mpr mmu mpb mpv ask ans date age life chk qma qsma qmx qmf qsw qse qnc qns qnt qmr qpr qmu qpb qpv now h1 B0 B1 B2
    · exact use3_1t mma msma mmx mmf msw mse mnc mns mnt moi mmr mpr mmu mpb mpv ask ans date age life chk qma qsma qmx qmf qsw qse qnc qns qnt qmr qpr qmu qpb qpv now h1 B0 B1 B2

theorem freshB (mma msma mmx mmf msw mse : Int) (mnc mns mnt moi mmr mpr mmu mpb mpv : Bool) (ask ans date age : Int) (life : Int) (chk : Bool) (now : Int) (H : AH) : CW envB 12 [.agg [.int .i64 mma, .int .i64 msma, .int .i64 mmx, .int .i64 mmf, .int .i64 msw, .int .i64 mse, .bool mnc, .bool mns, .bool mnt, .bool moi, .bool mmr, .bool mpr, .bool mmu, .bool mpb, .bool mpv, .int .i64 ask, .int .i64 ans, .int .i64 date, .int .i64 age, .int .i64 life, .bool chk], .int .i64 now] H fun v ch => v = .bool (freshv ask ans date age life now) ∧ ch = none := CW.orc rfl ⟨rfl, rfl⟩
theorem staleB (mma msma mmx mmf msw mse : Int) (mnc mns mnt moi mmr mpr mmu mpb mpv : Bool) (ask ans date age : Int) (life : Int) (chk : Bool) (now : Int) (H : AH) : CW envB 13 [.agg [.int .i64 mma, .int .i64 msma, .int .i64 mmx, .int .i64 mmf, .int .i64 msw, .int .i64 mse, .bool mnc, .bool mns, .bool mnt, .bool moi, .bool mmr, .bool mpr, .bool mmu, .bool mpb, .bool mpv, .int .i64 ask, .int .i64 ans, .int .i64 date, .int .i64 age, .int .i64 life, .bool chk], .int .i64 now] H fun v ch => v = .int .i64 (stalev ask ans date age life now) ∧ ch = none := CW.orc rfl ⟨rfl, rfl⟩
theorem livesB (B0 B1 : ABlk) : evCall envB (ev envB 40) 7 [] [B0, B1] = some (.bool true, none) := by kernel_rfl

end Go.Proofs.Ytmhhhcflnjfaiaa

/- The law of what may be stored. -/
import Derived.Test.YtdjkfaennnibkaaStorA
import Derived.Test.YtdjkfaennnibkaaStF
import Derived.Test.YtdjkfaennnibkaaStT
namespace Go.Proofs.Ytdjkfaennnibkaa
open Go Go.Ve

theorem storv_t {me : List UInt8} {qns au : Bool} {st mma msma mse : Int} {mns mmr mmu mpb mpv ex la av : Bool} (hw : storv me qns au st mma msma mse mns mmr mmu mpb mpv ex la av = true) : me = [71, 69, 84] ∧ finv st = true ∧ (st == 206) = false ∧ (st == 304) = false ∧ mns = false ∧ qns = false ∧ mpv = false ∧ av = false := by
  simp only [storv, Bool.and_eq_true, Bool.not_eq_true', bne_eq_false_iff_eq] at hw
  exact ⟨hw.1, hw.2.1, hw.2.2.1, hw.2.2.2.1, hw.2.2.2.2.1, hw.2.2.2.2.2.1, hw.2.2.2.2.2.2.1, hw.2.2.2.2.2.2.2.1⟩
theorem storv_y {me : List UInt8} {qns au : Bool} {st mma msma mse : Int} {mns mmr mmu mpb mpv ex la av : Bool} (hw : storv me qns au st mma msma mse mns mmr mmu mpb mpv ex la av = true) : storv me qns au st mma (0) mse mns mmr mmu mpb mpv ex la av = true := by
  simp only [storv, Bool.and_eq_true, Bool.not_eq_true', bne_eq_false_iff_eq] at hw ⊢
  obtain ⟨h1, h2, h3, h4, h5, h6, h7, h8, h9, _, _⟩ := hw
  refine ⟨h1, h2, h3, h4, h5, h6, h7, h8, h9, ?_, ?_⟩
  · cases au <;> cases mmr <;> cases mpb <;> rfl
  · rfl
theorem stores_law (me : List UInt8) (qma qsma qmx qmf qsw qse : Int) (qnc qns qnt qoi qmr qpr qmu qpb qpv : Bool) (au : Bool) (st : Int) (mma msma mmx mmf msw mse : Int) (mnc mns mnt moi mmr mpr mmu mpb mpv : Bool) (ex la av : Bool) (what : Int) : CW env 5 [.agg [.str me, .int .i64 qma, .int .i64 qsma, .int .i64 qmx, .int .i64 qmf, .int .i64 qsw, .int .i64 qse, .bool qnc, .bool qns, .bool qnt, .bool qoi, .bool qmr, .bool qpr, .bool qmu, .bool qpb, .bool qpv, .bool au, .int .i64 st, .int .i64 mma, .int .i64 msma, .int .i64 mmx, .int .i64 mmf, .int .i64 msw, .int .i64 mse, .bool mnc, .bool mns, .bool mnt, .bool moi, .bool mmr, .bool mpr, .bool mmu, .bool mpb, .bool mpv, .bool ex, .bool la, .bool av], .int .i64 what] [] fun v ch => v = .bool true ∧ ch = none := by
  by_cases hl : (me.length : Int) > 60
  · exact stores_long me qma qsma qmx qmf qsw qse st mma msma mmx mmf msw mse qnc qns qnt qoi qmr qpr qmu qpb qpv au mnc mns mnt moi mmr mpr mmu mpb mpv ex la av what (decide_eq_true hl)
  · have hl := decide_eq_false hl
    have hp := pickv6_lt what
    have hk : pickv6 what = 0 ∨ pickv6 what = 1 ∨ pickv6 what = 2 ∨ pickv6 what = 3 ∨ pickv6 what = 4 ∨ pickv6 what = 5 := by omega
    cases hw : storv me qns au st mma msma mse mns mmr mmu mpb mpv ex la av with
    | false =>
      rcases hk with hk | hk | hk | hk | hk | hk

      · exact stores_f0 storable_1 storable_3 me qma qsma qmx qmf qsw qse st mma msma mmx mmf msw mse qnc qns qnt qoi qmr qpr qmu qpb qpv au mnc mns mnt moi mmr mpr mmu mpb mpv ex la av what hl hw hk (by simp [storv])
      · exact stores_f1 storable_1 storable_3 me qma qsma qmx qmf qsw qse st mma msma mmx mmf msw mse qnc qns qnt qoi qmr qpr qmu qpb qpv au mnc mns mnt moi mmr mpr mmu mpb mpv ex la av what hl hw hk (by simp [storv])
      · exact stores_f2 storable_1 storable_3 me qma qsma qmx qmf qsw qse st mma msma mmx mmf msw mse qnc qns qnt qoi qmr qpr qmu qpb qpv au mnc mns mnt moi mmr mpr mmu mpb mpv ex la av what hl hw hk (by simp [storv])
      · exact stores_f3 storable_1 storable_3 me qma qsma qmx qmf qsw qse st mma msma mmx mmf msw mse qnc qns qnt qoi qmr qpr qmu qpb qpv au mnc mns mnt moi mmr mpr mmu mpb mpv ex la av what hl hw hk (by simp [storv])
      · exact stores_f4 storable_1 storable_3 me qma qsma qmx qmf qsw qse st mma msma mmx mmf msw mse qnc qns qnt qoi qmr qpr qmu qpb qpv au mnc mns mnt moi mmr mpr mmu mpb mpv ex la av what hl hw hk (by simp [storv])
      · exact stores_f5 storable_1 storable_3 me qma qsma qmx qmf qsw qse st mma msma mmx mmf msw mse qnc qns qnt qoi qmr qpr qmu qpb qpv au mnc mns mnt moi mmr mpr mmu mpb mpv ex la av what hl hw hk (by simp [storv])
    | true =>
      have hy := storv_y hw
      obtain ⟨rfl, hf, c3, c4, rfl, rfl, rfl, rfl⟩ := storv_t hw
      simp only [finv, Bool.and_eq_true, decide_eq_true_eq] at hf
      have c1 : decide (st < 200) = false := decide_eq_false (by omega)
      have c2 : decide (st > 599) = false := decide_eq_false (by omega)
      rcases hk with hk | hk | hk | hk | hk | hk
      · exact stores_t0 storable_1 storable_3 qma qsma qmx qmf qsw qse st mma msma mmx mmf msw mse qnc qnt qoi qmr qpr qmu qpb qpv au mnc mnt moi mmr mpr mmu mpb ex la what hw hk (by simp [storv]) hy c1 c2 c3 c4
      · exact stores_t1 storable_1 storable_3 qma qsma qmx qmf qsw qse st mma msma mmx mmf msw mse qnc qnt qoi qmr qpr qmu qpb qpv au mnc mnt moi mmr mpr mmu mpb ex la what hw hk (by simp [storv]) hy c1 c2 c3 c4
      · exact stores_t2 storable_1 storable_3 qma qsma qmx qmf qsw qse st mma msma mmx mmf msw mse qnc qnt qoi qmr qpr qmu qpb qpv au mnc mnt moi mmr mpr mmu mpb ex la what hw hk (by simp [storv]) hy c1 c2 c3 c4
      · exact stores_t3 storable_1 storable_3 qma qsma qmx qmf qsw qse st mma msma mmx mmf msw mse qnc qnt qoi qmr qpr qmu qpb qpv au mnc mnt moi mmr mpr mmu mpb ex la what hw hk (by simp [storv]) hy c1 c2 c3 c4
      · exact stores_t4 storable_1 storable_3 qma qsma qmx qmf qsw qse st mma msma mmx mmf msw mse qnc qnt qoi qmr qpr qmu qpb qpv au mnc mnt moi mmr mpr mmu mpb ex la what hw hk (by simp [storv]) hy c1 c2 c3 c4
      · exact stores_t5 storable_1 storable_3 qma qsma qmx qmf qsw qse st mma msma mmx mmf msw mse qnc qnt qoi qmr qpr qmu qpb qpv au mnc mnt moi mmr mpr mmu mpb ex la what hw hk (by simp [storv]) hy c1 c2 c3 c4
end Go.Proofs.Ytdjkfaennnibkaa

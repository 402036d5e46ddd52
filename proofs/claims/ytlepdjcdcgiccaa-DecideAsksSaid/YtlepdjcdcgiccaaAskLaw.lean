/- The law DecideAsks: the paths joined. -/
import Derived.Test.YtlepdjcdcgiccaaAskW0
import Derived.Test.YtlepdjcdcgiccaaAskW1
import Derived.Test.YtlepdjcdcgiccaaAskW2
import Derived.Test.YtlepdjcdcgiccaaAskW3
import Derived.Test.YtlepdjcdcgiccaaAskW4
import Derived.Test.YtlepdjcdcgiccaaAskW5
import Derived.Test.YtlepdjcdcgiccaaAskW6
namespace Go.Proofs.Ytlepdjcdcgiccaa
open Go Go.Ve

theorem young_le {qma qma' cur : Int} (h0 : 0 ≤ qma) (hle : qma ≤ qma') (h : youngv qma cur = true) : youngv qma' cur = true := by
  unfold youngv at h ⊢
  simp only [Bool.or_eq_true, decide_eq_true_eq] at h ⊢
  omega
theorem r2_a {fr : Bool} {qma qma' qmf cur life : Int} (h : r2v fr qma qmf cur life = true) (h0 : 0 ≤ qma) (hle : qma ≤ qma') : r2v fr qma' qmf cur life = true := by
  unfold r2v at h ⊢
  simp only [Bool.and_eq_true] at h ⊢
  exact ⟨h.1, young_le h0 hle h.2.1, h.2.2⟩
theorem r2_c {fr : Bool} {qma qmf qmf' cur life : Int} (h : r2v fr qma qmf cur life = true) (h0 : 0 ≤ qmf) (hle : qmf' ≤ qmf) : r2v fr qma qmf' cur life = true := by
  unfold r2v at h ⊢
  simp only [Bool.and_eq_true] at h ⊢
  refine ⟨h.1, h.2.1, ?_⟩
  have h3 := h.2.2
  unfold lastsv at h3 ⊢
  simp only [Bool.or_eq_true, decide_eq_true_eq] at h3 ⊢
  omega
theorem r3_fr {fr mr pr nc : Bool} {sma qma qmx cur stl : Int} (h : r3v fr mr pr nc sma qma qmx cur stl = true) : fr = false := by
  unfold r3v loosev at h
  simp only [Bool.and_eq_true] at h
  simpa using h.1.1
theorem r3_a {fr mr pr nc : Bool} {sma qma qma' qmx cur stl : Int} (h : r3v fr mr pr nc sma qma qmx cur stl = true) (h0 : 0 ≤ qma) (hle : qma ≤ qma') : r3v fr mr pr nc sma qma' qmx cur stl = true := by
  unfold r3v at h ⊢
  simp only [Bool.and_eq_true] at h ⊢
  exact ⟨h.1, young_le h0 hle h.2.1, h.2.2⟩
theorem r3_b {fr mr pr nc : Bool} {sma qma qmx qmx' cur stl : Int} (h : r3v fr mr pr nc sma qma qmx cur stl = true) (h0 : 0 ≤ qmx) (hle : qmx ≤ qmx') : r3v fr mr pr nc sma qma qmx' cur stl = true := by
  unfold r3v at h ⊢
  simp only [Bool.and_eq_true] at h ⊢
  refine ⟨h.1, h.2.1, ?_⟩
  have h3 := h.2.2
  unfold withinv at h3 ⊢
  simp only [Bool.or_eq_true, Bool.and_eq_true, decide_eq_true_eq] at h3 ⊢
  omega
theorem ask_law (mma msma mmx mmf msw mse : Int) (mnc mns mnt moi mmr mpr mmu mpb mpv : Bool) (ask ans date age : Int) (life : Int) (chk : Bool) (qma qsma qmx qmf qsw qse : Int) (qnc qns qnt qoi qmr qpr qmu qpb qpv : Bool) (now : Int) (more : Int)
  : CW envC 3 [.agg [.int .i64 mma, .int .i64 msma, .int .i64 mmx, .int .i64 mmf, .int .i64 msw, .int .i64 mse, .bool mnc, .bool mns, .bool mnt, .bool moi, .bool mmr, .bool mpr, .bool mmu, .bool mpb, .bool mpv, .int .i64 ask, .int .i64 ans, .int .i64 date, .int .i64 age, .int .i64 life, .bool chk], .agg [.int .i64 qma, .int .i64 qsma, .int .i64 qmx, .int .i64 qmf, .int .i64 qsw, .int .i64 qse, .bool qnc, .bool qns, .bool qnt, .bool qoi, .bool qmr, .bool qpr, .bool qmu, .bool qpb, .bool qpv], .int .i64 now, .int .i64 more] [] fun v ch => v = .bool true ∧ ch = none := by
  cases h1 : decide (more < 0)
  rotate_left
  · exact ask_g1 mma msma mmx mmf msw mse mnc mns mnt moi mmr mpr mmu mpb mpv ask ans date age life chk qma qsma qmx qmf qsw qse qnc qns qnt qoi qmr qpr qmu qpb qpv now more h1
  cases h2 : decide (more > 1099511627776)
  rotate_left
  · exact ask_g2 mma msma mmx mmf msw mse mnc mns mnt moi mmr mpr mmu mpb mpv ask ans date age life chk qma qsma qmx qmf qsw qse qnc qns qnt qoi qmr qpr qmu qpb qpv now more h1 h2
  cases h3 : decide (qma > 1099511627776)
  rotate_left
  · exact ask_g3 mma msma mmx mmf msw mse mnc mns mnt moi mmr mpr mmu mpb mpv ask ans date age life chk qma qsma qmx qmf qsw qse qnc qns qnt qoi qmr qpr qmu qpb qpv now more h1 h2 h3
  cases h4 : decide (qmx > 1099511627776)
  rotate_left
  · exact ask_g4 mma msma mmx mmf msw mse mnc mns mnt moi mmr mpr mmu mpb mpv ask ans date age life chk qma qsma qmx qmf qsw qse qnc qns qnt qoi qmr qpr qmu qpb qpv now more h1 h2 h3 h4
  cases h5 : decide (qmf > 1099511627776)
  rotate_left
  · exact ask_g5 mma msma mmx mmf msw mse mnc mns mnt moi mmr mpr mmu mpb mpv ask ans date age life chk qma qsma qmx qmf qsw qse qnc qns qnt qoi qmr qpr qmu qpb qpv now more h1 h2 h3 h4 h5
  cases h6 : decide (qmf < 0)
  rotate_left
  · exact ask_g6 mma msma mmx mmf msw mse mnc mns mnt moi mmr mpr mmu mpb mpv ask ans date age life chk qma qsma qmx qmf qsw qse qnc qns qnt qoi qmr qpr qmu qpb qpv now more h1 h2 h3 h4 h5 h6
  cases h7 : decide (qma < 0)
  rotate_left
  · exact ask_g7 mma msma mmx mmf msw mse mnc mns mnt moi mmr mpr mmu mpb mpv ask ans date age life chk qma qsma qmx qmf qsw qse qnc qns qnt qoi qmr qpr qmu qpb qpv now more h1 h2 h3 h4 h5 h6 h7
  cases h8 : decide (qmx < 0)
  rotate_left
  · exact ask_g8 mma msma mmx mmf msw mse mnc mns mnt moi mmr mpr mmu mpb mpv ask ans date age life chk qma qsma qmx qmf qsw qse qnc qns qnt qoi qmr qpr qmu qpb qpv now more h1 h2 h3 h4 h5 h6 h7 h8
  have b1 : 0 ≤ more := by have := of_decide_eq_false h1; omega
  have b2 : more ≤ 1099511627776 := by have := of_decide_eq_false h2; omega
  have b3 : qma ≤ 1099511627776 := by have := of_decide_eq_false h3; omega
  have b4 : qmx ≤ 1099511627776 := by have := of_decide_eq_false h4; omega
  have b5 : qmf ≤ 1099511627776 := by have := of_decide_eq_false h5; omega
  have b6 : 0 ≤ qmf := by have := of_decide_eq_false h6; omega
  have b7 : 0 ≤ qma := by have := of_decide_eq_false h7; omega
  have b8 : 0 ≤ qmx := by have := of_decide_eq_false h8; omega
  have wA : qma ≤ IntKind.i64.wrap (qma + more) := by rw [wrapI64 (by omega) (by omega)]; omega
  have wB : qmx ≤ IntKind.i64.wrap (qmx + more) := by rw [wrapI64 (by omega) (by omega)]; omega
  have wC : (if (IntKind.i64.wrap (qmf - more)) > 0 then (IntKind.i64.wrap (qmf - more)) else 0) ≤ qmf := by rw [wrapI64 (by omega) (by omega)]; split <;> omega
  cases qoi
  · cases hr1 : r1v qnc mnc
    · cases hr2 : r2v (freshv ask ans date age life now) qma qmf (curv ask ans date age now) life
      · cases hr3 : r3v (freshv ask ans date age life now) mmr mpr mnc msma qma qmx (curv ask ans date age now) (stalev ask ans date age life now)
        · have hr4 : r4v (freshv ask ans date age life now) mmr mpr mnc msma qma qmf msw (stalev ask ans date age life now) = false := by unfold r4v; rw [h7]; simp
          exact ask_nf mma msma mmx mmf msw mse mnc mns mnt moi mmr mpr mmu mpb mpv ask ans date age life chk qma qsma qmx qmf qsw qse qnc qns qnt qmr qpr qmu qpb qpv now more h1 h2 h3 h4 h5 h6 h7 h8 (by unfold usev; rw [hr1, hr2, hr3, hr4]; rfl)
        · have hf := r3_fr hr3
          have q2 : ∀ a b, r2v (freshv ask ans date age life now) a b (curv ask ans date age now) life = false := fun a b => by rw [hf]; rfl
          exact ask_2f mma msma mmx mmf msw mse mnc mns mnt moi mmr mpr mmu mpb mpv ask ans date age life chk qma qsma qmx qmf qsw qse qnc qns qnt qmr qpr qmu qpb qpv now more h1 h2 h3 h4 h5 h6 h7 h8 (by unfold usev; rw [hr1, hr2, hr3]; rfl) (by unfold usev; rw [hr1, q2, r3_a hr3 b7 wA]; rfl) (by unfold usev; rw [hr1, hr2, r3_b hr3 b8 wB]; rfl) (by unfold usev; rw [hr1, q2, hr3]; rfl)
      · exact ask_1f mma msma mmx mmf msw mse mnc mns mnt moi mmr mpr mmu mpb mpv ask ans date age life chk qma qsma qmx qmf qsw qse qnc qns qnt qmr qpr qmu qpb qpv now more h1 h2 h3 h4 h5 h6 h7 h8 (by unfold usev; rw [hr1, hr2]; rfl) (by unfold usev; rw [hr1, r2_a hr2 b7 wA]; rfl) (by unfold usev; rw [hr1, hr2]; rfl) (by unfold usev; rw [hr1, r2_c hr2 b6 wC]; rfl)
    · exact ask_nf mma msma mmx mmf msw mse mnc mns mnt moi mmr mpr mmu mpb mpv ask ans date age life chk qma qsma qmx qmf qsw qse qnc qns qnt qmr qpr qmu qpb qpv now more h1 h2 h3 h4 h5 h6 h7 h8 (by unfold usev; rw [hr1]; rfl)
  · cases hr1 : r1v qnc mnc
    · cases hr2 : r2v (freshv ask ans date age life now) qma qmf (curv ask ans date age now) life
      · cases hr3 : r3v (freshv ask ans date age life now) mmr mpr mnc msma qma qmx (curv ask ans date age now) (stalev ask ans date age life now)
        · have hr4 : r4v (freshv ask ans date age life now) mmr mpr mnc msma qma qmf msw (stalev ask ans date age life now) = false := by unfold r4v; rw [h7]; simp
          exact ask_nt mma msma mmx mmf msw mse mnc mns mnt moi mmr mpr mmu mpb mpv ask ans date age life chk qma qsma qmx qmf qsw qse qnc qns qnt qmr qpr qmu qpb qpv now more h1 h2 h3 h4 h5 h6 h7 h8 (by unfold usev; rw [hr1, hr2, hr3, hr4]; rfl)
        · have hf := r3_fr hr3
          have q2 : ∀ a b, r2v (freshv ask ans date age life now) a b (curv ask ans date age now) life = false := fun a b => by rw [hf]; rfl
          exact ask_2t mma msma mmx mmf msw mse mnc mns mnt moi mmr mpr mmu mpb mpv ask ans date age life chk qma qsma qmx qmf qsw qse qnc qns qnt qmr qpr qmu qpb qpv now more h1 h2 h3 h4 h5 h6 h7 h8 (by unfold usev; rw [hr1, hr2, hr3]; rfl) (by unfold usev; rw [hr1, q2, r3_a hr3 b7 wA]; rfl) (by unfold usev; rw [hr1, hr2, r3_b hr3 b8 wB]; rfl) (by unfold usev; rw [hr1, q2, hr3]; rfl)
      · exact ask_1t mma msma mmx mmf msw mse mnc mns mnt moi mmr mpr mmu mpb mpv ask ans date age life chk qma qsma qmx qmf qsw qse qnc qns qnt qmr qpr qmu qpb qpv now more h1 h2 h3 h4 h5 h6 h7 h8 (by unfold usev; rw [hr1, hr2]; rfl) (by unfold usev; rw [hr1, r2_a hr2 b7 wA]; rfl) (by unfold usev; rw [hr1, hr2]; rfl) (by unfold usev; rw [hr1, r2_c hr2 b6 wC]; rfl)
    · exact ask_nt mma msma mmx mmf msw mse mnc mns mnt moi mmr mpr mmu mpb mpv ask ans date age life chk qma qsma qmx qmf qsw qse qnc qns qnt qmr qpr qmu qpb qpv now more h1 h2 h3 h4 h5 h6 h7 h8 (by unfold usev; rw [hr1]; rfl)
end Go.Proofs.Ytlepdjcdcgiccaa

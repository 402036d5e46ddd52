/- The law DecideSafe: the paths joined. -/
import Derived.Test.YtmhhhcflnjfaiaaSafeC1
import Derived.Test.YtmhhhcflnjfaiaaSafeC2
import Derived.Test.YtmhhhcflnjfaiaaSafeC3
import Derived.Test.YtmhhhcflnjfaiaaSafeC4
import Derived.Test.YtmhhhcflnjfaiaaSafeC5
namespace Go.Proofs.Ytmhhhcflnjfaiaa
open Go Go.Ve

theorem loose_f {fr mr pr nc : Bool} {sma : Int} (h : loosev fr mr pr nc sma = true) : fr = false ∧ mr = false ∧ pr = false ∧ nc = false ∧ decide (sma ≥ 0) = false := by
  unfold loosev strictv at h
  cases fr <;> cases mr <;> cases pr <;> cases nc <;> simp at h ⊢
  exact h
theorem err_stale {fr mr pr nc : Bool} {sma mse qse stl : Int} (hf : fr = false) (he : onerrv fr mr pr nc sma mse qse stl = true) : mr = false ∧ pr = false ∧ nc = false ∧ decide (sma ≥ 0) = false ∧ stl ≤ max mse qse := by
  subst hf
  unfold onerrv at he
  rw [Bool.false_or, Bool.and_eq_true] at he
  obtain ⟨_, h1, h2, h3, h4⟩ := loose_f he.1
  refine ⟨h1, h2, h3, h4, ?_⟩
  have := he.2
  unfold withinv at this
  simp only [Bool.or_eq_true, Bool.and_eq_true, decide_eq_true_eq] at this
  omega
theorem err_fresh {fr mr pr nc : Bool} {sma mse qse stl : Int} (hf : fr = true) : onerrv fr mr pr nc sma mse qse stl = true := by subst hf; rfl
theorem stale_eq {ask ans date age life now : Int} (h : decide (curv ask ans date age now < life) = false) : stalev ask ans date age life now = subv (curv ask ans date age now) life := by
  unfold stalev
  rw [if_neg]
  intro h2
  have h2 : decide (curv ask ans date age now < life) = true := h2
  rw [h] at h2
  cases h2
theorem safe_ask (mma msma mmx mmf msw mse : Int) (mnc mns mnt moi mmr mpr mmu mpb mpv : Bool) (ask ans date age : Int) (life : Int) (chk : Bool) (qma qsma qmx qmf qsw qse : Int) (qnc qns qnt qoi qmr qpr qmu qpb qpv : Bool) (now : Int) (hU : usev qoi (r1v qnc mnc) (r2v (freshv ask ans date age life now) qma qmf (curv ask ans date age now) life) (r3v (freshv ask ans date age life now) mmr mpr mnc msma qma qmx (curv ask ans date age now) (stalev ask ans date age life now)) (r4v (freshv ask ans date age life now) mmr mpr mnc msma qma qmf msw (stalev ask ans date age life now)) = cond qoi 5 4)
  : CW envB 4 [.agg [.int .i64 mma, .int .i64 msma, .int .i64 mmx, .int .i64 mmf, .int .i64 msw, .int .i64 mse, .bool mnc, .bool mns, .bool mnt, .bool moi, .bool mmr, .bool mpr, .bool mmu, .bool mpb, .bool mpv, .int .i64 ask, .int .i64 ans, .int .i64 date, .int .i64 age, .int .i64 life, .bool chk], .agg [.int .i64 qma, .int .i64 qsma, .int .i64 qmx, .int .i64 qmf, .int .i64 qsw, .int .i64 qse, .bool qnc, .bool qns, .bool qnt, .bool qoi, .bool qmr, .bool qpr, .bool qmu, .bool qpb, .bool qpv], .int .i64 now] [] fun v ch => v = .bool true ∧ ch = none := by
  cases hfr : decide (curv ask ans date age now < life)
  · cases he : onerrv (freshv ask ans date age life now) mmr mpr mnc msma mse qse (stalev ask ans date age life now)
    · cases qoi
      · exact safeC_4f mma msma mmx mmf msw mse mnc mns mnt moi mmr mpr mmu mpb mpv ask ans date age life chk qma qsma qmx qmf qsw qse qnc qns qnt qmr qpr qmu qpb qpv now hfr hU he
      · exact safeC_5f mma msma mmx mmf msw mse mnc mns mnt moi mmr mpr mmu mpb mpv ask ans date age life chk qma qsma qmx qmf qsw qse qnc qns qnt qmr qpr qmu qpb qpv now hfr hU he
    · obtain ⟨h1, h2, h3, hs, hm⟩ := err_stale hfr he
      subst h1; subst h2; subst h3
      have hm : decide (subv (curv ask ans date age now) life ≤ max mse qse) = true := by rw [stale_eq hfr] at hm; exact decide_eq_true hm
      cases qoi
      · exact safeC_4m mma msma mmx mmf msw mse mns mnt moi mmu mpb mpv ask ans date age life chk qma qsma qmx qmf qsw qse qnc qns qnt qmr qpr qmu qpb qpv now hfr hU he hs hm
      · exact safeC_5m mma msma mmx mmf msw mse mns mnt moi mmu mpb mpv ask ans date age life chk qma qsma qmx qmf qsw qse qnc qns qnt qmr qpr qmu qpb qpv now hfr hU he hs hm
  · have he : onerrv (freshv ask ans date age life now) mmr mpr mnc msma mse qse (stalev ask ans date age life now) = true := err_fresh hfr
    cases qoi
    · exact safeC_4t mma msma mmx mmf msw mse mnc mns mnt moi mmr mpr mmu mpb mpv ask ans date age life chk qma qsma qmx qmf qsw qse qnc qns qnt qmr qpr qmu qpb qpv now hfr hU he
    · exact safeC_5t mma msma mmx mmf msw mse mnc mns mnt moi mmr mpr mmu mpb mpv ask ans date age life chk qma qsma qmx qmf qsw qse qnc qns qnt qmr qpr qmu qpb qpv now hfr hU he

theorem safe_law (mma msma mmx mmf msw mse : Int) (mnc mns mnt moi mmr mpr mmu mpb mpv : Bool) (ask ans date age : Int) (life : Int) (chk : Bool) (qma qsma qmx qmf qsw qse : Int) (qnc qns qnt qoi qmr qpr qmu qpb qpv : Bool) (now : Int)
  : CW envB 4 [.agg [.int .i64 mma, .int .i64 msma, .int .i64 mmx, .int .i64 mmf, .int .i64 msw, .int .i64 mse, .bool mnc, .bool mns, .bool mnt, .bool moi, .bool mmr, .bool mpr, .bool mmu, .bool mpb, .bool mpv, .int .i64 ask, .int .i64 ans, .int .i64 date, .int .i64 age, .int .i64 life, .bool chk], .agg [.int .i64 qma, .int .i64 qsma, .int .i64 qmx, .int .i64 qmf, .int .i64 qsw, .int .i64 qse, .bool qnc, .bool qns, .bool qnt, .bool qoi, .bool qmr, .bool qpr, .bool qmu, .bool qpb, .bool qpv], .int .i64 now] [] fun v ch => v = .bool true ∧ ch = none := by
  cases h1 : r1v qnc mnc
  · cases qnc
    · cases mnc
      · cases h2 : r2v (freshv ask ans date age life now) qma qmf (curv ask ans date age now) life
        · cases h3 : r3v (freshv ask ans date age life now) mmr mpr false msma qma qmx (curv ask ans date age now) (stalev ask ans date age life now)
          · cases h4 : r4v (freshv ask ans date age life now) mmr mpr false msma qma qmf msw (stalev ask ans date age life now)
            · exact safe_ask mma msma mmx mmf msw mse false mns mnt moi mmr mpr mmu mpb mpv ask ans date age life chk qma qsma qmx qmf qsw qse false qns qnt qoi qmr qpr qmu qpb qpv now (by rw [h2, h3, h4]; rfl)
            · have hr := h4
              unfold r4v at hr
              simp only [Bool.and_eq_true, decide_eq_true_eq] at hr
              obtain ⟨hl, _, _, hw⟩ := hr
              obtain ⟨hfr, e1, e2, _, hs⟩ := loose_f hl
              subst e1; subst e2
              rw [stale_eq hfr] at hw
              unfold withinv at hw
              rw [Bool.and_eq_true] at hw
              obtain ⟨h5, h6⟩ := hw
              have hU : usev qoi (r1v false false) (r2v (freshv ask ans date age life now) qma qmf (curv ask ans date age now) life) (r3v (freshv ask ans date age life now) false false false msma qma qmx (curv ask ans date age now) (stalev ask ans date age life now)) (r4v (freshv ask ans date age life now) false false false msma qma qmf msw (stalev ask ans date age life now)) = 3 := by rw [h2, h3, h4]; rfl
              cases he : onerrv (freshv ask ans date age life now) false false false msma mse qse (stalev ask ans date age life now)
              · exact safeC_3f mma msma mmx mmf msw mse mns mnt moi mmu mpb mpv ask ans date age life chk qma qsma qmx qmf qsw qse qns qnt qoi qmr qpr qmu qpb qpv now hfr hU he hs h5 h6
              · obtain ⟨_, _, _, _, hm⟩ := err_stale hfr he
                have hm : decide (subv (curv ask ans date age now) life ≤ max mse qse) = true := by rw [stale_eq hfr] at hm; exact decide_eq_true hm
                exact safeC_3t mma msma mmx mmf msw mse mns mnt moi mmu mpb mpv ask ans date age life chk qma qsma qmx qmf qsw qse qns qnt qoi qmr qpr qmu qpb qpv now hfr hU he hs h5 h6 hm
          · have hr := h3
            unfold r3v at hr
            simp only [Bool.and_eq_true, Bool.or_eq_true] at hr
            obtain ⟨hl, _, hw⟩ := hr
            obtain ⟨hfr, e1, e2, _, hs⟩ := loose_f hl
            subst e1; subst e2
            rw [stale_eq hfr] at hw
            unfold withinv at hw
            rw [Bool.and_eq_true] at hw
            have hU : usev qoi (r1v false false) (r2v (freshv ask ans date age life now) qma qmf (curv ask ans date age now) life) (r3v (freshv ask ans date age life now) false false false msma qma qmx (curv ask ans date age now) (stalev ask ans date age life now)) (r4v (freshv ask ans date age life now) false false false msma qma qmf msw (stalev ask ans date age life now)) = 2 := by rw [h2, h3]; rfl
            have hq : decide (qmx ≥ 0) = true := by
              rcases hw with h | h
              · have := of_decide_eq_true h; exact decide_eq_true (by omega)
              · exact h.1
            cases hw' : decide (subv (curv ask ans date age now) life ≤ qmx)
            · have ha : decide (qmx ≥ 2147483648) = true := by
                rcases hw with h | h
                · exact h
                · rw [h.2] at hw'; cases hw'
              have hw := hw'
              cases he : onerrv (freshv ask ans date age life now) false false false msma mse qse (stalev ask ans date age life now)
              · exact safeC_2ff mma msma mmx mmf msw mse mns mnt moi mmu mpb mpv ask ans date age life chk qma qsma qmx qmf qsw qse qns qnt qoi qmr qpr qmu qpb qpv now hfr hU he hs hq hw ha
              · obtain ⟨_, _, _, _, hm⟩ := err_stale hfr he
                have hm : decide (subv (curv ask ans date age now) life ≤ max mse qse) = true := by rw [stale_eq hfr] at hm; exact decide_eq_true hm
                exact safeC_2tf mma msma mmx mmf msw mse mns mnt moi mmu mpb mpv ask ans date age life chk qma qsma qmx qmf qsw qse qns qnt qoi qmr qpr qmu qpb qpv now hfr hU he hs hq hw ha hm
            · have hw := hw'
              cases he : onerrv (freshv ask ans date age life now) false false false msma mse qse (stalev ask ans date age life now)
              · exact safeC_2ft mma msma mmx mmf msw mse mns mnt moi mmu mpb mpv ask ans date age life chk qma qsma qmx qmf qsw qse qns qnt qoi qmr qpr qmu qpb qpv now hfr hU he hs hq hw
              · obtain ⟨_, _, _, _, hm⟩ := err_stale hfr he
                have hm : decide (subv (curv ask ans date age now) life ≤ max mse qse) = true := by rw [stale_eq hfr] at hm; exact decide_eq_true hm
                exact safeC_2tt mma msma mmx mmf msw mse mns mnt moi mmu mpb mpv ask ans date age life chk qma qsma qmx qmf qsw qse qns qnt qoi qmr qpr qmu qpb qpv now hfr hU he hs hq hw hm
        · have hfr : decide (curv ask ans date age now < life) = true := by
            have hr := h2
            unfold r2v at hr
            rw [Bool.and_eq_true] at hr
            exact hr.1
          have hU : usev qoi (r1v false false) (r2v (freshv ask ans date age life now) qma qmf (curv ask ans date age now) life) (r3v (freshv ask ans date age life now) mmr mpr false msma qma qmx (curv ask ans date age now) (stalev ask ans date age life now)) (r4v (freshv ask ans date age life now) mmr mpr false msma qma qmf msw (stalev ask ans date age life now)) = 1 := by rw [h2]; rfl
          have he : onerrv (freshv ask ans date age life now) mmr mpr false msma mse qse (stalev ask ans date age life now) = true := err_fresh hfr
          exact safeC_1 mma msma mmx mmf msw mse mns mnt moi mmr mpr mmu mpb mpv ask ans date age life chk qma qsma qmx qmf qsw qse qns qnt qoi qmr qpr qmu qpb qpv now hfr hU he
      · exact absurd h1 (by decide)
    · exact absurd h1 (by cases mnc <;> decide)
  · exact safe_ask mma msma mmx mmf msw mse mnc mns mnt moi mmr mpr mmu mpb mpv ask ans date age life chk qma qsma qmx qmf qsw qse qnc qns qnt qoi qmr qpr qmu qpb qpv now (by rw [h1]; rfl)
end Go.Proofs.Ytmhhhcflnjfaiaa

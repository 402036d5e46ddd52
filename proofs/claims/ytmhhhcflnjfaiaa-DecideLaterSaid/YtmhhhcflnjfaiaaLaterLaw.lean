/- The law DecideLater: the paths joined. -/
import Derived.Test.YtmhhhcflnjfaiaaLater1
import Derived.Test.YtmhhhcflnjfaiaaLater2
import Derived.Test.YtmhhhcflnjfaiaaLater3
import Derived.Test.YtmhhhcflnjfaiaaLater4
namespace Go.Proofs.Ytmhhhcflnjfaiaa
open Go Go.Ve

theorem cur_mono (ask ans date age : Int) {n l : Int} (h : n ≤ l) : curv ask ans date age n ≤ curv ask ans date age l := by
  unfold curv
  generalize corv ask ans date age = C
  unfold addv spanv cutv secv
  omega
theorem fresh_mono {ask ans date age life n l : Int} (h : n ≤ l) (hf : freshv ask ans date age life l = true) : freshv ask ans date age life n = true := by
  have := cur_mono ask ans date age h
  have hf := of_decide_eq_true hf
  exact decide_eq_true (by omega)
theorem stale_mono {ask ans date age life n l : Int} (h : n ≤ l) : stalev ask ans date age life n ≤ stalev ask ans date age life l := by
  have hc := cur_mono ask ans date age h
  unfold stalev
  cases hn : freshv ask ans date age life n
  · have hl : freshv ask ans date age life l = false := by
      cases hl : freshv ask ans date age life l
      · rfl
      · rw [fresh_mono h hl] at hn; cases hn
    rw [hl]
    simp only [Bool.false_eq_true, if_false]
    unfold subv cutv
    omega
  · simp only [if_true]
    split
    · omega
    · unfold subv; omega
theorem within_mono {m s t : Int} (h : s ≤ t) (hw : withinv m t = true) : withinv m s = true := by
  unfold withinv at *
  rw [Bool.and_eq_true, decide_eq_true_eq, decide_eq_true_eq] at *
  omega
theorem err_mono {ask ans date age life n l msma mse qse : Int} {mmr mpr mnc : Bool} (h : n ≤ l) (he : onerrv (freshv ask ans date age life l) mmr mpr mnc msma mse qse (stalev ask ans date age life l) = true) :
    onerrv (freshv ask ans date age life n) mmr mpr mnc msma mse qse (stalev ask ans date age life n) = true := by
  have hs := stale_mono (ask := ask) (ans := ans) (date := date) (age := age) (life := life) h
  unfold onerrv loosev at *
  cases hn : freshv ask ans date age life n
  · have hl : freshv ask ans date age life l = false := by
      cases hl : freshv ask ans date age life l
      · rfl
      · rw [fresh_mono h hl] at hn; cases hn
    rw [hl] at he
    simp only [Bool.false_or, Bool.and_eq_true, Bool.or_eq_true] at he ⊢
    exact ⟨he.1, he.2.imp (within_mono hs) (within_mono hs)⟩
  · rfl
theorem use_x (r1 r2 r3 r4 : Bool) (h : (usev false r1 r2 r3 r4 == usev true r1 r2 r3 r4) = false) : (usev false r1 r2 r3 r4 == 4) = true ∧ (usev true r1 r2 r3 r4 == 5) = true := by
  cases r1 <;> cases r2 <;> cases r3 <;> cases r4 <;> first | exact ⟨rfl, rfl⟩ | (exact absurd h (by decide))
theorem use_stale (r1 r3 r4 : Bool) : (usev false r1 false r3 r4 == 1) = false := by
  cases r1 <;> cases r3 <;> cases r4 <;> rfl
theorem use_fresh (r1 r3 r4 r3' r4' : Bool) (h : (usev false r1 true r3 r4 == 1) = true) : (usev false r1 true r3' r4' != 1) = false := by
  cases r1
  · rfl
  · exact absurd h (by cases r3 <;> cases r4 <;> decide)
theorem r2_none (frs : Bool) (cur life : Int) : r2v frs (-1) (-1) cur life = frs := by
  unfold r2v youngv lastsv
  cases frs <;> rfl
theorem later_law (mma msma mmx mmf msw mse : Int) (mnc mns mnt moi mmr mpr mmu mpb mpv : Bool) (ask ans date age : Int) (life : Int) (chk : Bool) (qma qsma qmx qmf qsw qse : Int) (qnc qns qnt qoi qmr qpr qmu qpb qpv : Bool) (a b : Int) : CW envB 5 [.agg [.int .i64 mma, .int .i64 msma, .int .i64 mmx, .int .i64 mmf, .int .i64 msw, .int .i64 mse, .bool mnc, .bool mns, .bool mnt, .bool moi, .bool mmr, .bool mpr, .bool mmu, .bool mpb, .bool mpv, .int .i64 ask, .int .i64 ans, .int .i64 date, .int .i64 age, .int .i64 life, .bool chk], .agg [.int .i64 qma, .int .i64 qsma, .int .i64 qmx, .int .i64 qmf, .int .i64 qsw, .int .i64 qse, .bool qnc, .bool qns, .bool qnt, .bool qoi, .bool qmr, .bool qpr, .bool qmu, .bool qpb, .bool qpv], .int .i64 a, .int .i64 b] [] fun v ch => v = .bool true ∧ ch = none := by
  have hm : min a b ≤ max a b := by omega
  have st : decide (stalev ask ans date age life (min a b) > stalev ask ans date age life (max a b)) = false := decide_eq_false (by have := stale_mono (ask := ask) (ans := ans) (date := date) (age := age) (life := life) hm; omega)
  cases f1 : freshv ask ans date age life (max a b)
  · have g1 : ((usev false (r1v false mnc) (r2v (freshv ask ans date age life (max a b)) (-1) (-1) (curv ask ans date age (max a b)) life) (r3v (freshv ask ans date age life (max a b)) mmr mpr mnc msma (-1) (-1) (curv ask ans date age (max a b)) (stalev ask ans date age life (max a b))) (r4v (freshv ask ans date age life (max a b)) mmr mpr mnc msma (-1) (-1) msw (stalev ask ans date age life (max a b))) == 1)) = false := by
      rw [r2_none, f1]
      exact use_stale _ _ _
    cases e1 : onerrv (freshv ask ans date age life (max a b)) mmr mpr mnc msma mse qse (stalev ask ans date age life (max a b))
    · have x0 := 0
      cases x1 : ((usev false (r1v false mnc) (r2v (freshv ask ans date age life (min a b)) (-1) (-1) (curv ask ans date age (min a b)) life) (r3v (freshv ask ans date age life (min a b)) mmr mpr mnc msma (-1) (-1) (curv ask ans date age (min a b)) (stalev ask ans date age life (min a b))) (r4v (freshv ask ans date age life (min a b)) mmr mpr mnc msma (-1) (-1) msw (stalev ask ans date age life (min a b))) == usev true (r1v false mnc) (r2v (freshv ask ans date age life (min a b)) (-1) (-1) (curv ask ans date age (min a b)) life) (r3v (freshv ask ans date age life (min a b)) mmr mpr mnc msma (-1) (-1) (curv ask ans date age (min a b)) (stalev ask ans date age life (min a b))) (r4v (freshv ask ans date age life (min a b)) mmr mpr mnc msma (-1) (-1) msw (stalev ask ans date age life (min a b)))))
      · obtain ⟨x2, x3⟩ := use_x _ _ _ _ x1
        exact later_0000 mma msma mmx mmf msw mse mnc mns mnt moi mmr mpr mmu mpb mpv ask ans date age life chk qma qsma qmx qmf qsw qse qnc qns qnt qoi qmr qpr qmu qpb qpv a b f1 st e1 g1 x1 x2 x3
      · exact later_0001 mma msma mmx mmf msw mse mnc mns mnt moi mmr mpr mmu mpb mpv ask ans date age life chk qma qsma qmx qmf qsw qse qnc qns qnt qoi qmr qpr qmu qpb qpv a b f1 st e1 g1 x1
    · have e0 : onerrv (freshv ask ans date age life (min a b)) mmr mpr mnc msma mse qse (stalev ask ans date age life (min a b)) = true := err_mono hm e1
      cases x1 : ((usev false (r1v false mnc) (r2v (freshv ask ans date age life (min a b)) (-1) (-1) (curv ask ans date age (min a b)) life) (r3v (freshv ask ans date age life (min a b)) mmr mpr mnc msma (-1) (-1) (curv ask ans date age (min a b)) (stalev ask ans date age life (min a b))) (r4v (freshv ask ans date age life (min a b)) mmr mpr mnc msma (-1) (-1) msw (stalev ask ans date age life (min a b))) == usev true (r1v false mnc) (r2v (freshv ask ans date age life (min a b)) (-1) (-1) (curv ask ans date age (min a b)) life) (r3v (freshv ask ans date age life (min a b)) mmr mpr mnc msma (-1) (-1) (curv ask ans date age (min a b)) (stalev ask ans date age life (min a b))) (r4v (freshv ask ans date age life (min a b)) mmr mpr mnc msma (-1) (-1) msw (stalev ask ans date age life (min a b)))))
      · obtain ⟨x2, x3⟩ := use_x _ _ _ _ x1
        exact later_0100 mma msma mmx mmf msw mse mnc mns mnt moi mmr mpr mmu mpb mpv ask ans date age life chk qma qsma qmx qmf qsw qse qnc qns qnt qoi qmr qpr qmu qpb qpv a b f1 st e1 e0 g1 x1 x2 x3
      · exact later_0101 mma msma mmx mmf msw mse mnc mns mnt moi mmr mpr mmu mpb mpv ask ans date age life chk qma qsma qmx qmf qsw qse qnc qns qnt qoi qmr qpr qmu qpb qpv a b f1 st e1 e0 g1 x1
  · have f0 : freshv ask ans date age life (min a b) = true := fresh_mono hm f1
    have e1 : onerrv (freshv ask ans date age life (max a b)) mmr mpr mnc msma mse qse (stalev ask ans date age life (max a b)) = true := by rw [f1]; rfl
    have e0 : onerrv (freshv ask ans date age life (min a b)) mmr mpr mnc msma mse qse (stalev ask ans date age life (min a b)) = true := err_mono hm e1
    cases g1 : ((usev false (r1v false mnc) (r2v (freshv ask ans date age life (max a b)) (-1) (-1) (curv ask ans date age (max a b)) life) (r3v (freshv ask ans date age life (max a b)) mmr mpr mnc msma (-1) (-1) (curv ask ans date age (max a b)) (stalev ask ans date age life (max a b))) (r4v (freshv ask ans date age life (max a b)) mmr mpr mnc msma (-1) (-1) msw (stalev ask ans date age life (max a b))) == 1))
    · have x0 := 0
      cases x1 : ((usev false (r1v false mnc) (r2v (freshv ask ans date age life (min a b)) (-1) (-1) (curv ask ans date age (min a b)) life) (r3v (freshv ask ans date age life (min a b)) mmr mpr mnc msma (-1) (-1) (curv ask ans date age (min a b)) (stalev ask ans date age life (min a b))) (r4v (freshv ask ans date age life (min a b)) mmr mpr mnc msma (-1) (-1) msw (stalev ask ans date age life (min a b))) == usev true (r1v false mnc) (r2v (freshv ask ans date age life (min a b)) (-1) (-1) (curv ask ans date age (min a b)) life) (r3v (freshv ask ans date age life (min a b)) mmr mpr mnc msma (-1) (-1) (curv ask ans date age (min a b)) (stalev ask ans date age life (min a b))) (r4v (freshv ask ans date age life (min a b)) mmr mpr mnc msma (-1) (-1) msw (stalev ask ans date age life (min a b)))))
      · obtain ⟨x2, x3⟩ := use_x _ _ _ _ x1
        exact later_1100 mma msma mmx mmf msw mse mnc mns mnt moi mmr mpr mmu mpb mpv ask ans date age life chk qma qsma qmx qmf qsw qse qnc qns qnt qoi qmr qpr qmu qpb qpv a b f1 f0 st e1 e0 g1 x1 x2 x3
      · exact later_1101 mma msma mmx mmf msw mse mnc mns mnt moi mmr mpr mmu mpb mpv ask ans date age life chk qma qsma qmx qmf qsw qse qnc qns qnt qoi qmr qpr qmu qpb qpv a b f1 f0 st e1 e0 g1 x1
    · have g0 : ((usev false (r1v false mnc) (r2v (freshv ask ans date age life (min a b)) (-1) (-1) (curv ask ans date age (min a b)) life) (r3v (freshv ask ans date age life (min a b)) mmr mpr mnc msma (-1) (-1) (curv ask ans date age (min a b)) (stalev ask ans date age life (min a b))) (r4v (freshv ask ans date age life (min a b)) mmr mpr mnc msma (-1) (-1) msw (stalev ask ans date age life (min a b))) != 1)) = false := by
        rw [r2_none, f0]
        rw [r2_none, f1] at g1
        exact use_fresh _ _ _ _ _ g1
      cases x1 : ((usev false (r1v false mnc) (r2v (freshv ask ans date age life (min a b)) (-1) (-1) (curv ask ans date age (min a b)) life) (r3v (freshv ask ans date age life (min a b)) mmr mpr mnc msma (-1) (-1) (curv ask ans date age (min a b)) (stalev ask ans date age life (min a b))) (r4v (freshv ask ans date age life (min a b)) mmr mpr mnc msma (-1) (-1) msw (stalev ask ans date age life (min a b))) == usev true (r1v false mnc) (r2v (freshv ask ans date age life (min a b)) (-1) (-1) (curv ask ans date age (min a b)) life) (r3v (freshv ask ans date age life (min a b)) mmr mpr mnc msma (-1) (-1) (curv ask ans date age (min a b)) (stalev ask ans date age life (min a b))) (r4v (freshv ask ans date age life (min a b)) mmr mpr mnc msma (-1) (-1) msw (stalev ask ans date age life (min a b)))))
      · obtain ⟨x2, x3⟩ := use_x _ _ _ _ x1
        exact later_1110 mma msma mmx mmf msw mse mnc mns mnt moi mmr mpr mmu mpb mpv ask ans date age life chk qma qsma qmx qmf qsw qse qnc qns qnt qoi qmr qpr qmu qpb qpv a b f1 f0 st e1 e0 g1 g0 x1 x2 x3
      · exact later_1111 mma msma mmx mmf msw mse mnc mns mnt moi mmr mpr mmu mpb mpv ask ans date age life chk qma qsma qmx qmf qsw qse qnc qns qnt qoi qmr qpr qmu qpb qpv a b f1 f0 st e1 e0 g1 g0 x1
end Go.Proofs.Ytmhhhcflnjfaiaa

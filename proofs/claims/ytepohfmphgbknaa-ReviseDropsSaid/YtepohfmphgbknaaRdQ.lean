/- What is dropped, told for any memory; the document's first key. -/
import Derived.Test.YtepohfmphgbknaaRdP
set_option linter.unusedSimpArgs false
set_option linter.unusedVariables false
namespace Go.Proofs.Ytepohfmphgbknaa
open Go Go.Ve
set_option maxRecDepth 20000
theorem ndB_iff (m : Bs) (st : Int) : ndB m st = true ↔ noDr m st := by
  unfold ndB noDr
  rw [Bool.or_eq_true, Bool.or_eq_true, ltI_t, ltI_t]
theorem ndB_f {m : Bs} {st : Int} (h : ¬ noDr m st) : ndB m st = false := by
  cases hh : ndB m st with
  | false => rfl
  | true => exact absurd ((ndB_iff m st).1 hh) h
theorem pr_vc (h p : Bs) (h1 : h.length ≤ 1099511627776) (h2 : p.length ≤ 1099511627776) : vPr h p := by
  rw [vPr_eq]
  have hl : (lower h).length = h.length := by unfold lower; rw [List.length_map]
  exact need_intro (le_dec h1) (need_intro (decide_eq_true (by omega)) (need_intro (decide_eq_true (by rw [List.length_append, hl]; show h.length + 1 + p.length ≤ _; omega)) ⟨(), trivial, trivial, rfl, trivial⟩))
theorem gPr_ok : EntryOk Try.prog 7 (flatE gPr) := by
  refine flatE_ok fun args b v hg hb => ?_
  unfold gPr at hg
  split at hg
  · rename_i h p
    cases hg
    rw [and_t] at hb
    exact ⟨rfl, rfl, SC.one (V := VPr) names0 mixed0 TLr_ok noO_ok (pr_vc h p (of_decide_eq_true hb.1) (of_decide_eq_true hb.2))⟩
  · cases hg
theorem eDr_ok : EntryOk Try.prog 6 eDr := by
  intro args H sr hs K hk
  unfold eDr at hs
  split at hs
  · rename_i m st ho pa x
    have small : ∀ a : AV, a.flat = true → SC Try.prog 6 [.str m, .int .i64 st, .str ho, .str pa, a] [] (outE (oDr m st ho pa [])) → (SR.br (ndB m st) (.ok .nilsl none) (.ok (.sl H.length 0 1 1 true) (some (H ++ [k1D ho pa])))).run noC noR H K → SC Try.prog 6 [.str m, .int .i64 st, .str ho, .str pa, a] H (fun v' H' => ∃ ch, K v' ch ∧ H' = chN H ch) := by
      intro a ha hsc hk2
      refine SC.flat hsc (by simp [AV.flats, AV.flat, ha]) ?_
      rintro v0 T ⟨o, hoo, x, hx, rfl, rfl⟩
      simp only [oDr, List.mem_cons, List.mem_nil_iff, or_false] at hoo
      rcases hoo with rfl | rfl
      · have hx : noDr m st := hx
        simp only [SR.run, (ndB_iff m st).2 hx, cond_true] at hk2
        exact ⟨(fun k hk => by cases hk), none, hk2, by simp [chN]⟩
      · have hx : ¬ noDr m st := hx
        simp only [SR.run, ndB_f hx, cond_false] at hk2
        refine ⟨fun k hk => ?_, some (H ++ [k1D ho pa]), hk2, rfl⟩
        simp only [List.nil_append, List.mem_singleton] at hk
        subst hk; exact .inl rfl
    split at hs
    · cases hs
      obtain ⟨⟨h1, h2⟩, hk2⟩ := hk
      exact small .nilsl rfl (SC.ofF (V := VDr) names0 mixed0 TDr_ok noO_ok (drN_vc m st ho pa h1 h2)) hk2
    · cases hs
      obtain ⟨⟨h1, h2⟩, hk2⟩ := hk
      exact small .slz rfl (SC.ofF (V := VDr) names0 mixed0 TDr_ok noO_ok (drZ_vc m st ho pa h1 h2)) hk2
    · rename_i b n c ex
      split at hs
      · rename_i vs e ro hb
        cases hs
        obtain ⟨⟨⟨h1, h2⟩, g1, g2, g3⟩, hk2⟩ := hk
        have hsplit : vs = fieldC ((getF vs).take n ++ (getF vs).drop n) := by rw [List.take_append_drop]; exact g1
        have hn : n = ((getF vs).take n).length := by rw [List.length_take]; omega
        generalize (getF vs).take n = l at *
        generalize (getF vs).drop n = r at *
        subst hn
        rw [hsplit] at hb
        have hsc := SC.ofF (V := VDr) names0 mixed0 TDr_ok noO_ok (dr_vc m st ho pa l r e ro c ex h1 h2 g3.1 g3.2)
        refine SC.reads1 (b := b) (H := H) hsc (cells_ren (fieldC_flat _) e ro) (fun h => by unfold rowF at h; cases h) hb ?_
        rintro v0 H0' ⟨o, hoo, x, hx, rfl, rfl⟩
        simp only [oDr2, List.mem_cons, List.mem_nil_iff, or_false] at hoo
        rcases hoo with rfl | rfl | rfl | rfl
        · have hx : noDr m st := hx
          simp only [SR.run, (ndB_iff m st).2 hx, cond_true] at hk2
          exact ⟨[], rfl, (fun t ht => by cases ht), none, hk2, by simp [chN]⟩
        · have hx : ¬ noDr m st := hx
          simp only [SR.run, ndB_f hx, cond_false] at hk2
          have q := hk2 0 trivial
          exact ⟨[k1D ho pa], rfl, (fun t ht => by simp at ht; subst ht; exact .inl rfl), _, q, rfl⟩
        · have hx : ¬ noDr m st ∧ okK ho pa x := hx
          simp only [SR.run, ndB_f hx.1, cond_false] at hk2
          have q := hk2 1 trivial x hx.2
          exact ⟨[k2D ho pa x], rfl, (fun t ht => by simp at ht; subst ht; exact .inl rfl), _, q, rfl⟩
        · have hx : ¬ noDr m st ∧ okL ho pa x := hx
          simp only [SR.run, ndB_f hx.1, cond_false] at hk2
          have q := hk2 2 trivial x hx.2
          exact ⟨[k3D ho pa x.1 x.2], rfl, (fun t ht => by simp at ht; subst ht; exact .inl rfl), _, q, rfl⟩
      · cases hs
    · cases hs
  · cases hs
end Go.Proofs.Ytepohfmphgbknaa

/- The evaluator's operations, continued: append's law, copy, len, cap, conversions. -/
import Derived.Test.YtkgkbpfjdlnoeaaDoorVe6
namespace Go.Ve
open Go Go.RowKit

section
variable {P : Program} {w0 : Base} {w : World} {φ : List Loc} {H : AH}

theorem sl_first (hr : Rel w0 φ H w) {b off len size : Nat} {vs : List AV} {esz : Nat} {ro : Bool} {l : Loc} (hb : H[b]? = some (.cells vs esz ro)) (hl : φ[b]? = some l) (hle : off + len * size ≤ vs.length) (n c : Nat) :
    ∃ us : Array Value, VRs φ ((vs.drop off).take (len * size)) us.toList ∧ (Builtin.firstCells size len (.slice (some ⟨l.blk, l.sh + off, none⟩) n c)).run P w = .ok us w := by
  obtain ⟨us, h1, h2, h3⟩ := ((hr.blocks b _ l hb hl).cellsR).get off _ hle
  have hload := run_loadCells_list (P := P) w ⟨l.blk, l.sh + off, none⟩ us (fun j u hu => by rw [add_mk]; exact h3 j u hu)
  rw [h1] at hload
  exact ⟨us.toArray, by simpa using h2, hload⟩

theorem aappend_ok (hr : Rel w0 φ H w) {t t2 ty : TypeId} {s x v : AV} {su xu : Value} {H' : AH} (h : aappend P t t2 s x H = some (v, H')) (hs : VR φ s su) (hx : VR φ x xu) :
    ∃ u w' φ', (Builtin.append_ #[t, t2] ty #[su, xu]).run P w = .ok u w' ∧ Ext φ φ' ∧ VR φ' v u ∧ Rel w0 φ' H' w' := by
  unfold aappend at h
  split at h
  · rename_i e d2 hu h2
    split at h
    · rename_i inf z hd hi hz
      split at h
      · rename_i hzs
        obtain ⟨hzs, hsm⟩ := hzs
        split at h
        · cases h
        · rename_i n cs hn
          have hcl := anews_len hn
          obtain ⟨hlen, us, hus, hnew⟩ := anews_ok (P := P) hr hn hx
          split at h
          · -- nil
            cases hs
            split at h
            · rename_i h0
              cases h; subst h0
              refine ⟨_, w, φ, append_in hu h2 hd hi hlen hnew (by omega), Ext.refl _, .nilsl, hr⟩
            · rename_i h0
              split at h
              · rename_i hb
                cases h
                obtain ⟨u, w', φ', g1, g2, g3, g4⟩ := append_new (ty := ty) (base := none) (sLen := 0) (sCap := 0) hr hu h2 hd hi hz hzs hsm hn hx (olds := []) (os := #[]) .nil rfl (by omega) (by omega) (by simpa using hb.2)
                exact ⟨u, w', φ', g1, g2, by simpa using g3, by simpa using g4⟩
              · cases h
          · -- a slice
            rename_i b off len cap ex
            split at h
            · rename_i vs esz ro hb
              split at h
              · rename_i hle
                obtain ⟨hlc, hle⟩ := hle
                cases hs with
                | sl hl =>
                  rename_i l
                  split at h
                  · rename_i h0
                    cases h; subst h0
                    have hcs0 : cs = [] := by apply List.eq_nil_of_length_eq_zero; omega
                    subst hcs0
                    have husnil : us.toList = [] := by cases hus' : us.toList with | nil => rfl | cons a b => rw [hus'] at hus; cases hus
                    rw [append_in hu h2 hd hi hlen hnew (by split <;> omega)]
                    refine ⟨.slice (some ⟨l.blk, l.sh + off, none⟩) (len + 0) (cap + if ex = true then 0 else l.slk), w, φ, ?_, Ext.refl _, .sl hl, hr⟩
                    simp [husnil, storeCells]
                  · rename_i h0
                    split at h
                    · rename_i hcap
                      split at h
                      · rename_i hc
                        obtain ⟨hro, hin, hone⟩ := hc
                        rw [setManyF_eq] at h
                        cases h
                        subst hro
                        have hmul : (len + n) * inf.size = len * inf.size + n * inf.size := Nat.add_mul _ _ _
                        obtain ⟨w', g1, g2⟩ := storeCells_ok (P := P) hl cs us.toList vs (off + len * inf.size) 0 H w hr hb hus (allOne_mem hone) (by omega)
                        refine ⟨.slice (some ⟨l.blk, l.sh + off, none⟩) (len + n) (cap + if ex = true then 0 else l.slk), w', φ, ?_, Ext.refl _, .sl hl, by simpa using g2⟩
                        rw [append_in hu h2 hd hi hlen hnew (by split <;> omega)]
                        simp only [add_mk]
                        rw [Nat.add_assoc, g1]
                        rfl
                      · cases h
                    · rename_i hcap
                      split at h
                      · rename_i hb63
                        obtain ⟨h63, hby⟩ := hb63
                        obtain ⟨os, ho1, ho2⟩ := sl_first (P := P) hr.drew' hb hl hle len (cap + if ex = true then 0 else l.slk)
                        split at h
                        · rename_i hex
                          cases h; subst hex
                          exact append_new (ty := ty) hr hu h2 hd hi hz hzs hsm hn hx ho1 ho2 (by simpa using hcap) h63 hby
                        · rename_i hex
                          have hex' : ex = false := by simpa using hex
                          subst hex'
                          split at h
                          · rename_i hc
                            obtain ⟨hro, hlcap, hfr, hesz, hone⟩ := hc
                            cases h
                            subst hro; subst hlcap; subst hesz
                            have htake : (vs.drop off).take (len * inf.size) = vs.drop off := by
                              apply List.take_of_length_le; simp; omega
                            by_cases hroom : n ≤ l.slk
                            · obtain ⟨g1, g2⟩ := Rel.into (P := P) hr hb hl off n (by omega) hroom hus (by rw [szOf_btag hsm]; exact hcl) (allOne_mem hone) (fun t ht => (tyOf_btag hsm ht).2)
                              refine ⟨.slice (some ⟨l.blk, l.sh + off, none⟩) (len + n) (len + if false = true then 0 else l.slk), _, _, ?_, Ext.snoc _ _, ?_, g2⟩
                              · rw [append_in hu h2 hd hi hlen hnew (by simp; omega)]
                                simp only [add_mk]
                                rw [show l.sh + off + len * inf.size = l.sh + vs.length by omega, g1]
                                rfl
                              · have := newSl (φ := φ) (H := H) hr.len ⟨l.blk, l.sh + off, l.slk - n⟩ (len + n) (len + n)
                                simp only at this
                                simpa [show len + n + (l.slk - n) = len + l.slk by omega] using this
                            · rw [htake] at ho1
                              obtain ⟨u, w', φ', g1, g2, g3, g4⟩ := append_new (ty := ty) hr hu h2 hd hi hz hzs hsm hn hx ho1 ho2 (by simp; omega) h63 hby
                              refine ⟨u, w', φ', g1, g2, g3, ?_⟩
                              have := g4.kill b
                              rwa [List.set_append_left _ _ (List.getElem?_eq_some_iff.1 hb).1] at this
                          · cases h
                      · cases h
              · cases h
            · cases h
          · -- an empty one
            rename_i b off adv
            cases hs with
            | sle hl =>
              rename_i l
              split at h
              · rename_i h0
                cases h; subst h0
                have hcs0 : cs = [] := by apply List.eq_nil_of_length_eq_zero; omega
                subst hcs0
                have husnil : us.toList = [] := by cases hus' : us.toList with | nil => rfl | cons a b => rw [hus'] at hus; cases hus
                rw [append_in hu h2 hd hi hlen hnew (by omega)]
                refine ⟨_, w, φ, ?_, Ext.refl _, .sle hl, hr⟩
                simp [husnil, storeCells]
              · rename_i h0
                split at h
                · rename_i hb63
                  obtain ⟨h63, hby⟩ := hb63
                  have hemp : ∀ a c, (Builtin.firstCells inf.size 0 (.slice (some a) 0 c)).run P { w with drawn := w.drawn + 1 } = .ok #[] { w with drawn := w.drawn + 1 } := fun a c => by
                    simp [Builtin.firstCells, loadCells, loadCellsFrom]
                  split at h
                  · rename_i vs esz ro hb
                    split at h
                    · rename_i hc
                      obtain ⟨hro, hfr, hesz, hone⟩ := hc
                      cases h
                      subst hro; subst hesz
                      by_cases hroom : n ≤ l.slk
                      · obtain ⟨g1, g2⟩ := Rel.into (P := P) hr hb hl vs.length n (Nat.le_refl _) hroom hus (by rw [szOf_btag hsm]; exact hcl) (allOne_mem hone) (fun t ht => (tyOf_btag hsm ht).2)
                        have hs0 : l.slk ≠ 0 := by omega
                        refine ⟨.slice (some ⟨l.blk, l.sh + off + (if l.slk = 0 then 0 else adv), none⟩) (0 + n) l.slk, _, _, ?_, Ext.snoc _ _, ?_, by simpa using g2⟩
                        · rw [append_in hu h2 hd hi hlen hnew (by omega)]
                          simp only [add_mk, hs0, if_false, Nat.zero_mul, Nat.add_zero]
                          rw [show l.sh + off + adv = l.sh + vs.length by omega, g1]
                          rfl
                        · have := newSl (φ := φ) (H := H) hr.len ⟨l.blk, l.sh + vs.length, l.slk - n⟩ n n
                          simp only at this
                          simpa [hs0, show n + (l.slk - n) = l.slk by omega, show l.sh + off + adv = l.sh + vs.length by omega] using this
                      · obtain ⟨u, w', φ', g1, g2, g3, g4⟩ := append_new (ty := ty) hr hu h2 hd hi hz hzs hsm hn hx (olds := []) (os := #[]) .nil (hemp ⟨l.blk, l.sh + off + (if l.slk = 0 then 0 else adv), none⟩ l.slk) (by omega) (by omega) (by simpa using hby)
                        refine ⟨u, w', φ', g1, g2, by simpa using g3, ?_⟩
                        have := g4.kill b
                        rw [List.set_append_left _ _ (List.getElem?_eq_some_iff.1 hb).1] at this
                        simpa using this
                    · cases h
                  · cases h
                · cases h
          · -- one without room
            cases hs with
            | slz ad =>
              split at h
              · rename_i h0
                cases h; subst h0
                have hcs0 : cs = [] := by apply List.eq_nil_of_length_eq_zero; omega
                subst hcs0
                have husnil : us.toList = [] := by cases hus' : us.toList with | nil => rfl | cons a b => rw [hus'] at hus; cases hus
                rw [append_in hu h2 hd hi hlen hnew (by omega)]
                refine ⟨_, w, φ, ?_, Ext.refl _, .slz ad, hr⟩
                simp [husnil, storeCells]
              · rename_i h0
                split at h
                · rename_i hb63
                  obtain ⟨h63, hby⟩ := hb63
                  cases h
                  have hemp : ∀ a c, (Builtin.firstCells inf.size 0 (.slice (some a) 0 c)).run P { w with drawn := w.drawn + 1 } = .ok #[] { w with drawn := w.drawn + 1 } := fun a c => by
                    simp [Builtin.firstCells, loadCells, loadCellsFrom]
                  obtain ⟨u, w', φ', g1, g2, g3, g4⟩ := append_new (ty := ty) hr hu h2 hd hi hz hzs hsm hn hx (olds := []) (os := #[]) .nil (hemp ad 0) (by omega) (by omega) (by simpa using hby)
                  exact ⟨u, w', φ', g1, g2, by simpa using g3, by simpa using g4⟩
                · cases h
          · cases h
      · cases h
    · cases h
  · cases h
end
end Go.Ve

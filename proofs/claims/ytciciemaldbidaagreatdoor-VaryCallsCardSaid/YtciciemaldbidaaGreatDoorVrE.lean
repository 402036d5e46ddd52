/- Rows of texts put in order, and each once: entries. -/
import Derived.Test.YtciciemaldbidaaGreatDoorVrP0
import Derived.Test.YtciciemaldbidaaGreatDoorShelfB
import Derived.Test.YtciciemaldbidaaGreatDoorSg
set_option linter.unusedSimpArgs false
set_option linter.unusedVariables false
namespace Go.Proofs.YtciciemaldbidaaGreatDoor
open Go Go.Ve Go.RowKit Go.Sort
set_option maxRecDepth 20000
theorem belowE {B : Nat} {w w' : World} (h : w' = w) : Below B w w' := by subst h; exact Below.refl _ _
theorem getS_len {vs : List AV} (h : vs = ts (getS vs)) : (getS vs).length = vs.length := by
  have := congrArg List.length h
  rw [ts_length] at this
  exact this.symm
theorem ts_holds {w0 : Base} {φ : List Ve.Loc} {H : AH} {w : World} (hr : Rel w0 φ H w) {b : Nat} {vs : List AV} {e : Nat} {l : Ve.Loc} (hb : H[b]? = some (.cells vs e false)) (hl : φ[b]? = some l) (hv : vs = ts (getS vs)) : Holds encStr w l.blk (l.sh + 0) (getS vs).toArray := by
  intro j hj
  have hj' : j < (getS vs).length := by simpa using hj
  have hjv : vs[j]? = some (.str (getS vs)[j]) := by
    have h : (ts (getS vs))[j]? = some (.str (getS vs)[j]) := by
      rw [ts, List.getElem?_map, List.getElem?_eq_getElem hj']; rfl
    rwa [← hv] at h
  obtain ⟨u, hu, hc⟩ := hr.cell hb hl hjv
  cases hu
  have hf := hr.frozen hb hl (j := j) (by rw [← getS_len hv]; exact hj')
  refine ⟨?_, by rw [Nat.add_zero]; exact hf⟩
  rw [Nat.add_zero, hc]
  congr 1
  rw [getElem!_pos (getS vs).toArray j hj]
  simp
theorem ts_enc (φ : List Ve.Loc) (ls : LL) (j : Nat) (v : AV) (h : (ts ls)[j]? = some v) : VR φ v (encStr ls.toArray[j]!) := by
  rw [ts, List.getElem?_map, Option.map_eq_some_iff] at h
  obtain ⟨s, hs, rfl⟩ := h
  have hj := (List.getElem?_eq_some_iff.1 hs).1
  rw [getElem!_pos ls.toArray j (by simpa using hj)]
  have : ls.toArray[j]'(by simpa using hj) = s := by
    have := (List.getElem?_eq_some_iff.1 hs).2
    simpa using this
  rw [this]
  exact .str s
noncomputable def eSortS : SpecE := fun args H =>
  match args with
  | [.nilsl] => some (.ok (.tuple []) none)
  | [.sl b 0 n _ _] => match H[b]? with
    | some (.cells vs e false) => some (.needP (vs = ts (getS vs) ∧ n = vs.length ∧ n < 1152921504606846976) (.ok (.tuple []) (some (H.set b (.cells (ts (srt (getS vs))) e false)))))
    | _ => none
  | _ => none
theorem eSortS_ok : EntryOk Tryz.prog 22 eSortS := by
  intro args H sr hs K hk
  unfold eSortS at hs
  split at hs
  · cases hs
    refine (SC.under (v := .tuple []) (H := H) ?_).mono ?_
    · intro w0 φ w us hr ha
      obtain ⟨us⟩ := us
      cases ha with | cons h1 h2 => cases h2; cases h1; (
        refine (Tryz.slices_Sort_string_none none 0 w).mono ?_
        rintro e w' ⟨rfl, hw⟩
        exact ⟨_, rfl, .tuple .nil, belowE hw⟩)
    · rintro v H' ⟨rfl, rfl⟩; exact ⟨none, hk, rfl⟩
  · rename_i b n c ex
    split at hs
    · rename_i vs e hb
      cases hs
      obtain ⟨⟨g1, g2, g3⟩, h2⟩ := hk
      have hlen := getS_len g1
      refine (SC.rowed (v := .tuple []) (H2 := H.set b (.cells (ts (srt (getS vs))) e false)) ?_).mono ?_
      · intro w0 φ w us hr ha
        obtain ⟨us⟩ := us
        cases ha with | cons h1 h2 => cases h2; cases h1 with | sl hl => (
          rename_i l
          have := Tryz.slices_Sort_string l.blk (l.sh + 0) (c + if ex then 0 else l.slk) (getS vs) w (ts_holds hr hb hl g1) (hr.blk_lt hb (by simp) hl) (by omega)
          rw [hlen, ← g2] at this
          refine this.mono ?_
          rintro e' w' ⟨rfl, n', os, rfl⟩
          refine ⟨_, rfl, .tuple .nil, ?_⟩
          rw [Nat.add_zero]
          exact hr.putRow hb hl (by rw [ts_length, srt_length, hlen]) (by show (srt (getS vs)).toArray.size = _; rw [List.size_toArray, srt_length, hlen]) (fun j v hj => ts_enc φ (srt (getS vs)) j v hj) n' os)
      · rintro v H' ⟨rfl, rfl⟩; exact ⟨_, h2, rfl⟩
    · cases hs
  · cases hs
theorem cpt_len (ls : LL) : (cpt ls).length ≤ ls.length := by
  unfold cpt Lib.compact Lib.compactUpTo
  rw [List.length_map]
  refine Nat.le_trans (List.length_filter_le _ _) ?_
  simp
def cptR (ls : LL) : LL := cpt ls ++ List.replicate (ls.length - (cpt ls).length) []
theorem cptR_len (ls : LL) : (cptR ls).length = ls.length := by
  have := cpt_len ls
  unfold cptR
  rw [List.length_append, List.length_replicate]
  omega
noncomputable def eCptS : SpecE := fun args H =>
  match args with
  | [.nilsl] => some (.ok .nilsl none)
  | [.sl b 0 n c ex] => match H[b]? with
    | some (.cells vs e false) => some (.needP (vs = ts (getS vs) ∧ n = vs.length ∧ n ≤ c ∧ n < 1152921504606846976) (.ok (.sl b 0 (cpt (getS vs)).length c ex) (some (H.set b (.cells (ts (cptR (getS vs))) e false)))))
    | _ => none
  | _ => none
theorem eCptS_ok : EntryOk Tryz.prog 23 eCptS := by
  intro args H sr hs K hk
  unfold eCptS at hs
  split at hs
  · cases hs
    refine (SC.under (v := .nilsl) (H := H) ?_).mono ?_
    · intro w0 φ w us hr ha
      obtain ⟨us⟩ := us
      cases ha with | cons h1 h2 => cases h2; cases h1; (
        refine (Tryz.slices_Compact_string_empty none 0 w).mono ?_
        rintro e w' ⟨rfl, hw⟩
        exact ⟨_, rfl, .nilsl, belowE hw⟩)
    · rintro v H' ⟨rfl, rfl⟩; exact ⟨none, hk, rfl⟩
  · rename_i b n c ex
    split at hs
    · rename_i vs e hb
      cases hs
      obtain ⟨⟨g1, g2, g3, g4⟩, h2⟩ := hk
      have hlen := getS_len g1
      refine (SC.rowed (v := .sl b 0 (cpt (getS vs)).length c ex) (H2 := H.set b (.cells (ts (cptR (getS vs))) e false)) ?_).mono ?_
      · intro w0 φ w us hr ha
        obtain ⟨us⟩ := us
        cases ha with | cons h1 h2 => cases h2; cases h1 with | sl hl => (
          rename_i l
          have := Tryz.slices_Compact_string l.blk (l.sh + 0) (c + if ex then 0 else l.slk) (getS vs) w (ts_holds hr hb hl g1) (by omega) (by omega)
          rw [hlen, ← g2] at this
          refine this.mono ?_
          rintro e' w' ⟨rfl, q, rfl⟩
          refine ⟨_, rfl, VR.sl hl, ?_⟩
          rw [Nat.add_zero, ← grow_empty (Sort.putRow _ _ _ _ _)]
          refine hr.putRow (vs' := ts (cptR (getS vs))) hb hl (by rw [ts_length, cptR_len, hlen]) ?_ (fun j v hj => ?_) q #[]
          · rw [g2, ← hlen]
            show (cptR (getS vs)).toArray.size = _
            rw [List.size_toArray, cptR_len]
          · rw [g2, ← hlen]
            exact ts_enc φ (cptR (getS vs)) j v hj)
      · rintro v H' ⟨rfl, rfl⟩; exact ⟨_, h2, rfl⟩
    · cases hs
  · cases hs
end Go.Proofs.YtciciemaldbidaaGreatDoor

/- What vary.one and vary.ends answer, in any memory; what vary.Value answers. -/
import Derived.Test.YtciciemaldbidaaGreatDoorOneW
import Derived.Test.YtciciemaldbidaaGreatDoorShelfD
import Derived.Test.YtciciemaldbidaaGreatDoorFr1
set_option linter.unusedSimpArgs false
set_option linter.unusedVariables false
namespace Go.Proofs.YtciciemaldbidaaGreatDoor
open Go Go.Ve
set_option maxRecDepth 20000
noncomputable def eOne : SpecE := fun args H =>
  match args with
  | [.str s] => match H[0]?, H[1]? with
    | some (ABlk.glob 2 f), some (ABlk.glob 3 a) => some (.needP (utf8T f a ∧ le40 s = true) (.ok (.str (oneT s)) none))
    | _, _ => none
  | _ => none
def endsA (s : List UInt8) : List UInt8 := if s ≠ [] ∧ whI (byteAt s 0) = true then [32] ++ oneT s else oneT s
def endsT (s : List UInt8) : List UInt8 := if endsA s ≠ [] ∧ endsA s ≠ [32] ∧ whI (byteAt s (s.length - 1)) = true then endsA s ++ [32] else endsA s
noncomputable def VEn : VE := ⟨Tryz.prog, tabS [(43, eOne), (44, flatE gWh)] noS, noO, fun _ => none⟩

noncomputable def vEnds  (s : List UInt8) (fT aT : List AV) : Prop := vcF VEn [] 300 [] [] 27 [.str s] [gFst fT, gAcc aT] [⟨Unit, fun _ => .str (endsT s), fun _ => [gFst fT, gAcc aT], fun _ => True, gcB⟩]
def gqOneX0 : Nat → Nat := (fun (b : Nat) => [0, 1].getD b 2)
theorem vEnds_eq  (s : List UInt8) (fT aT : List AV) : vEnds s fT aT = ((utf8T fT aT ∧ le40 s = true) ∧ bif !decide (s = []) then bif ltI (0 : Int) (ic s.length) then bif leI (byteAt s 0) (2147483647 : Int) then bif whI (byteAt s 0) then bif decide (1 + (oneT s).length ≤ 9223372036854775807) then bif !decide ([(32 : UInt8)] ++ oneT s = [(32 : UInt8)]) then bif leI (-9223372036854775808 : Int) (ic s.length - (1 : Int)) && leI (ic s.length - (1 : Int)) (9223372036854775807 : Int) then bif leI (0 : Int) (ic s.length - (1 : Int)) && ltI (ic s.length - (1 : Int)) (ic s.length) then bif leI (byteAt s (ic s.length - (1 : Int)).toNat) (2147483647 : Int) then bif whI (byteAt s (ic s.length - (1 : Int)).toNat) then bif decide (([(32 : UInt8)] ++ oneT s).length + 1 ≤ 9223372036854775807) then ∃ (_x : Unit), True ∧ ((2 = 2 ∧ cellsP gqOneX0 fT fT) ∧ (3 = 3 ∧ cellsP gqOneX0 aT aT) ∧ True) ∧ [(32 : UInt8)] ++ oneT s ++ [(32 : UInt8)] = endsT s ∧ True else False else ∃ (_x : Unit), True ∧ ((2 = 2 ∧ cellsP gqOneX0 fT fT) ∧ (3 = 3 ∧ cellsP gqOneX0 aT aT) ∧ True) ∧ [(32 : UInt8)] ++ oneT s = endsT s ∧ True else False else False else False else ∃ (_x : Unit), True ∧ ((2 = 2 ∧ cellsP gqOneX0 fT fT) ∧ (3 = 3 ∧ cellsP gqOneX0 aT aT) ∧ True) ∧ [(32 : UInt8)] ++ oneT s = endsT s ∧ True else False else bif !decide (oneT s = []) then bif !decide (oneT s = [(32 : UInt8)]) then bif leI (-9223372036854775808 : Int) (ic s.length - (1 : Int)) && leI (ic s.length - (1 : Int)) (9223372036854775807 : Int) then bif leI (0 : Int) (ic s.length - (1 : Int)) && ltI (ic s.length - (1 : Int)) (ic s.length) then bif leI (byteAt s (ic s.length - (1 : Int)).toNat) (2147483647 : Int) then bif whI (byteAt s (ic s.length - (1 : Int)).toNat) then bif decide ((oneT s).length + 1 ≤ 9223372036854775807) then ∃ (_x : Unit), True ∧ ((2 = 2 ∧ cellsP gqOneX0 fT fT) ∧ (3 = 3 ∧ cellsP gqOneX0 aT aT) ∧ True) ∧ oneT s ++ [(32 : UInt8)] = endsT s ∧ True else False else ∃ (_x : Unit), True ∧ ((2 = 2 ∧ cellsP gqOneX0 fT fT) ∧ (3 = 3 ∧ cellsP gqOneX0 aT aT) ∧ True) ∧ oneT s = endsT s ∧ True else False else False else False else ∃ (_x : Unit), True ∧ ((2 = 2 ∧ cellsP gqOneX0 fT fT) ∧ (3 = 3 ∧ cellsP gqOneX0 aT aT) ∧ True) ∧ oneT s = endsT s ∧ True else ∃ (_x : Unit), True ∧ ((2 = 2 ∧ cellsP gqOneX0 fT fT) ∧ (3 = 3 ∧ cellsP gqOneX0 aT aT) ∧ True) ∧ oneT s = endsT s ∧ True else False else False else bif !decide (oneT s = []) then bif !decide (oneT s = [(32 : UInt8)]) then bif leI (-9223372036854775808 : Int) (ic s.length - (1 : Int)) && leI (ic s.length - (1 : Int)) (9223372036854775807 : Int) then bif leI (0 : Int) (ic s.length - (1 : Int)) && ltI (ic s.length - (1 : Int)) (ic s.length) then bif leI (byteAt s (ic s.length - (1 : Int)).toNat) (2147483647 : Int) then bif whI (byteAt s (ic s.length - (1 : Int)).toNat) then bif decide ((oneT s).length + 1 ≤ 9223372036854775807) then ∃ (_x : Unit), True ∧ ((2 = 2 ∧ cellsP gqOneX0 fT fT) ∧ (3 = 3 ∧ cellsP gqOneX0 aT aT) ∧ True) ∧ oneT s ++ [(32 : UInt8)] = endsT s ∧ True else False else ∃ (_x : Unit), True ∧ ((2 = 2 ∧ cellsP gqOneX0 fT fT) ∧ (3 = 3 ∧ cellsP gqOneX0 aT aT) ∧ True) ∧ oneT s = endsT s ∧ True else False else False else False else ∃ (_x : Unit), True ∧ ((2 = 2 ∧ cellsP gqOneX0 fT fT) ∧ (3 = 3 ∧ cellsP gqOneX0 aT aT) ∧ True) ∧ oneT s = endsT s ∧ True else ∃ (_x : Unit), True ∧ ((2 = 2 ∧ cellsP gqOneX0 fT fT) ∧ (3 = 3 ∧ cellsP gqOneX0 aT aT) ∧ True) ∧ oneT s = endsT s ∧ True) := by kernel_rfl
theorem pairs_get (f g : Nat → Nat) : ∀ (l : List Nat) (j : Nat) (h : j < l.length), (l.flatMap fun c => [AV.int .u8 (f c), AV.int .u8 (g c)])[2 * j]? = some (.int .u8 (f l[j])) ∧ (l.flatMap fun c => [AV.int .u8 (f c), AV.int .u8 (g c)])[2 * j + 1]? = some (.int .u8 (g l[j]))
  | [], j, h => absurd h (Nat.not_lt_zero _)
  | a :: r, 0, _ => ⟨rfl, rfl⟩
  | a :: r, j + 1, h => by
    have := pairs_get f g r j (by simpa using h)
    rw [List.flatMap_cons, show 2 * (j + 1) = 2 * j + 1 + 1 by omega]
    exact this
theorem tabs_of {w0 : Base} {φ : List Ve.Loc} {H : AH} {w : World} (hr : Rel w0 φ H w) {f a : List AV} (h0 : H[0]? = some (ABlk.glob 2 f)) (h1 : H[1]? = some (ABlk.glob 3 a)) (hT : utf8T f a) : Lib.Utf8Tabs 2 3 w := by
  refine ⟨fun c hc => ?_, fun i hi => ?_⟩
  · obtain ⟨u, hu, hw⟩ := hr.gcell h0 (j := c) (v := .int .u8 (Lib.firstT c)) (by rw [hT.1]; simp [hc])
    cases hu
    exact hw
  · have hp := pairs_get Lib.accLo Lib.accHi (List.range 16) i (by simpa using hi)
    rw [← hT.2] at hp
    simp only [List.getElem_range] at hp
    obtain ⟨u, hu, hw⟩ := hr.gcell h1 hp.1
    obtain ⟨u', hu', hw'⟩ := hr.gcell h1 hp.2
    cases hu; cases hu'
    exact ⟨hw, hw'⟩
theorem eDec_ok : EntryOk Tryz.prog 79 eDec := by
  intro args H sr hs K hk
  unfold eDec at hs
  split at hs
  · rename_i s
    split at hs
    · rename_i f a h0 h1
      cases hs
      obtain ⟨hT, h2⟩ := hk
      refine (SC.under (v := .tuple [.int .i32 (decR s), .int .i64 (decN s)]) ?_).mono ?_
      · intro w0 φ w us hr ha
        obtain ⟨us⟩ := us
        cases ha with | cons h1' h2' => cases h1'; cases h2'; (
          refine (Tryz.utf8_DecodeRuneInString ⟨⟨s⟩⟩ w (tabs_of hr h0 h1 hT)).mono ?_
          rintro e w' ⟨rfl, hb⟩
          exact ⟨_, rfl, .tuple (.cons (.int _ _) (.cons (.int _ _) .nil)), hb⟩)
      · rintro v H' ⟨rfl, rfl⟩; exact ⟨none, h2, rfl⟩
    · cases hs
  · cases hs
theorem gWh_ok : EntryOk Tryz.prog 44 (flatE gWh) := by
  refine flatE_ok fun args b v hg hb => ?_
  unfold gWh at hg
  split at hg
  · cases hg
    exact ⟨rfl, rfl, SC.one (V := VWh) names0 mixed0 noS_ok noO_ok (wh_vc _)⟩
  · cases hg
theorem TOne_ok : SpecOk Tryz.prog (tabS TOne noS) := by
  refine tabS_ok (fun p hp => ?_) noS_ok
  simp only [TOne, List.mem_cons, List.mem_nil_iff, or_false] at hp
  rcases hp with rfl | rfl
  · exact eDec_ok
  · exact gWh_ok
theorem glob_reads {f : FuncId} {args : List AV} {fT aT : List AV} {v : AV} {g : Option (List Nat)} (hT : utf8T fT aT) (h : SC Tryz.prog f args [gFst fT, gAcc aT] (outE [⟨Unit, fun _ => v, fun _ => [gFst fT, gAcc aT], fun _ => True, g⟩])) (hv : v.flat = true) (ha : AV.flats args = true) {H : AH} (h0 : H[0]? = some (gFst fT)) (h1 : H[1]? = some (gAcc aT)) : SC Tryz.prog f args H (fun v' H' => v' = v ∧ H' = H) := by
  have h2 : SC Tryz.prog f args [gFst fT, gAcc aT] (fun v' H' => v' = v ∧ H' = [gFst fT, gAcc aT]) := h.mono fun v' H' h => by
    obtain ⟨_, _, h1, h2⟩ := outE_one h
    exact ⟨h1, h2⟩
  have := SC.reads (K := fun v' H' => v' = v ∧ H' = H) (σ := [0, 1]) h2 (fun k hk => by
    simp only [List.mem_cons, List.mem_nil_iff, or_false] at hk
    rcases hk with rfl | rfl
    · refine ⟨by simp [gFst], fun ρ => ?_⟩
      show ABlk.glob _ (AV.rens ρ fT) = _
      rw [AV.rens_flat (by rw [hT.1]; exact flats_ints _ _)]; rfl
    · refine ⟨by simp [gAcc], fun ρ => ?_⟩
      show ABlk.glob _ (AV.rens ρ aT) = _
      rw [AV.rens_flat (by rw [hT.2]; exact flats_pairs _ _ _)]; rfl) (by simp) rfl (fun i b h => by
    match i with
    | 0 => simp at h; subst h; rw [h0]; rfl
    | 1 => simp at h; subst h; rw [h1]; rfl
    | i + 2 => simp at h) (by
    rintro v0 H0' ⟨rfl, rfl⟩
    exact ⟨[], by simp, (fun t ht => by cases ht), AV.ren_flat hv, by simp⟩)
  rwa [AV.rens_flat ha] at this
theorem eOne_ok : EntryOk Tryz.prog 43 eOne := by
  intro args H sr hs K hk
  unfold eOne at hs
  split at hs
  · rename_i s
    split at hs
    · rename_i f a h0 h1
      cases hs
      obtain ⟨⟨hT, hl⟩, h2⟩ := hk
      refine (glob_reads (v := .str (oneT s)) hT (SC.ofF (V := VOne s) names0 mixed0 TOne_ok noO_ok (one_vc s f a (of_decide_eq_true hl) hT)) rfl rfl h0 h1).mono ?_
      rintro v H' ⟨rfl, rfl⟩
      exact ⟨none, h2, rfl⟩
    · cases hs
  · cases hs
theorem VEn_ok : SpecOk Tryz.prog (tabS [(43, eOne), (44, flatE gWh)] noS) := by
  refine tabS_ok (fun p hp => ?_) noS_ok
  simp only [List.mem_cons, List.mem_nil_iff, or_false] at hp
  rcases hp with rfl | rfl
  · exact eOne_ok
  · exact gWh_ok
theorem addW_len (out w : List UInt8) : (addW out w).length ≤ out.length + 1 + w.length := by
  unfold addW; split
  · omega
  · simp only [List.length_append, List.length_cons, List.length_nil]; omega
theorem words_len {s : List UInt8} : ∀ (k i : Nat) (st : Int) (out : List UInt8), i ≤ s.length → st < i → out.length ≤ 2 * i → (0 ≤ st → (out.length : Int) ≤ 2 * st) → (wordsA s k i st out).length ≤ 2 * s.length + 1 := by
  have fin : ∀ (i : Nat) (st : Int) (out : List UInt8), i ≤ s.length → st < i → out.length ≤ 2 * i → (0 ≤ st → (out.length : Int) ≤ 2 * st) → (if 0 ≤ st then addW out (s.drop st.toNat) else out).length ≤ 2 * s.length + 1 := by
    intro i st out h1 h2 h3 h4
    split
    · rename_i h
      have := addW_len out (s.drop st.toNat)
      have := h4 h
      rw [List.length_drop] at *
      omega
    · omega
  intro k
  induction k with
  | zero => exact fin
  | succ k ih =>
    intro i st out h1 h2 h3 h4
    rw [wordsA]
    split
    · rename_i hi
      have h0 : s.drop i ≠ [] := fun e => by
        have := congrArg List.length e
        rw [List.length_drop, List.length_nil] at this; omega
      have p1 := decN_pos h0
      have p2 := decN_le h0
      rw [List.length_drop] at p2
      generalize decN (s.drop i) = n at *
      split
      · split
        · rename_i h
          have a1 := addW_len out ((s.drop st.toNat).take (i - st.toNat))
          rw [part_len _ h1] at a1
          have := h4 h
          exact ih _ _ _ (by omega) (by omega) (by omega) (fun h => by omega)
        · exact ih _ _ _ (by omega) (by omega) (by omega) (fun h => by omega)
      · split
        · exact ih _ _ _ (by omega) (by omega) (by omega) (fun h => by omega)
        · exact ih _ _ _ (by omega) (by omega) (by omega) h4
    · exact fin i st out h1 h2 h3 h4
theorem one_len (s : List UInt8) : (oneT s).length ≤ 2 * s.length + 1 := words_len _ 0 (-1) [] (Nat.zero_le _) (by decide) (Nat.zero_le _) (fun h => by omega)
theorem ends_len (s : List UInt8) : (endsT s).length ≤ 2 * s.length + 3 := by
  have := one_len s
  have h2 : (endsA s).length ≤ 2 * s.length + 2 := by
    unfold endsA; split
    · simp only [List.length_append, List.length_cons, List.length_nil]; omega
    · omega
  unfold endsT; split
  · simp only [List.length_append, List.length_cons, List.length_nil]; omega
  · omega
theorem one_nil : oneT [] = [] := rfl
theorem ends_vc (s : List UInt8) (fT aT : List AV) (hs : le40 s = true) (hT : utf8T fT aT) : vEnds s fT aT := by
  have hf : ∀ σ, cellsP σ fT fT = True := fun σ => eq_true (cells_refl (by rw [hT.1]; exact flats_ints _ _))
  have ha : ∀ σ, cellsP σ aT aT = True := fun σ => eq_true (cells_refl (by rw [hT.2]; exact flats_pairs _ _ _))
  rw [vEnds_eq]
  simp only [ic, cond_F]
  simp only [cond_P, leI_t, leI_f, ltI_t, ltI_f, eqI_t, eqI_f, and_t, not_t, not_f, dec_t, dec_f, Nat.zero_add, Nat.mul_one, List.drop_zero]
  simp only [hf, ha, hT, hs, and_true, true_and, and_false, false_and, or_false, false_or, exists_false, Nat.le_refl, exists_const, false_implies, not_false_eq_true, true_implies]
  have hl := of_decide_eq_true hs
  have h1 := one_len s
  have hb : ∀ i, byteAt s i ≤ 2147483647 := fun i => by
    by_cases h : i < s.length
    · rw [byteAt_get _ _ h]; have := UInt8.toNat_lt s[i]; omega
    · unfold byteAt; simp [List.getElem?_eq_none (Nat.le_of_not_lt h)]
  refine ⟨fun hne => ?_, fun he => ?_⟩
  · have hp : 0 < s.length := List.length_pos_iff.2 hne
    have hx : ((s.length : Int) - 1).toNat = s.length - 1 := by omega
    simp only [hx]
    refine ⟨by omega, hb _, fun hw => ?_, fun hw => ?_⟩
    · have ea : endsA s = [32] ++ oneT s := if_pos ⟨hne, hw⟩
      refine ⟨by omega, fun h2 => ⟨⟨by omega, by omega⟩, ⟨by omega, by omega⟩, hb _, fun h3 => ⟨by simp only [List.length_append, List.length_cons, List.length_nil]; omega, ?_⟩, fun h3 => ?_⟩, fun h2 => ?_⟩
      · unfold endsT; rw [ea, if_pos ⟨by simp, h2, h3⟩]
      · unfold endsT; rw [ea, if_neg (fun h => by rw [h3] at h; exact absurd h.2.2 (by decide))]
      · unfold endsT; rw [ea, if_neg (fun h => h.2.1 h2)]
    · have ea : endsA s = oneT s := if_neg (fun h => by rw [hw] at h; exact absurd h.2 (by decide))
      refine ⟨fun h0 => ⟨fun h2 => ⟨⟨by omega, by omega⟩, ⟨by omega, by omega⟩, hb _, fun h3 => ⟨by omega, ?_⟩, fun h3 => ?_⟩, fun h2 => ?_⟩, fun h0 => ?_⟩
      · unfold endsT; rw [ea, if_pos ⟨h0, h2, h3⟩]
      · unfold endsT; rw [ea, if_neg (fun h => by rw [h3] at h; exact absurd h.2.2 (by decide))]
      · unfold endsT; rw [ea, if_neg (fun h => h.2.1 h2)]
      · unfold endsT; rw [ea, if_neg (fun h => h.1 h0)]
  · subst he
    have e : oneT [] = [] := one_nil
    have e2 : endsT [] = [] := rfl
    simp [e, e2]
noncomputable def eEnds : SpecE := fun args H =>
  match args with
  | [.str s] => match H[0]?, H[1]? with
    | some (ABlk.glob 2 f), some (ABlk.glob 3 a) => some (.needP (utf8T f a ∧ le40 s = true) (.ok (.str (endsT s)) none))
    | _, _ => none
  | _ => none
theorem eEnds_ok : EntryOk Tryz.prog 27 eEnds := by
  intro args H sr hs K hk
  unfold eEnds at hs
  split at hs
  · rename_i s
    split at hs
    · rename_i f a h0 h1
      cases hs
      obtain ⟨⟨hT, hl⟩, h2⟩ := hk
      refine (glob_reads (v := .str (endsT s)) hT (SC.ofF (V := VEn) names0 mixed0 VEn_ok noO_ok (ends_vc s f a hl hT)) rfl rfl h0 h1).mono ?_
      rintro v H' ⟨rfl, rfl⟩
      exact ⟨none, h2, rfl⟩
    · cases hs
  · cases hs
end Go.Proofs.YtciciemaldbidaaGreatDoor

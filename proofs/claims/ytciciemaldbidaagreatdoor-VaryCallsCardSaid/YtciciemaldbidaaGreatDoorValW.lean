/- What vary.Value answers: the values of a name, white runs as one blank. -/
import Derived.Test.YtciciemaldbidaaGreatDoorOneX
set_option linter.unusedSimpArgs false
set_option linter.unusedVariables false
namespace Go.Proofs.YtciciemaldbidaaGreatDoor
open Go Go.Ve
set_option maxRecDepth 20000
def endL (ps : LL) (i : Nat) : LL := (ps.take i).map endsT ++ ps.drop i
def valT (l : FL) (nm : List UInt8) : List UInt8 := if allF l nm = [] then [45] else [43] ++ joinF ((allF l nm).map endsT) [44, 32]
noncomputable def VVa : VE := ⟨Tryz.prog, tabS [(26, eAll), (27, eEnds), (28, eJoin)] noS, noO, fun _ => none⟩
noncomputable def aVal (ps : LL) : Anns := [(5, [.mk Nat (fun i => [(16, .int .i64 i)]) (fun i => some [keepB, keepB, keepB, .cells (ts (endL ps i)) eT false]) (fun i => i ≤ ps.length) (fun i => ps.length - i) gcB gcB (fun i => [(20, .str (ps.getD i []))]) (fun _ => [])])]

noncomputable def vVaN  (nm : List UInt8) : Prop := vcF VVa [] 300 [] [] 9 [.nilsl, .str nm] [] (Go.Ve.one (.str [45]))
noncomputable def vVaZ  (nm : List UInt8) : Prop := vcF VVa [] 300 [] [] 9 [.slz, .str nm] [] (Go.Ve.one (.str [45]))
noncomputable def vVa  (l r : FL) (nm : List UInt8) (e : Nat) (ro : Bool) (c : Nat) (ex : Bool) (fT aT : List AV) : Prop := vcF VVa [] 300 (aVal (allF l nm)) [] 9 [.sl 2 0 l.length c ex, .str nm] [gFst fT, gAcc aT, .cells (fieldC (l ++ r)) e ro] [⟨Unit, fun _ => .str (valT l nm), fun _ => [gFst fT, gAcc aT, .cells (fieldC (l ++ r)) e ro], fun _ => True, gcB⟩]
def gqValW0 : Nat → Nat := (fun (b : Nat) => [0, 1, 2].getD b 4)
def gqValW1 : Nat → Nat := (fun (b : Nat) => [0, 1, 2, 3].getD b 4)
theorem vVaN_eq  (nm : List UInt8) : vVaN nm = (∃ (_x : Unit), True ∧ True ∧ [(45 : UInt8)] = [(45 : UInt8)] ∧ True) := by kernel_rfl
theorem vVaZ_eq  (nm : List UInt8) : vVaZ nm = (∃ (_x : Unit), True ∧ True ∧ [(45 : UInt8)] = [(45 : UInt8)] ∧ True) := by kernel_rfl
theorem vVa_eq  (l r : FL) (nm : List UInt8) (e : Nat) (ro : Bool) (c : Nat) (ex : Bool) (fT aT : List AV) : vVa l r nm e ro c ex fT aT = ((fldOk (fieldC (l ++ r)) (List.length l) ∧ le40 nm = true) ∧ bif decide (allF (fldT (fieldC (l ++ r)) (List.length l)) nm = []) then ∃ (_x : Unit), True ∧ ((2 = 2 ∧ cellsP (fun (b : Nat) => [0, 1, 2].getD b 3) fT fT) ∧ (3 = 3 ∧ cellsP (fun (b : Nat) => [0, 1, 2].getD b 3) aT aT) ∧ (bif e.beq e && sameB ro ro then cellsP (fun (b : Nat) => [0, 1, 2].getD b 3) (fieldC (l ++ r)) (fieldC (l ++ r)) ∧ True else False) ∧ True) ∧ [(45 : UInt8)] = valT l nm ∧ True else bif eqI (ic (List.length (allF (fldT (fieldC (l ++ r)) (List.length l)) nm))) (0 : Int) then ∃ (_x : Unit), True ∧ ((2 = 2 ∧ cellsP gqValW0 fT fT) ∧ (3 = 3 ∧ cellsP gqValW0 aT aT) ∧ (bif e.beq e && sameB ro ro then cellsP gqValW0 (fieldC (l ++ r)) (fieldC (l ++ r)) ∧ True else False) ∧ True) ∧ [(45 : UInt8)] = valT l nm ∧ True else (∃ (x : Nat), x ≤ List.length (allF l nm) ∧ ((2 = 2 ∧ cellsP gqValW1 fT fT) ∧ (3 = 3 ∧ cellsP gqValW1 aT aT) ∧ (bif e.beq e && sameB ro ro then cellsP gqValW1 (fieldC (l ++ r)) (fieldC (l ++ r)) ∧ True else False) ∧ (cellsP gqValW1 (ts (endL (allF l nm) x)) (ts (allF (fldT (fieldC (l ++ r)) (List.length l)) nm)) ∧ True) ∧ True) ∧ (0 : Int) = ic x ∧ True) ∧ ∀ (x : Nat), x ≤ List.length (allF l nm) → bif ltI (ic x) (ic (List.length (allF (fldT (fieldC (l ++ r)) (List.length l)) nm))) then bif ltI (ic x) (ic (List.length (allF (fldT (fieldC (l ++ r)) (List.length l)) nm))) then (ts (endL (allF l nm) x))[0 + x * 1]? = some (AV.str (List.getD (allF l nm) x [])) ∧ (utf8T fT aT ∧ le40 (List.getD (allF l nm) x []) = true) ∧ bif ltI (ic x) (ic (List.length (allF (fldT (fieldC (l ++ r)) (List.length l)) nm))) then bif decide (0 + x * 1 + 1 ≤ (ts (endL (allF l nm) x)).length) then bif leI (ic x + (1 : Int)) (9223372036854775807 : Int) then ∃ (y : Nat), y ≤ List.length (allF l nm) ∧ List.length (allF l nm) - y < List.length (allF l nm) - x ∧ ((2 = 2 ∧ cellsP gqValW1 fT fT) ∧ (3 = 3 ∧ cellsP gqValW1 aT aT) ∧ (bif e.beq e && sameB ro ro then cellsP gqValW1 (fieldC (l ++ r)) (fieldC (l ++ r)) ∧ True else False) ∧ (cellsP gqValW1 (ts (endL (allF l nm) y)) (setManyF (ts (endL (allF l nm) x)) (0 + x * 1) [AV.str (endsT (List.getD (allF l nm) x []))]) ∧ True) ∧ True) ∧ ic x + (1 : Int) = ic y ∧ True else False else False else False else False else (ts (endL (allF l nm) x) = ts (getS (ts (endL (allF l nm) x))) ∧ List.length (allF (fldT (fieldC (l ++ r)) (List.length l)) nm) ≤ List.length (getS (ts (endL (allF l nm) x))) ∧ List.length (allF (fldT (fieldC (l ++ r)) (List.length l)) nm) ≤ List.length (allF (fldT (fieldC (l ++ r)) (List.length l)) nm) ∧ List.length (allF (fldT (fieldC (l ++ r)) (List.length l)) nm) ≤ 140737488355328 ∧ (joinF (List.take (List.length (allF (fldT (fieldC (l ++ r)) (List.length l)) nm)) (getS (ts (endL (allF l nm) x)))) [(44 : UInt8), (32 : UInt8)]).length ≤ 140737488355328) ∧ bif decide (1 + (joinF (List.take (List.length (allF (fldT (fieldC (l ++ r)) (List.length l)) nm)) (getS (ts (endL (allF l nm) x)))) [(44 : UInt8), (32 : UInt8)]).length ≤ 9223372036854775807) then ∃ (_x : Unit), True ∧ ((2 = 2 ∧ cellsP gqValW0 fT fT) ∧ (3 = 3 ∧ cellsP gqValW0 aT aT) ∧ (bif e.beq e && sameB ro ro then cellsP gqValW0 (fieldC (l ++ r)) (fieldC (l ++ r)) ∧ True else False) ∧ True) ∧ [(43 : UInt8)] ++ joinF (List.take (List.length (allF (fldT (fieldC (l ++ r)) (List.length l)) nm)) (getS (ts (endL (allF l nm) x)))) [(44 : UInt8), (32 : UInt8)] = valT l nm ∧ True else False) := by kernel_rfl
theorem vaN_vc (nm : List UInt8) : vVaN nm := by
  rw [vVaN_eq]; simp
theorem vaZ_vc (nm : List UInt8) : vVaZ nm := by
  rw [vVaZ_eq]; simp
theorem endL_len {ps : LL} {i : Nat} (h : i ≤ ps.length) : (endL ps i).length = ps.length := by
  unfold endL; simp only [List.length_append, List.length_map, List.length_take, List.length_drop]; omega
theorem endL_get {ps : LL} {x : Nat} (h : x < ps.length) : (ts (endL ps x))[x]? = some (AV.str (ps.getD x [])) := by
  rw [ts_get (by rw [endL_len (by omega)]; exact h)]
  congr 2
  unfold endL
  rw [List.getD_eq_getElem?_getD, List.getD_eq_getElem?_getD, List.getElem?_append_right (by simp only [List.length_map, List.length_take]; omega)]
  simp only [List.length_map, List.length_take, List.getElem?_drop]
  rw [show x + (x - min x ps.length) = x by omega]
theorem endL_step {ps : LL} {x : Nat} (h : x < ps.length) : setManyF (ts (endL ps x)) x [AV.str (endsT (ps.getD x []))] = ts (endL ps (x + 1)) := by
  simp only [setManyF]
  have e : (ts (endL ps x)).set x (AV.str (endsT (ps.getD x []))) = ts ((endL ps x).set x (endsT (ps.getD x []))) := by unfold ts; rw [List.map_set]
  rw [e]
  congr 1
  unfold endL
  rw [List.set_append_right _ _ (by simp only [List.length_map, List.length_take]; omega)]
  simp only [List.length_map, List.length_take]
  rw [show x - min x ps.length = 0 by omega, List.drop_eq_getElem_cons h, List.set_cons_zero, List.take_succ_eq_append_getElem h, List.map_append, List.append_assoc, List.getD_eq_getElem?_getD, List.getElem?_eq_getElem h]
  rfl
theorem tot_ends : ∀ ps : LL, totF (ps.map endsT) ≤ 4 * totF ps
  | [] => Nat.zero_le _
  | a :: r => by
    have h1 := tot_ends r
    have h2 := ends_len a
    simp only [totF, List.map_cons, List.sum_cons] at h1 ⊢
    omega
theorem len_tot : ∀ ps : LL, ps.length ≤ totF ps
  | [] => Nat.zero_le _
  | a :: r => by
    have h1 := len_tot r
    simp only [totF, List.map_cons, List.sum_cons, List.length_cons] at h1 ⊢
    omega
theorem all_le {l : FL} (hl : totL l ≤ 274877906944) (nm : List UInt8) {x : Nat} (hx : x < (allF l nm).length) : le40 ((allF l nm).getD x []) = true := by
  have h1 := tot_mem (getD_mem (ls := allF l nm) hx)
  have h2 := totF_all l nm
  exact decide_eq_true (by omega)
theorem va_vc (l r : FL) (nm : List UInt8) (e : Nat) (ro : Bool) (c : Nat) (ex : Bool) (fT aT : List AV) (hl : totL l ≤ 274877906944) (hn : le40 nm = true) (hT : utf8T fT aT) : vVa l r nm e ro c ex fT aT := by
  have hf : ∀ σ, cellsP σ fT fT = True := fun σ => eq_true (cells_refl (by rw [hT.1]; exact flats_ints _ _))
  have ha : ∀ σ, cellsP σ aT aT = True := fun σ => eq_true (cells_refl (by rw [hT.2]; exact flats_pairs _ _ _))
  rw [vVa_eq]
  simp only [ic, cond_F, sameB_self, Nat.beq_refl]
  simp only [cond_P, leI_t, leI_f, ltI_t, ltI_f, eqI_t, eqI_f, and_t, not_t, not_f, dec_t, dec_f, Nat.zero_add, Nat.mul_one, List.drop_zero]
  simp only [cells_tsr, cells_fld, take_ts, ts_length, and_true, true_and, and_false, false_and, or_false, false_or, exists_false, Nat.le_refl, exists_const, false_implies, not_false_eq_true, true_implies, fldT_at, fldOk_at, getS_ts]
  simp only [hf, ha, hT, hl, hn, and_true, true_and]
  have h1 := totF_all l nm
  have h2 := len_tot (allF l nm)
  have h3 := tot_ends (allF l nm)
  have h4 := joinF_len ((allF l nm).map endsT) [44, 32]
  have hle : ∀ x, x < (allF l nm).length → le40 ((allF l nm).getD x []) = true := fun x hx => all_le hl nm hx
  have hv : allF l nm ≠ [] → valT l nm = [43] ++ joinF ((allF l nm).map endsT) [44, 32] := fun h => if_neg h
  have hv0 : allF l nm = [] → valT l nm = [45] := fun h => if_pos h
  generalize allF l nm = ps at *
  simp only [List.length_cons, List.length_nil] at h4
  refine ⟨fun h => (hv0 h).symm, fun h => ⟨fun h0 => absurd (List.length_eq_zero_iff.1 (by omega)) h, fun h0 => ⟨⟨0, Nat.zero_le _, ?_, rfl⟩, fun x hx => ⟨fun hlt => ?_, fun hge => ?_⟩⟩⟩⟩
  · rw [show endL ps 0 = ps from by simp [endL], cells_tsr]; trivial
  · have hx' : x < ps.length := by omega
    refine ⟨hlt, endL_get hx', hle x hx', hlt, by rw [endL_len hx]; omega, by omega, x + 1, by omega, by omega, ?_, rfl⟩
    rw [endL_step hx', cells_tsr]; trivial
  · obtain rfl : x = ps.length := by omega
    have e : endL ps ps.length = ps.map endsT := by simp [endL]
    have e2 : (ps.map endsT).take ps.length = ps.map endsT := List.take_of_length_le (by simp)
    rw [e, e2]
    exact ⟨⟨by simp, by omega, by omega⟩, by omega, (hv h).symm⟩
theorem VVa_ok : SpecOk Tryz.prog (tabS [(26, eAll), (27, eEnds), (28, eJoin)] noS) := by
  refine tabS_ok (fun p hp => ?_) noS_ok
  simp only [List.mem_cons, List.mem_nil_iff, or_false] at hp
  rcases hp with rfl | rfl | rfl
  · exact eAll_ok
  · exact eEnds_ok
  · exact eJoin_ok
noncomputable def eVal : SpecE := fun args H =>
  match args with
  | [.nilsl, .str _] => some (.ok (.str [45]) none)
  | [.slz, .str _] => some (.ok (.str [45]) none)
  | [.sl b 0 n _ _, .str nm] => match H[0]?, H[1]?, H[b]? with
    | some (ABlk.glob 2 f), some (ABlk.glob 3 a), some (.cells vs _ _) => some (.needP (utf8T f a ∧ fldOk vs n ∧ le40 nm = true) (.ok (.str (valT (fldT vs n) nm)) none))
    | _, _, _ => none
  | _ => none
theorem eVal_ok : EntryOk Tryz.prog 9 eVal := by
  intro args H sr hs K hk
  unfold eVal at hs
  split at hs
  · rename_i nm
    cases hs
    refine (SC.flat (K := fun v' H' => v' = .str [45] ∧ H' = H) (SC.one (V := VVa) names0 mixed0 VVa_ok noO_ok (vaN_vc nm)) rfl ?_).mono ?_
    · rintro v0 T ⟨rfl, rfl⟩; exact ⟨(fun k hk => by cases hk), rfl, by simp⟩
    · rintro v H' ⟨rfl, rfl⟩; exact ⟨none, hk, rfl⟩
  · rename_i nm
    cases hs
    refine (SC.flat (K := fun v' H' => v' = .str [45] ∧ H' = H) (SC.one (V := VVa) names0 mixed0 VVa_ok noO_ok (vaZ_vc nm)) rfl ?_).mono ?_
    · rintro v0 T ⟨rfl, rfl⟩; exact ⟨(fun k hk => by cases hk), rfl, by simp⟩
    · rintro v H' ⟨rfl, rfl⟩; exact ⟨none, hk, rfl⟩
  · rename_i b n c ex nm
    split at hs
    · rename_i f a vs e ro h0 h1 hb
      cases hs
      obtain ⟨⟨hT, g1, g2⟩, h2⟩ := hk
      obtain ⟨r, e1, hl, h3⟩ := fldOk_ex g1
      generalize fldT vs n = l at *
      subst e1
      subst hl
      have hsc := out1 (SC.ofF (V := VVa) names0 mixed0 VVa_ok noO_ok (va_vc l r nm e ro c ex f a h3 g2 hT))
      have hb0 : b ≠ 0 := fun e => by subst e; rw [h0] at hb; cases hb
      have hb1 : b ≠ 1 := fun e => by subst e; rw [h1] at hb; cases hb
      have := SC.reads (K := fun v' H' => v' = .str (valT l nm) ∧ H' = H) (σ := [0, 1, b]) hsc (fun k hk => by
        simp only [List.mem_cons, List.mem_nil_iff, or_false] at hk
        rcases hk with rfl | rfl | rfl
        · refine ⟨by simp [gFst], fun ρ => ?_⟩
          show ABlk.glob _ (AV.rens ρ f) = _
          rw [AV.rens_flat (by rw [hT.1]; exact flats_ints _ _)]; rfl
        · refine ⟨by simp [gAcc], fun ρ => ?_⟩
          show ABlk.glob _ (AV.rens ρ a) = _
          rw [AV.rens_flat (by rw [hT.2]; exact flats_pairs _ _ _)]; rfl
        · exact ⟨by simp, cells_ren (fieldC_flat _) e ro⟩) (by simp; omega) rfl (fun i b' h => by
        match i with
        | 0 => simp at h; subst h; rw [h0]; rfl
        | 1 => simp at h; subst h; rw [h1]; rfl
        | 2 => simp at h; subst h; rw [hb]; rfl
        | i + 3 => simp at h) (by
        rintro v0 H0' ⟨rfl, rfl⟩
        exact ⟨[], by simp, (fun t ht => by cases ht), rfl, by simp⟩)
      refine SC.mono this ?_
      rintro v H' ⟨rfl, rfl⟩
      exact ⟨none, h2, rfl⟩
    · cases hs
  · cases hs
end Go.Proofs.YtciciemaldbidaaGreatDoor

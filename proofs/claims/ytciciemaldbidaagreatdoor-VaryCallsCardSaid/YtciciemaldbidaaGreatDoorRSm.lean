/- What kit.Same answers of texts. -/
import Derived.Test.YtciciemaldbidaaGreatDoorRKey
import Derived.Test.YtciciemaldbidaaGreatDoorVrN
set_option linter.unusedSimpArgs false
set_option linter.unusedVariables false
namespace Go.Proofs.YtciciemaldbidaaGreatDoor
open Go Go.Ve
set_option maxRecDepth 20000
noncomputable def VSm : VE := ⟨Tryz.prog, noS, noO, fun _ => none⟩
noncomputable def aSm (a b : LL) : Anns := [(4, [.mk Nat (fun i => [(5, .int .i64 i)]) (fun _ => none) (fun i => i ≤ a.length ∧ a.take i = b.take i) (fun i => a.length - i) gcB gcB (fun i => [(20, .str (a.getD i [])), (24, .str (b.getD i []))]) (fun _ => [])])]

noncomputable def vSmN  : Prop := vcF VSm [(6, .quiet)] 300 [] [] 11 [.nilsl, .nilsl] [] (Go.Ve.one (.bool true))
noncomputable def vSm  (a ra b rb : LL) (ea : Nat) (roa : Bool) (ca : Nat) (exa : Bool) (eb : Nat) (rob : Bool) (cb : Nat) (exb : Bool) : Prop := vcF VSm [(6, .quiet)] 300 (aSm a b) [] 11 [.sl 0 0 a.length ca exa, .sl 1 0 b.length cb exb] [.cells (ts (a ++ ra)) ea roa, .cells (ts (b ++ rb)) eb rob] [⟨Unit, fun _ => .bool (decide (a = b)), fun _ => [.cells (ts (a ++ ra)) ea roa, .cells (ts (b ++ rb)) eb rob], fun _ => True, gcB⟩]
def gqRSm0 : Nat → Nat := (fun (b : Nat) => [0, 1].getD b 2)
theorem vSmN_eq  : vSmN  = (∃ (_x : Unit), True ∧ True ∧ true = true ∧ True) := by kernel_rfl
theorem vSm_eq  (a ra b rb : LL) (ea : Nat) (roa : Bool) (ca : Nat) (exa : Bool) (eb : Nat) (rob : Bool) (cb : Nat) (exb : Bool) : vSm a ra b rb ea roa ca exa eb rob cb exb = (bif !eqI (ic (List.length a)) (ic (List.length b)) then ∃ (_x : Unit), True ∧ ((bif ea.beq ea && sameB roa roa then cellsP gqRSm0 (ts (a ++ ra)) (ts (a ++ ra)) ∧ True else False) ∧ (bif eb.beq eb && sameB rob rob then cellsP gqRSm0 (ts (b ++ rb)) (ts (b ++ rb)) ∧ True else False) ∧ True) ∧ false = decide (a = b) ∧ True else (∃ (x : Nat), (x ≤ List.length a ∧ List.take x a = List.take x b) ∧ ((bif ea.beq ea && sameB roa roa then cellsP gqRSm0 (ts (a ++ ra)) (ts (a ++ ra)) ∧ True else False) ∧ (bif eb.beq eb && sameB rob rob then cellsP gqRSm0 (ts (b ++ rb)) (ts (b ++ rb)) ∧ True else False) ∧ True) ∧ (0 : Int) = ic x ∧ True) ∧ ∀ (x : Nat), x ≤ List.length a ∧ List.take x a = List.take x b → bif ltI (ic x) (ic (List.length a)) then bif ltI (ic x) (ic (List.length a)) then (ts (a ++ ra))[0 + x * 1]? = some (AV.str (List.getD a x [])) ∧ bif ltI (ic x) (ic (List.length b)) then (ts (b ++ rb))[0 + x * 1]? = some (AV.str (List.getD b x [])) ∧ bif !decide (List.getD a x [] = List.getD b x []) then ∃ (_x : Unit), True ∧ ((bif ea.beq ea && sameB roa roa then cellsP gqRSm0 (ts (a ++ ra)) (ts (a ++ ra)) ∧ True else False) ∧ (bif eb.beq eb && sameB rob rob then cellsP gqRSm0 (ts (b ++ rb)) (ts (b ++ rb)) ∧ True else False) ∧ True) ∧ false = decide (a = b) ∧ True else bif leI (ic x + (1 : Int)) (9223372036854775807 : Int) then ∃ (y : Nat), (y ≤ List.length a ∧ List.take y a = List.take y b) ∧ List.length a - y < List.length a - x ∧ ((bif ea.beq ea && sameB roa roa then cellsP gqRSm0 (ts (a ++ ra)) (ts (a ++ ra)) ∧ True else False) ∧ (bif eb.beq eb && sameB rob rob then cellsP gqRSm0 (ts (b ++ rb)) (ts (b ++ rb)) ∧ True else False) ∧ True) ∧ ic x + (1 : Int) = ic y ∧ True else False else False else False else ∃ (_x : Unit), True ∧ ((bif ea.beq ea && sameB roa roa then cellsP gqRSm0 (ts (a ++ ra)) (ts (a ++ ra)) ∧ True else False) ∧ (bif eb.beq eb && sameB rob rob then cellsP gqRSm0 (ts (b ++ rb)) (ts (b ++ rb)) ∧ True else False) ∧ True) ∧ true = decide (a = b) ∧ True) := by kernel_rfl
theorem smN_vc : vSmN := by
  rw [vSmN_eq]; simp
theorem take_eq_step {a b : LL} {x : Nat} (ha : x < a.length) (hb : x < b.length) (h : a.take x = b.take x) (h2 : a.getD x [] = b.getD x []) : a.take (x + 1) = b.take (x + 1) := by
  rw [List.take_succ_eq_append_getElem ha, List.take_succ_eq_append_getElem hb, h]
  rw [List.getD_eq_getElem?_getD, List.getD_eq_getElem?_getD, List.getElem?_eq_getElem ha, List.getElem?_eq_getElem hb] at h2
  simp only [Option.getD_some] at h2
  rw [h2]
theorem sm_vc (a ra b rb : LL) (ea : Nat) (roa : Bool) (ca : Nat) (exa : Bool) (eb : Nat) (rob : Bool) (cb : Nat) (exb : Bool) (hl : a.length ≤ 1099511627776) : vSm a ra b rb ea roa ca exa eb rob cb exb := by
  rw [vSm_eq]
  simp only [ic, cond_F, sameB_self, Nat.beq_refl]
  simp only [cond_P, leI_t, leI_f, ltI_t, ltI_f, eqI_t, eqI_f, and_t, not_t, not_f, dec_t, dec_f, Nat.zero_add, Nat.mul_one, List.drop_zero]
  simp only [cells_tsr, cells_fld, take_ts, ts_length, and_true, true_and, and_false, false_and, or_false, false_or, exists_false, Nat.le_refl, exists_const, false_implies, not_false_eq_true, true_implies, fldT_at, fldOk_at, getS_ts]
  refine ⟨fun h => (decide_eq_false fun e => by subst e; exact h rfl).symm, fun h => ⟨⟨0, ⟨Nat.zero_le _, rfl⟩, rfl⟩, fun x hx => ⟨fun hlt => ?_, fun hge => ?_⟩⟩⟩
  · have hx' : x < a.length := by omega
    have hy : x < b.length := by omega
    refine ⟨hlt, getL hx', by omega, getL hy, fun hne => (decide_eq_false fun e => by subst e; exact hne rfl).symm, fun he => ⟨by omega, x + 1, ⟨by omega, take_eq_step hx' hy hx.2 he⟩, by omega, by omega⟩⟩
  · have e1 : a.take x = a := List.take_of_length_le (by omega)
    have e2 : b.take x = b := List.take_of_length_le (by omega)
    rw [e1, e2] at hx
    exact (decide_eq_true hx.2).symm
noncomputable def eSm : SpecE := fun args H =>
  match args with
  | [.nilsl, .nilsl] => some (.ok (.bool true) none)
  | [.nilsl, .sl _ _ _ _ _] => some (.needP False (.ok (.bool false) none))
  | [.sl _ _ _ _ _, .nilsl] => some (.needP False (.ok (.bool false) none))
  | [.sl b 0 n _ _, .sl d 0 m _ _] => match H[b]?, H[d]? with
    | some (.cells vs _ _), some (.cells ws _ _) => some (.needP ((vs = ts (getS vs) ∧ n ≤ (getS vs).length ∧ n ≤ 1099511627776) ∧ (ws = ts (getS ws) ∧ m ≤ (getS ws).length) ∧ b ≠ d) (.ok (.bool (decide ((getS vs).take n = (getS ws).take m))) none))
    | _, _ => none
  | _ => none
theorem eSm_ok : EntryOk Tryz.prog 11 eSm := by
  intro args H sr hs K hk
  unfold eSm at hs
  split at hs
  · cases hs
    refine (SC.flat (K := fun v' H' => v' = .bool true ∧ H' = H) (SC.one (V := VSm) names0 mixed0 noS_ok noO_ok smN_vc) rfl ?_).mono ?_
    · rintro v0 T ⟨rfl, rfl⟩; exact ⟨(fun k hk => by cases hk), rfl, by simp⟩
    · rintro v H' ⟨rfl, rfl⟩; exact ⟨none, hk, rfl⟩
  · cases hs; exact hk.1.elim
  · cases hs; exact hk.1.elim
  · rename_i b n c ex d m c2 ex2
    split at hs
    · rename_i vs e ro ws e2 ro2 hb hd
      cases hs
      obtain ⟨⟨⟨g1, g2, g3⟩, ⟨g4, g5⟩, hne⟩, h2⟩ := hk
      have hl : n = ((getS vs).take n).length := by rw [List.length_take]; omega
      have hl2 : m = ((getS ws).take m).length := by rw [List.length_take]; omega
      have h1 : vs = ts ((getS vs).take n ++ (getS vs).drop n) := by rw [List.take_append_drop]; exact g1
      have h3 : ws = ts ((getS ws).take m ++ (getS ws).drop m) := by rw [List.take_append_drop]; exact g4
      generalize (getS vs).drop n = r at *
      generalize (getS vs).take n = l at *
      generalize (getS ws).drop m = r2 at *
      generalize (getS ws).take m = l2 at *
      subst h1
      subst hl
      subst h3
      subst hl2
      have hsc := out1 (SC.ofF (V := VSm) names0 mixed0 noS_ok noO_ok (sm_vc l r l2 r2 e ro c ex e2 ro2 c2 ex2 g3))
      have := SC.reads (K := fun v' H' => v' = .bool (decide (l = l2)) ∧ H' = H) (σ := [b, d]) hsc (fun k hk => by
        simp only [List.mem_cons, List.mem_nil_iff, or_false] at hk
        rcases hk with rfl | rfl
        · exact cells_ren2 (ts_flat _) _ _
        · exact cells_ren2 (ts_flat _) _ _) (by simp; omega) rfl (fun i b' h => by
        match i with
        | 0 => simp at h; subst h; rw [hb]; rfl
        | 1 => simp at h; subst h; rw [hd]; rfl
        | i + 2 => simp at h) (by
        rintro v0 H0' ⟨rfl, rfl⟩
        exact ⟨[], by simp, (fun t ht => by cases ht), rfl, by simp⟩)
      refine SC.mono this ?_
      rintro v H' ⟨rfl, rfl⟩
      exact ⟨none, h2, rfl⟩
    · cases hs
  · cases hs
end Go.Proofs.YtciciemaldbidaaGreatDoor

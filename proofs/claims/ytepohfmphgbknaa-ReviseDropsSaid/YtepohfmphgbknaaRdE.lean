/- What the layer of fields, methods and the document's kit answer, in any memory: entries. -/
import Derived.Test.YtepohfmphgbknaaRdF
set_option linter.unusedSimpArgs false
set_option linter.unusedVariables false
namespace Go.Proofs.Ytepohfmphgbknaa
open Go Go.Ve
set_option maxRecDepth 20000
@[simp] theorem getF_fieldC : ∀ l : FL, getF (fieldC l) = l
  | [] => rfl
  | a :: r => by
    show getF (.str a.1 :: .str a.2 :: fieldC r) = _
    rw [getF, getF_fieldC r]
@[simp] theorem getS_ts : ∀ l : LL, getS (ts l) = l
  | [] => rfl
  | a :: r => by
    show getS (.str a :: ts r) = _
    rw [getS, getS_ts r]
/-- Which fields a slice holds; what that wants. -/
def fldOk (vs : List AV) (n : Nat) : Prop := vs = fieldC (getF vs) ∧ n ≤ (getF vs).length ∧ totL ((getF vs).take n) ≤ 274877906944
def fldT (vs : List AV) (n : Nat) : FL := (getF vs).take n
def fldsAt (x : AV) (H : AH) : Option (Prop × FL) :=
  match x with
  | .nilsl => some (True, [])
  | .slz => some (True, [])
  | .sl b 0 n _ _ => match H[b]? with
    | some (.cells vs _ _) => some (fldOk vs n, fldT vs n)
    | _ => none
  | _ => none
@[simp] theorem fldT_at (l r : FL) : fldT (fieldC (l ++ r)) l.length = l := by simp [fldT]
@[simp] theorem fldOk_at (l r : FL) : fldOk (fieldC (l ++ r)) l.length = (totL l ≤ 274877906944) := by simp [fldOk]
theorem fldOk_ex {vs : List AV} {n : Nat} (h : fldOk vs n) : ∃ r, vs = fieldC (fldT vs n ++ r) ∧ n = (fldT vs n).length ∧ totL (fldT vs n) ≤ 274877906944 := by
  refine ⟨(getF vs).drop n, ?_, ?_, h.2.2⟩
  · unfold fldT; rw [List.take_append_drop]; exact h.1
  · unfold fldT; rw [List.length_take]; have := h.2.1; omega
noncomputable def eAll : SpecE := fun args H =>
  match args with
  | [.nilsl, .str _] => some (.ok .nilsl none)
  | [.slz, .str _] => some (.ok .nilsl none)
  | [.sl b 0 n _ _, .str nm] => match H[b]? with
    | some (.cells vs _ _) => some (.needP (fldOk vs n ∧ le40 nm = true)
        (.br (decide (allF (fldT vs n) nm = [])) (.ok .nilsl none) (.ok (.sl H.length 0 (allF (fldT vs n) nm).length (allF (fldT vs n) nm).length false) (some (H ++ [.cells (ts (allF (fldT vs n) nm)) eT false])))))
    | _ => none
  | _ => none
theorem eAll_ok : EntryOk Try.prog 12 eAll := by
  intro args H sr hs K hk
  unfold eAll at hs
  split at hs
  · rename_i nm
    cases hs
    refine (SC.flat (K := fun v' H' => v' = .nilsl ∧ H' = H) (SC.one (V := VL1) names0 mixed0 TL1_ok noO_ok (allN_vc nm)) rfl ?_).mono ?_
    · rintro v0 T ⟨rfl, rfl⟩; exact ⟨(fun k hk => by cases hk), rfl, by simp⟩
    · rintro v H' ⟨rfl, rfl⟩; exact ⟨none, hk, rfl⟩
  · rename_i nm
    cases hs
    refine (SC.flat (K := fun v' H' => v' = .nilsl ∧ H' = H) (SC.one (V := VL1) names0 mixed0 TL1_ok noO_ok (allZ_vc nm)) rfl ?_).mono ?_
    · rintro v0 T ⟨rfl, rfl⟩; exact ⟨(fun k hk => by cases hk), rfl, by simp⟩
    · rintro v H' ⟨rfl, rfl⟩; exact ⟨none, hk, rfl⟩
  · rename_i b n c ex nm
    split at hs
    · rename_i vs e ro hb
      cases hs
      obtain ⟨⟨g1, g4⟩, h2⟩ := hk
      obtain ⟨q1, q2⟩ := cond_dec h2
      obtain ⟨r, h1, hl, h3⟩ := fldOk_ex g1
      generalize fldT vs n = l at *
      subst h1
      subst hl
      have hsc : SC Try.prog 12 [.sl 0 0 l.length c ex, .str nm] [.cells (fieldC (l ++ r)) e ro] (outE (outA l r nm e ro)) := SC.ofF (V := VL1) names0 mixed0 TL1_ok noO_ok (all_vc l r nm e ro c ex h3 g4)
      refine SC.reads1 (b := b) (H := H) hsc (cells_ren (fieldC_flat _) e ro) (by simp) hb ?_
      rintro v0 H0' ⟨o, ho, x, hx, rfl, rfl⟩
      simp only [outA, List.mem_cons, List.mem_nil_iff, or_false] at ho
      rcases ho with rfl | rfl
      · exact ⟨[], rfl, (fun t ht => by cases ht), none, q1 hx, by simp [chN]⟩
      · refine ⟨[.cells (ts (allF l nm)) eT false], rfl, (fun t ht => by simp at ht; subst ht; exact .inl rfl), _, q2 hx, ?_⟩
        show H ++ [(ABlk.cells (ts (allF l nm)) eT false).ren _] = _
        rw [cells_ren (ts_flat _)]
        rfl
    · cases hs
  · cases hs
theorem TLr_ok : SpecOk Try.prog (tabS [(16, flatE (g1 le40 fun s => .str (lower s)))] noS) := by
  refine tabS_ok (fun p hp => ?_) noS_ok
  simp only [List.mem_cons, List.mem_nil_iff, or_false] at hp
  subst hp
  exact g1_ok (fun _ => rfl) fun s hs => SC.one (V := V0) names0 mixed0 noS_ok noO_ok (lowR_vc s (by have := of_decide_eq_true hs; omega))
theorem gLowT_ok : EntryOk Try.prog 18 (flatE (g1 le40 fun s => .str (lower s))) :=
  g1_ok (fun _ => rfl) fun s hs => lower_sc s (by have := of_decide_eq_true hs; omega)
theorem gLowR_ok : EntryOk Try.prog 16 (flatE (g1 le40 fun s => .str (lower s))) :=
  g1_ok (fun _ => rfl) fun s hs => SC.one (V := V0) names0 mixed0 noS_ok noO_ok (lowR_vc s (by have := of_decide_eq_true hs; omega))
theorem safe_vc (m : List UInt8) : vSafe m := by
  rw [vSafe_eq]
  unfold safeB
  refine cond_intro (fun k1 => ⟨(), trivial, trivial, by rw [k1]; rfl, trivial⟩) fun k1 => cond_intro (fun k2 => ⟨(), trivial, trivial, by rw [k1, k2]; rfl, trivial⟩) fun k2 => cond_intro (fun k3 => ⟨(), trivial, trivial, by rw [k1, k2, k3]; rfl, trivial⟩) fun k3 => cond_intro (fun k4 => ⟨(), trivial, trivial, by rw [k1, k2, k3, k4]; rfl, trivial⟩) fun k4 => ⟨(), trivial, trivial, by rw [k1, k2, k3, k4]; rfl, trivial⟩
def gSafe (args : List AV) : Option (Bool × AV) := match args with | [.str m] => some (true, .bool (safeB m)) | _ => none
theorem gSafe_ok : EntryOk Try.prog 10 (flatE gSafe) := by
  refine flatE_ok fun args b v hg hb => ?_
  unfold gSafe at hg
  split at hg
  · rename_i m
    cases hg
    refine ⟨rfl, rfl, (SC.ofF (V := VPl) names0 mixed0 noS_ok noO_ok (safe_vc m)).mono fun v H h => ?_⟩
    obtain ⟨_, _, h1, h2⟩ := outE_one h
    exact ⟨h1, h2⟩
  · cases hg
theorem few_no {l : FL} {x : Nat} (hx : x < l.length) (h : ¬ ((fld l x).1.length ≤ 300 ∧ (fld l x).2.length ≤ 300)) : false = fewB l := by
  unfold fewB
  cases hb : l.all fun f => decide (f.1.length ≤ 300) && decide (f.2.length ≤ 300) with
  | false => rw [Bool.and_false]
  | true =>
    have := List.all_eq_true.1 hb _ (fld_mem hx)
    rw [and_t] at this
    exact absurd ⟨of_decide_eq_true this.1, of_decide_eq_true this.2⟩ h
theorem few_yes {l : FL} (h : ∀ j, j < l.length → (fld l j).1.length ≤ 300 ∧ (fld l j).2.length ≤ 300) : leI (ic l.length) 30 = fewB l := by
  have ha : (l.all fun f => decide (f.1.length ≤ 300) && decide (f.2.length ≤ 300)) = true := by
    refine List.all_eq_true.2 fun f hf => ?_
    obtain ⟨j, hj, rfl⟩ := List.getElem_of_mem hf
    have h1 := h j hj
    have e : fld l j = l[j] := by unfold fld; rw [List.getD_eq_getElem?_getD, List.getElem?_eq_getElem hj]; rfl
    rw [e] at h1
    rw [and_t]
    exact ⟨decide_eq_true h1.1, decide_eq_true h1.2⟩
  unfold fewB
  rw [ha, Bool.and_true]
  cases hd : decide (l.length ≤ 30) with
  | true => rw [leI_t]; have := of_decide_eq_true hd; show (l.length : Int) ≤ 30; omega
  | false => rw [leI_f]; have := of_decide_eq_false hd; show (30 : Int) < (l.length : Int); omega
theorem fc_get (l r : FL) {x : Nat} (hx : x < l.length) : (fieldC (l ++ r))[0 + x * 2 + 0]? = some (AV.str (fld l x).fst) ∧ (fieldC (l ++ r))[0 + x * 2 + 1]? = some (AV.str (fld l x).snd) := by
  have h := fieldC_drop (l ++ r) x (by rw [List.length_append]; omega)
  rw [fld_app _ _ _ hx] at h
  have h0 := congrArg (fun q => q[0]?) h
  have h1 := congrArg (fun q => q[1]?) h
  simp only [List.getElem?_take, List.getElem?_drop] at h0 h1
  exact ⟨by simpa using h0, by simpa using h1⟩
theorem F_ok (σ : Nat → Nat) (l : FL) (e : Nat) (ro : Bool) : (bif e.beq e && sameB ro ro then cellsP σ (fieldC l) (fieldC l) ∧ True else False) := by
  rw [Nat.beq_refl, sameB_self]
  exact ⟨cells_refl (fieldC_flat _), trivial⟩
theorem few_vc (l r : FL) (e : Nat) (ro : Bool) (c : Nat) (ex : Bool) (hl : l.length ≤ 9223372036854775807) : vFew l r e ro c ex := by
  rw [vFew_eq]
  refine ⟨⟨0, ⟨Nat.zero_le _, fun j hj => absurd hj (Nat.not_lt_zero _)⟩, ⟨F_ok _ _ _ _, trivial⟩, rfl, trivial⟩, fun x hx => cond_intro (fun k => ?_) fun k => ?_⟩
  · have k0 := k
    rw [ltI_t] at k
    have k : x < l.length := Int.ofNat_lt.1 k
    refine need_intro k0 ⟨(fc_get l r k).1, cond_intro (fun c1 => ⟨(), trivial, ⟨F_ok _ _ _ _, trivial⟩, few_no k ?_, trivial⟩) fun c1 => need_intro k0 ⟨(fc_get l r k).2, cond_intro (fun c2 => ⟨(), trivial, ⟨F_ok _ _ _ _, trivial⟩, few_no k ?_, trivial⟩) fun c2 => need_intro (by rw [leI_t]; show (x : Int) + 1 ≤ _; omega) ⟨x + 1, ⟨k, fun j hj => ?_⟩, by omega, ⟨F_ok _ _ _ _, trivial⟩, rfl, trivial⟩⟩⟩
    · rw [ltI_t] at c1
      have c1 : (300 : Int) < ((fld l x).1.length : Int) := c1
      omega
    · rw [ltI_t] at c2
      have c2 : (300 : Int) < ((fld l x).2.length : Int) := c2
      omega
    · rw [ltI_f] at c1 c2
      have c1 : ((fld l x).1.length : Int) ≤ 300 := c1
      have c2 : ((fld l x).2.length : Int) ≤ 300 := c2
      rcases Nat.lt_or_ge j x with h | h
      · exact hx.2 j h
      · have : j = x := by omega
        subst this; omega
  · rw [ltI_f] at k
    have k : l.length ≤ x := Int.ofNat_le.1 k
    exact ⟨(), trivial, ⟨F_ok _ _ _ _, trivial⟩, few_yes fun j hj => hx.2 j (by omega), trivial⟩
noncomputable def eFew : SpecE := fun args H =>
  match args with
  | [.nilsl] => some (.ok (.bool true) none)
  | [.slz] => some (.ok (.bool true) none)
  | [.sl b 0 n _ _] => match H[b]? with
    | some (.cells vs _ _) => some (.needP (vs = fieldC (getF vs) ∧ n ≤ (getF vs).length ∧ n ≤ 9223372036854775807) (.ok (.bool (fewB ((getF vs).take n))) none))
    | _ => none
  | _ => none
structure HoldsD (p : Prop) : Prop where
  h : p
theorem fewN_vc : HoldsD vFewN := by refine ⟨?_⟩; rw [vFewN_eq]; exact ⟨(), trivial, trivial, rfl, trivial⟩
theorem fewZ_vc : HoldsD vFewZ := by refine ⟨?_⟩; rw [vFewZ_eq]; exact ⟨(), trivial, trivial, rfl, trivial⟩
theorem eFew_ok : EntryOk Try.prog 5 eFew := by
  intro args H sr hs K hk
  unfold eFew at hs
  split at hs
  · cases hs
    refine (SC.flat (K := fun v' H' => v' = .bool true ∧ H' = H) (SC.one (V := V0) names0 mixed0 noS_ok noO_ok fewN_vc.h) rfl ?_).mono ?_
    · rintro v0 T ⟨rfl, rfl⟩; exact ⟨(fun k hk => by cases hk), rfl, by simp⟩
    · rintro v H' ⟨rfl, rfl⟩; exact ⟨none, hk, rfl⟩
  · cases hs
    refine (SC.flat (K := fun v' H' => v' = .bool true ∧ H' = H) (SC.one (V := V0) names0 mixed0 noS_ok noO_ok fewZ_vc.h) rfl ?_).mono ?_
    · rintro v0 T ⟨rfl, rfl⟩; exact ⟨(fun k hk => by cases hk), rfl, by simp⟩
    · rintro v H' ⟨rfl, rfl⟩; exact ⟨none, hk, rfl⟩
  · rename_i b n c ex
    split at hs
    · rename_i vs e ro hb
      cases hs
      obtain ⟨⟨g1, g2, g3⟩, h2⟩ := hk
      have hsplit : vs = fieldC ((getF vs).take n ++ (getF vs).drop n) := by rw [List.take_append_drop]; exact g1
      have hn : n = ((getF vs).take n).length := by rw [List.length_take]; omega
      generalize (getF vs).take n = l at *
      generalize (getF vs).drop n = r at *
      subst hn
      rw [hsplit] at hb
      have hsc := SC.ofF (V := V0) names0 mixed0 noS_ok noO_ok (few_vc l r e ro c ex g3)
      refine SC.reads1 (b := b) (H := H) hsc (cells_ren (fieldC_flat _) e ro) (by simp) hb ?_
      intro v0 H0' ho
      obtain ⟨_, _, rfl, rfl⟩ := outE_one ho
      exact ⟨[], rfl, (fun t ht => by cases ht), none, h2, by simp [chN]⟩
    · cases hs
  · cases hs
end Go.Proofs.Ytepohfmphgbknaa

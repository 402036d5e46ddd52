/- What the layer of fields and Go's library answer, in any memory: entries. -/
import Derived.Test.YtciciemaldbidaaGreatDoorField
import Derived.Test.YtciciemaldbidaaGreatDoorShelf
import Derived.Lib.SmallJoins
set_option linter.unusedSimpArgs false
set_option linter.unusedVariables false
namespace Go.Proofs.YtciciemaldbidaaGreatDoor
open Go Go.Ve Go.RowKit
set_option maxRecDepth 20000
@[simp] theorem getF_fieldC : ∀ l : FL, getF (fieldC l) = l
  | [] => rfl
  | a :: r => by
    show getF (.str a.1 :: .str a.2 :: fieldC r) = _
    rw [getF, getF_fieldC r]
@[simp] theorem getS_ts : ∀ l : LL, getS (ts l) = l
  | [] => rfl
  | a :: r => by
    show getS (.str a :: ts r) = _
    rw [getS, getS_ts r]
def fldOk (vs : List AV) (n : Nat) : Prop := vs = fieldC (getF vs) ∧ n ≤ (getF vs).length ∧ totL ((getF vs).take n) ≤ 274877906944
def fldT (vs : List AV) (n : Nat) : FL := (getF vs).take n
@[simp] theorem fldT_at (l r : FL) : fldT (fieldC (l ++ r)) l.length = l := by simp [fldT]
@[simp] theorem fldOk_at (l r : FL) : fldOk (fieldC (l ++ r)) l.length = (totL l ≤ 274877906944) := by simp [fldOk]
theorem fldOk_ex {vs : List AV} {n : Nat} (h : fldOk vs n) : ∃ r, vs = fieldC (fldT vs n ++ r) ∧ n = (fldT vs n).length ∧ totL (fldT vs n) ≤ 274877906944 := by
  refine ⟨(getF vs).drop n, ?_, ?_, h.2.2⟩
  · unfold fldT; rw [List.take_append_drop]; exact h.1
  · unfold fldT; rw [List.length_take]; have := h.2.1; omega
noncomputable def eAll : SpecE := fun args H =>
  match args with
  | [.nilsl, .str _] => some (.ok .nilsl none)
  | [.slz, .str _] => some (.ok .nilsl none)
  | [.sl b 0 n _ _, .str nm] => match H[b]? with
    | some (.cells vs _ _) => some (.needP (fldOk vs n ∧ le40 nm = true)
        (.br (decide (allF (fldT vs n) nm = [])) (.ok .nilsl none) (.ok (.sl H.length 0 (allF (fldT vs n) nm).length (allF (fldT vs n) nm).length false) (some (H ++ [.cells (ts (allF (fldT vs n) nm)) eT false])))))
    | _ => none
  | _ => none
theorem eAll_ok : EntryOk Tryz.prog 26 eAll := by
  intro args H sr hs K hk
  unfold eAll at hs
  split at hs
  · rename_i nm
    cases hs
    refine (SC.flat (K := fun v' H' => v' = .nilsl ∧ H' = H) (SC.one (V := VL1) names0 mixed0 TL1_ok noO_ok (allN_vc nm)) rfl ?_).mono ?_
    · rintro v0 T ⟨rfl, rfl⟩; exact ⟨(fun k hk => by cases hk), rfl, by simp⟩
    · rintro v H' ⟨rfl, rfl⟩; exact ⟨none, hk, rfl⟩
  · rename_i nm
    cases hs
    refine (SC.flat (K := fun v' H' => v' = .nilsl ∧ H' = H) (SC.one (V := VL1) names0 mixed0 TL1_ok noO_ok (allZ_vc nm)) rfl ?_).mono ?_
    · rintro v0 T ⟨rfl, rfl⟩; exact ⟨(fun k hk => by cases hk), rfl, by simp⟩
    · rintro v H' ⟨rfl, rfl⟩; exact ⟨none, hk, rfl⟩
  · rename_i b n c ex nm
    split at hs
    · rename_i vs e ro hb
      cases hs
      obtain ⟨⟨g1, g4⟩, h2⟩ := hk
      obtain ⟨q1, q2⟩ := cond_dec h2
      obtain ⟨r, h1, hl, h3⟩ := fldOk_ex g1
      generalize fldT vs n = l at *
      subst h1
      subst hl
      have hsc : SC Tryz.prog 26 [.sl 0 0 l.length c ex, .str nm] [.cells (fieldC (l ++ r)) e ro] (outE (outA l r nm e ro)) := SC.ofF (V := VL1) names0 mixed0 TL1_ok noO_ok (all_vc l r nm e ro c ex h3 g4)
      refine SC.reads1 (b := b) (H := H) hsc (cells_ren (fieldC_flat _) e ro) (by simp) hb ?_
      rintro v0 H0' ⟨o, ho, x, hx, rfl, rfl⟩
      simp only [outA, List.mem_cons, List.mem_nil_iff, or_false] at ho
      rcases ho with rfl | rfl
      · exact ⟨[], rfl, (fun t ht => by cases ht), none, q1 hx, by simp [chN]⟩
      · refine ⟨[.cells (ts (allF l nm)) eT false], rfl, (fun t ht => by simp at ht; subst ht; exact .inl rfl), _, q2 hx, ?_⟩
        show H ++ [(ABlk.cells (ts (allF l nm)) eT false).ren _] = _
        rw [cells_ren (ts_flat _)]
        rfl
    · cases hs
  · cases hs
noncomputable def eSplit : SpecE := fun args H =>
  match args with
  | [.str s] => some (.need (le40 s) (.br (decide (split s = [])) (.ok .nilsl none) (.ok (.sl H.length 0 (split s).length (split s).length false) (some (H ++ [.cells (ts (split s)) eT false])))))
  | _ => none
theorem eSplit_ok : EntryOk Tryz.prog 38 eSplit := by
  intro args H sr hs K hk
  unfold eSplit at hs
  split at hs
  · rename_i s
    cases hs
    obtain ⟨h1, h2⟩ := cond_need hk
    obtain ⟨q1, q2⟩ := cond_dec h2
    refine SC.flat (split_sc s (of_decide_eq_true h1)) rfl ?_
    rintro v0 T ⟨o, ho, x, hx, rfl, rfl⟩
    simp only [outT, List.mem_cons, List.mem_nil_iff, or_false] at ho
    rcases ho with rfl | rfl
    · exact ⟨(fun k hk => by cases hk), none, q1 hx, by simp [chN]⟩
    · refine ⟨(fun k hk => by simp at hk; subst hk; exact .inl rfl), _, q2 hx, ?_⟩
      show H ++ [(ABlk.cells (ts (split s)) eT false).ren _] = _
      rw [cells_ren (ts_flat _)]
      rfl
  · cases hs
def joinF (ls : LL) (sep : List UInt8) : List UInt8 := Lib.join ls sep
noncomputable def eJoin : SpecE := fun args H =>
  match args with
  | [.nilsl, .str _] => some (.ok (.str []) none)
  | [.sl b 0 n c _, .str sep] => match H[b]? with
    | some (.cells vs _ _) => some (.needP (vs = ts (getS vs) ∧ n ≤ (getS vs).length ∧ n ≤ c ∧ n ≤ 140737488355328 ∧ (joinF ((getS vs).take n) sep).length ≤ 140737488355328) (.ok (.str (joinF ((getS vs).take n) sep)) none))
    | _ => none
  | _ => none
theorem eJoin_ok : EntryOk Tryz.prog 28 eJoin := by
  intro args H sr hs K hk
  unfold eJoin at hs
  split at hs
  · rename_i sep
    cases hs
    refine (SC.under (v := .str []) ?_).mono ?_
    · intro w0 φ w us hr ha
      obtain ⟨us⟩ := us
      cases ha with | cons h1 h2 => cases h1; cases h2 with | cons h3 h4 => cases h3; cases h4; (
        refine (Tryz.strings_Join_none none 0 _ w).mono ?_
        rintro e w' ⟨rfl, rfl⟩
        exact ⟨_, rfl, .str [], Below.refl _ _⟩)
    · rintro v H' ⟨rfl, rfl⟩; exact ⟨none, hk, rfl⟩
  · rename_i b n c ex sep
    split at hs
    · rename_i vs e ro hb
      cases hs
      obtain ⟨⟨g1, g2, g3, g4, g5⟩, h2⟩ := hk
      refine (SC.under (v := .str (joinF ((getS vs).take n) sep)) ?_).mono ?_
      · intro w0 φ w us hr ha
        obtain ⟨us⟩ := us
        cases ha with | cons h1 h2 => cases h1 with | sl hl => cases h2 with | cons h3 h4 => cases h3; cases h4; (
          rename_i l
          have hlen : (((getS vs).take n).map fun s : List UInt8 => (⟨⟨s⟩⟩ : ByteArray)).length = n := by rw [List.length_map, List.length_take]; omega
          have hmap : (((getS vs).take n).map fun s : List UInt8 => (⟨⟨s⟩⟩ : ByteArray)).map (·.data.toList) = (getS vs).take n := by simp [List.map_map, Function.comp_def]
          have := Tryz.strings_Join l.blk (l.sh + 0) (c + if ex then 0 else l.slk) (((getS vs).take n).map fun s => ⟨⟨s⟩⟩) ⟨⟨sep⟩⟩ w (fun j x hx => by
            rw [List.getElem?_map, Option.map_eq_some_iff] at hx
            obtain ⟨s, hs, rfl⟩ := hx
            have hj : vs[j]? = some (.str s) := by
              have hjn : j < n := by
                have := (List.getElem?_eq_some_iff.1 hs).1
                rw [List.length_take] at this; omega
              rw [List.getElem?_take_of_lt hjn] at hs
              rw [g1, ts, List.getElem?_map, hs]; rfl
            obtain ⟨u, hu, hc⟩ := hr.cell hb hl hj
            cases hu
            exact hc) (hr.blk_lt hb (by simp) hl) (by rw [hlen]; exact g4) (by rw [hlen]; omega) (by rw [hmap]; exact g5)
          rw [hlen, hmap] at this
          refine this.mono ?_
          rintro e w' ⟨rfl, hbl⟩
          exact ⟨_, rfl, .str _, hbl⟩)
      · rintro v H' ⟨rfl, rfl⟩; exact ⟨none, h2, rfl⟩
    · cases hs
  · cases hs
end Go.Proofs.YtciciemaldbidaaGreatDoor

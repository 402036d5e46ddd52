/- The law EtagLists: what its calls answer, all but the chapter's example. -/
import Derived.Test.YtiobbjbodpkpjaaGreatDoorLists2
set_option linter.unusedSimpArgs false
set_option linter.unusedVariables false
namespace Go.Proofs.YtiobbjbodpkpjaaGreatDoor
open Go Go.Ve
set_option maxRecDepth 20000
/-- A call that reads one block of flat cells and makes new ones. -/
theorem SC.read1n {P : Program} {f : FuncId} {args0 : List AV} {k : ABlk} {K0 K : AV → AH → Prop} (h : SC P f args0 [k] K0) (hk : ∀ ρ, k.ren ρ = k) (hd : k ≠ .dead) {H : AH} {b : Nat} (hb : H[b]? = some k)
    (hK : ∀ v0 H0', K0 v0 H0' → ∃ T, H0' = k :: T ∧ (∀ t ∈ T, t.own = true ∨ t = .dead) ∧ K (v0.ren (upN [b] 1 H.length)) (H ++ T.map (ABlk.ren (upN [b] 1 H.length)))) :
    SC P f (AV.rens (rn [b] H.length) args0) H K := by
  have hlt : b < H.length := (List.getElem?_eq_some_iff.1 hb).1
  refine SC.frame h ⟨rfl, (fun i hi => by simp at hi; subst hi; exact hlt), (by simp), (fun i k' hk' => ?_)⟩ ?_
  · cases i with
    | zero =>
      simp at hk'
      subst hk'
      refine ⟨b, k, rfl, hb, ⟨fun w0 φ φ' w l _ hp hbr => ?_, fun h => h⟩, rfl, hd, hd⟩
      rw [← hk (rn [b] H.length)] at hbr
      exact hbr.unren hp
    | succ i => simp at hk'
  · intro v0 H0' h0
    obtain ⟨T, rfl, hT, hKT⟩ := hK v0 H0' h0
    refine ⟨H ++ T.map (ABlk.ren (upN [b] 1 H.length)), ⟨by simp, by simp, fun b' hb' _ => List.getElem?_append_left hb', fun i b' hi => ?_, fun i k' hi hk' => ?_⟩, hKT⟩
    · cases i with
      | zero =>
        simp at hi
        subst hi
        refine .inl ⟨k, rfl, by rw [hk, List.getElem?_append_left hlt]; exact hb, fun ho => .inr ⟨k, hb, ho, hd⟩⟩
      | succ i => simp at hi
    · cases i with
      | zero => simp at hi
      | succ i =>
        simp at hk'
        refine ⟨?_, hT k' (List.mem_of_getElem? hk')⟩
        rw [show H.length + (i + 1 - [k].length) = H.length + i by simp, List.getElem?_append_right (by omega), Nat.add_sub_cancel_left, List.getElem?_map, hk']
        rfl
theorem strsOf_ts : ∀ {vs : List AV} {ls : LL}, strsOf vs = some ls → vs = ts ls
  | [], ls, h => by simp [strsOf] at h; subst h; rfl
  | v :: vs, ls, h => by
    unfold strsOf at h
    split at h
    · cases ‹v :: vs = []›
    · rename_i s r e
      cases e
      split at h
      · rename_i l hl
        cases h
        rw [strsOf_ts hl]; rfl
      · cases h
    · cases h
theorem tagsOk_iff (ls : LL) : tagsOk ls = true ↔ partsF ls ≠ [] ∧ ∀ p ∈ partsF ls, pE p = 0 := by
  unfold tagsOk
  simp [eqI_eq]
theorem eTags_ok : EntryOk Tryz.prog 8 eTags := by
  intro args H sr hs K hk
  unfold eTags at hs
  split at hs
  · rename_i b n n'
    split at hs
    · rename_i vs hb
      split at hs
      · rename_i ls hls
        split at hs
        · rename_i h1 h2
          cases hs
          obtain rfl := Nat.eq_of_beq_eq_true h1
          obtain rfl := Nat.eq_of_beq_eq_true h2
          rw [strsOf_ts hls] at hb
          obtain ⟨g1, g2⟩ := cond_need hk
          obtain ⟨q1, q2⟩ := cond_dec g2
          have hsc := tags_sc ls (of_decide_eq_true g1)
          refine SC.read1n (b := b) (H := H) hsc (cells_ren (ts_flat _) eS false) (by simp) hb ?_
          rintro v0 H0' ⟨o, ho, x, hx, rfl, rfl⟩
          simp only [outG, List.mem_cons, List.mem_nil_iff, or_false] at ho
          rcases ho with rfl | rfl | rfl
          · exact ⟨[], rfl, (fun t ht => by cases ht), none, q1 hx, by simp [chN]⟩
          · have hf : tagsOk ls = false := by
              cases h : tagsOk ls with
              | false => rfl
              | true =>
                obtain ⟨g3, g4⟩ := (tagsOk_iff ls).1 h
                rcases hx.2 with h5 | ⟨p, hp, h5⟩
                · exact absurd h5 g3
                · exact absurd (g4 p hp) h5
            have := q2 hx.1
            rw [hf] at this
            exact ⟨[], rfl, (fun t ht => by cases ht), none, this, by simp [chN]⟩
          · have ht := (tagsOk_iff ls).2 hx.2
            have := q2 hx.1
            rw [ht] at this
            refine ⟨[.cells (tagC (tagsP (partsF ls))) eG false], rfl, (fun t ht => by simp at ht; subst ht; exact .inl rfl), _, this, ?_⟩
            show H ++ [(ABlk.cells (tagC (tagsP (partsF ls))) eG false).ren _] = _
            rw [cells_ren (tagC_flat _)]
            rfl
        · cases hs
      · cases hs
    · cases hs
  · cases hs
theorem gText_ok : EntryOk Tryz.prog 6 (flatE gText) := by
  refine flatE_ok fun args b v hg hb => ?_
  unfold gText at hg
  split at hg
  · rename_i w s
    cases hg
    exact ⟨rfl, rfl, SC.one (V := V5) names0 mixed0 T4_ok noO_ok (text_vc w s (of_decide_eq_true hb))⟩
  · cases hg
theorem gPick_ok : EntryOk Tryz.prog 5 (flatE gPick) := by
  refine flatE_ok fun args b v hg hb => ?_
  unfold gPick at hg
  split at hg
  · rename_i n m
    cases hg
    rw [Bool.and_eq_true, leI_eq] at hb
    exact ⟨rfl, rfl, SC.one (V := V7) names0 mixed0 noS_ok noO_ok (pick_vc n m hb.1 (of_decide_eq_true hb.2))⟩
  · cases hg
theorem T8_ok (hl : EntryOk Tryz.prog 4 (flatE gLives)) : SpecOk Tryz.prog (tabS T8 noS) := by
  refine tabS_ok (fun p hp => ?_) noS_ok
  simp only [T8, List.mem_cons, List.mem_nil_iff, or_false] at hp
  rcases hp with rfl | rfl | rfl | rfl | rfl
  · exact hl
  · exact gText_ok
  · exact g1_ok (fun _ => rfl) fun s hs => SC.one (V := V7) names0 mixed0 noS_ok noO_ok (backs_vc s (of_decide_eq_true hs))
  · exact gPick_ok
  · exact eTags_ok
/-- A proposition that is not looked into. -/
structure Holds (p : Prop) : Prop where
  h : p
theorem SC.oneH {V : VE} (hP : V.P.funcs.all (fun fn => !(fn.name == "runtime.NumGoroutine")) = true) (hm : V.P.follows .mixedOrders = true) (hS : SpecOk V.P V.sp) (hO : CallOk V.P V.orc) {md : List (Nat × DMode)} {k : Nat} {A : Anns} {hs : List (Nat × AV)} {f : FuncId} {args : List AV} {v : AV} (h : Holds (vcF V md k A hs f args [] (one v))) : SC V.P f args [] (fun v' H' => v' = v ∧ H' = []) := SC.one hP hm hS hO h.h
theorem listsN_H (l : TL) (c : Nat) (cut : Int) : Holds (vListsN l c cut) := by
  constructor
  rw [vListsN_eq]
  simp
theorem listsZ_H (l : TL) (c : Nat) (cut : Int) : Holds (vListsZ l c cut) := by
  constructor
  rw [vListsZ_eq]
  simp
theorem law_nil (hl : EntryOk Tryz.prog 4 (flatE gLives)) (l : TL) (c : Nat) (cut : Int) : SC Tryz.prog 3 [.nilsl, .int .i64 cut] [] fun v _ => v = .bool true :=
  (SC.oneH (V := V8 l c) names0 mixed0 (T8_ok hl) noO_ok (listsN_H l c cut)).mono fun v H h => h.1
theorem law_zero (hl : EntryOk Tryz.prog 4 (flatE gLives)) (l : TL) (c : Nat) (cut : Int) : SC Tryz.prog 3 [.slz, .int .i64 cut] [] fun v _ => v = .bool true :=
  (SC.oneH (V := V8 l c) names0 mixed0 (T8_ok hl) noO_ok (listsZ_H l c cut)).mono fun v H h => h.1
theorem law_at (hl : EntryOk Tryz.prog 4 (flatE gLives)) (l r : TL) (cut : Int) (hc : inK .i64 cut = true) (hx : ∀ t ∈ l, t.2.length ≤ 281474976710656) :
    SC Tryz.prog 3 [.sl 0 0 l.length (l.length + r.length) true, .int .i64 cut] [.cells (tagC (l ++ r)) 0 true] fun v _ => v = .bool true := by
  have hv := lists_vc l r cut hc hx
  unfold vLists at hv
  have h := SC.ofF names0 mixed0 (T8_ok hl) noO_ok hv
  refine h.mono fun v H h => ?_
  obtain ⟨_, _, h1, _⟩ := outE_one h
  exact h1
/-- The law's answer, whatever the arguments. -/
theorem law_sc (hl : EntryOk Tryz.prog 4 (flatE gLives)) (x : SlA (Bool × List UInt8)) (cut : Int) (hc : inK .i64 cut = true) (hx : ∀ t ∈ x.all, t.2.length ≤ 281474976710656) :
    SC Tryz.prog 3 [x.av 0, .int .i64 cut] (x.blk (fun t => [.bool t.1, .str t.2]) 0) fun v _ => v = .bool true := by
  match x, hx with
  | .nil, _ => exact law_nil hl [] 0 cut
  | .zero, _ => exact law_zero hl [] 0 cut
  | .at l r, hx => exact law_at hl l r cut hc fun t ht => hx t (List.mem_append_left _ ht)
end Go.Proofs.YtiobbjbodpkpjaaGreatDoor

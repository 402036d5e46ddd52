/- The law VaryCalls: its contracts joined. -/
import Derived.Test.YtciciemaldbidaaGreatDoorCaA
import Derived.Test.YtciciemaldbidaaGreatDoorRNm
set_option linter.unusedSimpArgs false
set_option linter.unusedVariables false
namespace Go.Proofs.YtciciemaldbidaaGreatDoor
open Go Go.Ve
set_option maxRecDepth 20000
theorem TRn_ok : SpecOk Tryz.prog (tabS TRn noS) := by
  refine tabS_ok (fun p hp => ?_) noS_ok
  simp only [TRn, List.mem_cons, List.mem_nil_iff, or_false] at hp
  rcases hp with rfl | rfl
  · exact eListR_ok
  · exact g1_ok (fun _ => rfl) fun s hs => SC.one (V := V0) names0 mixed0 noS_ok noO_ok (lowR_vc s (by have := of_decide_eq_true hs; omega))
theorem eNmR_ok : EntryOk Tryz.prog 8 eNmR := by
  intro args H sr hs K hk
  unfold eNmR at hs
  split at hs
  · cases hs
    refine (SC.flat (K := fun v' H' => v' = .tuple [.nilsl, .bool false] ∧ H' = H) (SC.one (V := VRn) names0 mixed0 TRn_ok noO_ok rnN_vc) rfl ?_).mono ?_
    · rintro v0 T ⟨rfl, rfl⟩; exact ⟨(fun k hk => by cases hk), rfl, by simp⟩
    · rintro v H' ⟨rfl, rfl⟩; exact ⟨none, hk, rfl⟩
  · rename_i b n c ex
    split at hs
    · rename_i vs e ro hb
      cases hs
      obtain ⟨g1, h2⟩ := hk
      have h2' : SR.run noC noR H K (.br (decide (starN ∈ listF (fldT vs n) varyN)) (.ok (.tuple [.nilsl, .bool true]) none) _) := h2
      obtain ⟨q1, q2⟩ := cond_dec h2'
      clear h2'
      obtain ⟨r, h1, hl, h3⟩ := fldOk_ex g1
      generalize fldT vs n = l at *
      subst h1
      subst hl
      have hsc : SC Tryz.prog 8 [.sl 0 0 l.length c ex] [.cells (fieldC (l ++ r)) e ro] (outE (outRn l r (listF l varyN) e ro)) := SC.ofF (V := VRn) names0 mixed0 TRn_ok noO_ok (rn_vc l r e ro c ex h3)
      refine SC.reads1 (b := b) (H := H) hsc (cells_ren (fieldC_flat _) e ro) (by simp) hb ?_
      rintro v0 H0' ⟨o, ho, x, hx, rfl, rfl⟩
      simp only [outRn, List.mem_cons, List.mem_nil_iff, or_false] at ho
      rcases ho with rfl | rfl | rfl
      · exact ⟨[], rfl, (fun t ht => by cases ht), none, q1 hx, by simp [chN]⟩
      · by_cases hs : starN ∈ listF l varyN
        · have : listF l varyN = [] := hx
          rw [this] at hs; cases hs
        · obtain ⟨p1, _⟩ := cond_dec (q2 hs)
          exact ⟨[], rfl, (fun t ht => by cases ht), none, p1 hx, by simp [chN]⟩
      · obtain ⟨_, p2⟩ := cond_dec (q2 hx.1)
        refine ⟨[.cells (ts (nmsL (listF l varyN))) eT false], rfl, (fun t ht => by simp at ht; subst ht; exact .inl rfl), _, p2 hx.2, ?_⟩
        show H ++ [(ABlk.cells (ts (nmsL (listF l varyN))) eT false).ren _] = _
        rw [cells_ren (ts_flat _)]
        rfl
    · cases hs
  · cases hs
theorem TCa_ok : SpecOk Tryz.prog (tabS TCa noS) := by
  refine tabS_ok (fun p hp => ?_) noS_ok
  simp only [TCa, List.mem_cons, List.mem_nil_iff, or_false] at hp
  rcases hp with rfl | rfl | rfl | rfl | rfl | rfl | rfl | rfl | rfl | rfl | rfl | rfl | rfl | rfl
  · exact gLiv12_ok
  · exact eLit20_ok
  · exact eLtT_ok
  · exact eNames_ok
  · exact eNmR_ok
  · exact eVal_ok
  · exact eValR_ok
  · exact eSm_ok
  · exact eMat_ok
  · exact eMatR_ok
  · exact eKey_ok
  · exact eKeyR_ok
  · exact gPr_ok
  · exact gPrR_ok
abbrev AnsC (args : List AV) (H : AH) : Prop := SC Tryz.prog 3 args H fun v _ => v = .bool true
theorem ansCN {args : List AV} {H : AH} (h : Holds2 (vcF VCaN [(10, .quiet)] 300 [] [] 3 args H [⟨Unit, fun _ => .bool true, fun _ => H, fun _ => True, gcB⟩])) : AnsC args H :=
  (SC.ofH2 (V := VCaN) names0 mixed0 TCa_ok noO_ok h).mono fun v H h => by obtain ⟨_, _, h1, _⟩ := outE_one h; exact h1
theorem ansCA {args : List AV} {H : AH} {A : Anns} (h : Holds2 (vcF VCaA [(10, .quiet)] 300 A [] 3 args H [⟨Unit, fun _ => .bool true, fun _ => H, fun _ => True, gcB⟩])) : AnsC args H :=
  (SC.ofH2 (V := VCaA) names0 mixed0 TCa_ok noO_ok h).mono fun v H h => by obtain ⟨_, _, h1, _⟩ := outE_one h; exact h1
theorem calls_NNN (fT aT : List AV) (ho pa : List UInt8) (hT : utf8T fT aT) : AnsC [.nilsl, .nilsl, .nilsl, .str ho, .str pa] [gFst fT, gAcc aT, gPow powF, .cells [] 0 true, .cells [] 0 true, .cells [] 0 true] := ansCN (caNNN_vc fT aT ho pa hT)
theorem calls_NAN (fT aT : List AV) (ho pa : List UInt8) (fb rb : FL) (hT : utf8T fT aT) (hB : ∀ f ∈ fb, f.1.length ≤ 281474976710656 ∧ f.2.length ≤ 281474976710656) : AnsC [.nilsl, .sl 4 0 fb.length (fb.length + rb.length) true, .nilsl, .str ho, .str pa] [gFst fT, gAcc aT, gPow powF, .cells [] 0 true, .cells (fieldC (fb ++ rb)) 0 true, .cells [] 0 true] := ansCN (caNAN_vc fT aT ho pa fb rb hT hB)
theorem calls_ANN (fT aT : List AV) (ho pa : List UInt8) (fa ra : FL) (hT : utf8T fT aT) (hA : ∀ f ∈ fa, f.1.length ≤ 281474976710656 ∧ f.2.length ≤ 281474976710656) : AnsC [.sl 3 0 fa.length (fa.length + ra.length) true, .nilsl, .nilsl, .str ho, .str pa] [gFst fT, gAcc aT, gPow powF, .cells (fieldC (fa ++ ra)) 0 true, .cells [] 0 true, .cells [] 0 true] := ansCN (caANN_vc fT aT ho pa fa ra hT hA)
theorem calls_AAN (fT aT : List AV) (ho pa : List UInt8) (fa ra : FL) (fb rb : FL) (hT : utf8T fT aT) (hA : ∀ f ∈ fa, f.1.length ≤ 281474976710656 ∧ f.2.length ≤ 281474976710656) (hB : ∀ f ∈ fb, f.1.length ≤ 281474976710656 ∧ f.2.length ≤ 281474976710656) : AnsC [.sl 3 0 fa.length (fa.length + ra.length) true, .sl 4 0 fb.length (fb.length + rb.length) true, .nilsl, .str ho, .str pa] [gFst fT, gAcc aT, gPow powF, .cells (fieldC (fa ++ ra)) 0 true, .cells (fieldC (fb ++ rb)) 0 true, .cells [] 0 true] := ansCN (caAAN_vc fT aT ho pa fa ra fb rb hT hA hB)
theorem calls_NNA (fT aT : List AV) (ho pa : List UInt8) (l r : LL) (hT : utf8T fT aT) (hl : ∀ s ∈ l, s.length ≤ 281474976710656) : AnsC [.nilsl, .nilsl, .sl 5 0 l.length (l.length + r.length) true, .str ho, .str pa] [gFst fT, gAcc aT, gPow powF, .cells [] 0 true, .cells [] 0 true, .cells (ts (l ++ r)) 0 true] := ansCA (caNNA_vc fT aT ho pa l r hT hl)
theorem calls_NAA (fT aT : List AV) (ho pa : List UInt8) (fb rb : FL) (l r : LL) (hT : utf8T fT aT) (hB : ∀ f ∈ fb, f.1.length ≤ 281474976710656 ∧ f.2.length ≤ 281474976710656) (hl : ∀ s ∈ l, s.length ≤ 281474976710656) : AnsC [.nilsl, .sl 4 0 fb.length (fb.length + rb.length) true, .sl 5 0 l.length (l.length + r.length) true, .str ho, .str pa] [gFst fT, gAcc aT, gPow powF, .cells [] 0 true, .cells (fieldC (fb ++ rb)) 0 true, .cells (ts (l ++ r)) 0 true] := ansCA (caNAA_vc fT aT ho pa fb rb l r hT hB hl)
theorem calls_ANA (fT aT : List AV) (ho pa : List UInt8) (fa ra : FL) (l r : LL) (hT : utf8T fT aT) (hA : ∀ f ∈ fa, f.1.length ≤ 281474976710656 ∧ f.2.length ≤ 281474976710656) (hl : ∀ s ∈ l, s.length ≤ 281474976710656) : AnsC [.sl 3 0 fa.length (fa.length + ra.length) true, .nilsl, .sl 5 0 l.length (l.length + r.length) true, .str ho, .str pa] [gFst fT, gAcc aT, gPow powF, .cells (fieldC (fa ++ ra)) 0 true, .cells [] 0 true, .cells (ts (l ++ r)) 0 true] := ansCA (caANA_vc fT aT ho pa fa ra l r hT hA hl)
theorem calls_AAA (fT aT : List AV) (ho pa : List UInt8) (fa ra : FL) (fb rb : FL) (l r : LL) (hT : utf8T fT aT) (hA : ∀ f ∈ fa, f.1.length ≤ 281474976710656 ∧ f.2.length ≤ 281474976710656) (hB : ∀ f ∈ fb, f.1.length ≤ 281474976710656 ∧ f.2.length ≤ 281474976710656) (hl : ∀ s ∈ l, s.length ≤ 281474976710656) : AnsC [.sl 3 0 fa.length (fa.length + ra.length) true, .sl 4 0 fb.length (fb.length + rb.length) true, .sl 5 0 l.length (l.length + r.length) true, .str ho, .str pa] [gFst fT, gAcc aT, gPow powF, .cells (fieldC (fa ++ ra)) 0 true, .cells (fieldC (fb ++ rb)) 0 true, .cells (ts (l ++ r)) 0 true] := ansCA (caAAA_vc fT aT ho pa fa ra fb rb l r hT hA hB hl)
end Go.Proofs.YtciciemaldbidaaGreatDoor

/- The document's comparison of lists, told for any memory. -/
import Derived.Test.YtainjcpocodehaaScV
import Derived.Test.YtainjcpocodehaaScW
import Derived.Test.YtainjcpocodehaaSe
set_option linter.unusedSimpArgs false
set_option linter.unusedVariables false
namespace Go.Proofs.Ytainjcpocodehaa
open Go Go.Ve
set_option maxRecDepth 20000
theorem eSame_ok : EntryOk Try.prog 20 eSame := by
  intro args H sr hs K hk
  unfold eSame at hs
  split at hs
  · cases hs
    have h : HoldsS vSa0 := sa0_vc
    unfold vSa0 at h
    refine SC.flat (oneS (SC.ofF (V := VCp) names0 mixed0 TCp_ok noO_ok h.h)) rfl ?_
    rintro v0 T ⟨rfl, rfl⟩
    exact ⟨(fun k hk => by cases hk), none, hk, by simp [chN]⟩
  · rename_i b n c ec b2 k d ed
    split at hs
    · rename_i cs e ro ds f rp hb hb2
      cases hs
      obtain ⟨hne, ⟨r1, r2⟩, h2⟩ := cond_need hk
      clear hk
      have hne : b ≠ b2 := fun e => by subst e; rw [Nat.beq_refl] at hne; cases hne
      obtain ⟨A, R, e1, e2, e3, e4, e5⟩ := r1.split
      obtain ⟨B, S, f1, f2, f3, f4, f5⟩ := r2.split
      rw [← e3, ← f3] at h2
      clear e3 f3 r1 r2
      subst e1; subst e2; subst f1; subst f2
      have hsc := SC.ofF (V := VCp) names0 mixed0 TCp_ok noO_ok (sa_vc A R B S c d ec ed e f ro rp e4 e5 f5)
      refine SC.reads (σ := [b, b2]) hsc (fun k hk => ?_) (by simp [hne]) rfl (fun i x hx => ?_) ?_
      · simp only [List.mem_cons, List.mem_nil_iff, or_false] at hk
        rcases hk with rfl | rfl <;> exact ⟨by simp, fun ρ => cells_ren (fC_flat _) _ _ _⟩
      · match i, hx with
        | 0, hx => cases hx; exact hb
        | 1, hx => cases hx; exact hb2
        | n + 2, hx => simp at hx
      · intro v0 H0' ho
        obtain ⟨x, hx, rfl, rfl⟩ := outE_one ho
        exact ⟨[], by simp, (fun t ht => by cases ht), none, h2, by simp [chN]⟩
    · cases hs
  · rename_i b n c ex
    split at hs
    · rename_i cs e ro hb
      cases hs
      obtain ⟨rf, hk2⟩ := hk
      obtain ⟨A, R, e1, e2, e3, e4, e5⟩ := rf.split
      clear e3 rf
      subst e1; subst e2
      refine SC.oneF (extra := [.nilsl]) (SC.ofF (V := VCp) names0 mixed0 TCp_ok noO_ok (sa1_vc A R c ex e ro)) hb (fun _ => rfl) ?_
      intro v0 H0 h
      obtain ⟨_, _, rfl, rfl⟩ := outE_one h
      exact ⟨rfl, fun _ => rfl, hk2⟩
    · cases hs
  · rename_i b n c ex
    split at hs
    · rename_i cs e ro hb
      cases hs
      obtain ⟨rf, hk2⟩ := hk
      obtain ⟨A, R, e1, e2, e3, e4, e5⟩ := rf.split
      clear e3 rf
      subst e1; subst e2
      have h2 := SC.reads1 (b := b) (H := H) (K := fun v H' => ∃ ch, K v ch ∧ H' = chN H ch) (SC.ofF (V := VCp) names0 mixed0 TCp_ok noO_ok (sa2_vc A R c ex e ro)) (fun ρ => cells_ren (fC_flat _) _ _ _) (by simp) hb ?_
      · exact h2
      · intro v0 H0' ho
        obtain ⟨_, _, rfl, rfl⟩ := outE_one ho
        exact ⟨[], rfl, (fun t ht => by cases ht), none, hk2, by simp [chN]⟩
    · cases hs
  · cases hs
end Go.Proofs.Ytainjcpocodehaa

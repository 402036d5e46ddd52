/- Both sides' Sorted, told for any memory. -/
import Derived.Test.YtainjcpocodehaaScR
import Derived.Test.YtainjcpocodehaaScO
import Derived.Test.YtainjcpocodehaaScW
set_option linter.unusedSimpArgs false
set_option linter.unusedVariables false
namespace Go.Proofs.Ytainjcpocodehaa
open Go Go.Ve
set_option maxRecDepth 20000
noncomputable def oSr (l r : FL) (e : Nat) (ro : Bool) : List Out := [⟨Unit, fun _ => .nilsl, fun _ => mF l r e ro, fun _ => l = [], gcB⟩, ⟨Unit, fun _ => .sl 1 0 l.length l.length false, fun _ => mF l r e ro ++ [.cells (fC (isF l l.length)) eF false], fun _ => l ≠ [], gcB⟩]
theorem eSo_of {f : FuncId} (h : ∀ (l r : FL) (e : Nat) (ro : Bool) (c : Nat) (ex : Bool), l.length ≤ 1048576 → ok64 (l ++ r) → SC Try.prog f [.sl 0 0 l.length c ex] (mF l r e ro) (outE (oSr l r e ro))) : EntryOk Try.prog f eSo := by
  intro args H sr hs K hk
  unfold eSo at hs
  split at hs
  · rename_i b n c ex
    split at hs
    · rename_i cs e ro hb
      cases hs
      obtain ⟨rf, h2⟩ := hk
      have hok := rf.o
      obtain ⟨A, R, e1, e2, e3, e4, e5⟩ := rf.split
      rw [← e3] at h2
      rw [e1, getF_fC] at hok
      clear e3 rf
      subst e1; subst e2
      have hsc := h A R e ro c ex e4 hok
      refine SC.owns2 (args0 := [.sl 0 0 A.length c ex]) (σ := [b]) hsc (by simp) rfl (fun i x s hi hs => ?_) ?_
      · match i, hi, hs with
        | 0, hi, hs => cases hi; cases hs; exact ⟨by rw [cells_ren (fC_flat _)]; exact hb, by simp⟩
        | n + 1, hi, _ => simp at hi
      · have own : ∀ (i : Nat) (k s : ABlk), (mF A R e ro)[i]? = some k → (mF A R e ro)[i]? = some s → k.own = true ∨ k = .dead ∨ s.own = false := fun i k s h1 h2 => by
          rw [h1] at h2; cases h2
          cases ho : k.own
          · exact .inr (.inr rfl)
          · exact .inl rfl
        have back : ∀ ρ : Nat → Nat, putL [b] (List.map (ABlk.ren ρ) (mF A R e ro)) H = H := fun ρ => by
          have e : List.map (ABlk.ren ρ) (mF A R e ro) = mF A R e ro := by
            show [ABlk.ren ρ (.cells (fC (A ++ R)) e ro)] = _
            rw [cells_ren (fC_flat _)]; rfl
          rw [e]
          exact putL_same _ _ _ fun i x hx => by
            match i, hx with
            | 0, hx => cases hx; exact hb
            | n + 1, hx => simp at hx
        rintro v0 H0' ⟨o, ho, x, hx, rfl, rfl⟩
        simp only [oSr, List.mem_cons, List.mem_nil_iff, or_false] at ho
        rcases ho with rfl | rfl
        · have hx : A = [] := hx
          have e : Nat.beq A.length 0 = true := by rw [hx]; rfl
          simp only [SR.run, e, cond_true] at h2
          refine ⟨_, [], (List.append_nil _).symm, rfl, own, (fun k hk => by cases hk), none, h2, ?_⟩
          show putL [b] (List.map (ABlk.ren (upN [b] 1 H.length)) (mF A R _ ro)) H ++ [] = H
          rw [List.append_nil]
          exact back _
        · have hx : A ≠ [] := hx
          have e : Nat.beq A.length 0 = false := by
            cases A with
            | nil => exact absurd rfl hx
            | cons a r => rfl
          simp only [SR.run, e, cond_false] at h2
          have up2 : upN [b] 1 H.length 1 = H.length := by
            unfold upN
            rw [if_neg (by omega)]; omega
          have ev : (AV.sl 1 0 A.length A.length false).ren (upN [b] 1 H.length) = .sl H.length 0 A.length A.length false := by
            show AV.sl (upN [b] 1 H.length 1) 0 _ _ false = _
            rw [up2]
          rw [← ev] at h2
          refine ⟨mF A R _ ro, [.cells (fC (isF A A.length)) eF false], rfl, rfl, own, (fun k hk => by
            simp only [List.mem_cons, List.mem_nil_iff, or_false] at hk
            subst hk; exact .inl rfl), some _, h2, ?_⟩
          have ec : (ABlk.cells (fC (isF A A.length)) eF false).ren (upN [b] 1 H.length) = .cells (fC (isF A A.length)) eF false := cells_ren (fC_flat _) _ _ _
          show putL [b] (List.map (ABlk.ren (upN [b] 1 H.length)) (mF A R _ ro)) H ++ List.map (ABlk.ren (upN [b] 1 H.length)) [.cells (fC (isF A A.length)) eF false] = _
          rw [back _]
          simp only [List.map_cons, List.map_nil, ec, chN]
    · cases hs
  · cases hs
theorem eSrt_ok (hC : EntryOk Try.prog 70 eClF) (hS : EntryOk Try.prog 71 eSrF) : EntryOk Try.prog 19 eSo := by
  have hT : SpecOk Try.prog (tabS TSr noS) := by
    refine tabS_ok (fun p hp => ?_) noS_ok
    simp only [TSr, List.mem_cons, List.mem_nil_iff, or_false] at hp
    rcases hp with rfl | rfl
    · exact hC
    · exact hS
  exact eSo_of fun l r e ro c ex hl ho => SC.ofF (V := VSr) names0 mixed0 hT noO_ok (sr_vc l r e ro c ex hl ho)
end Go.Proofs.Ytainjcpocodehaa

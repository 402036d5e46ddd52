/- The document's Set of the only number that is there: what the walk asks is so. -/
import Derived.Test.YtainjcpocodehaaRfC3
import Derived.Test.YtainjcpocodehaaRfF
set_option linter.unusedSimpArgs false
set_option linter.unusedVariables false
namespace Go.Proofs.Ytainjcpocodehaa
open Go Go.Ve
set_option maxRecDepth 20000
theorem setE_bad {most : Int} {s : TL} {n at_ : Int} (h : n < 0 ∨ at_ < 0 ∨ 253402300799 < at_) : setE most s n at_ = 2 := by unfold setE; rw [if_pos h]
theorem setE_in {most : Int} {s : TL} {n at_ : Int} (h1 : ltI n 0 = false) (h2 : ltI at_ 0 = false) (h3 : ltI 253402300799 at_ = false) (h : tmOf n s ≠ none) : setE most s n at_ = 0 := by
  rw [ltI_f] at h1 h2 h3
  unfold setE
  rw [if_neg (by omega), if_pos (by cases e : tmOf n s with | none => exact absurd e h | some v => rfl)]
theorem rSe3_vc (t : Tm) (at_ most : Int) (p : TL) (eq er : Nat) : vRSe3 t.1 at_ most p [t] eq er := by
  rw [vRSe3_eq]
  delta gpRfC31 gpRfC32 gpRfC30 gpRfC33 gpRfC35 gpRfC34
  have ht : tmOf t.1 [t] ≠ none := by simp [tmOf]
  have he : ers t.1 [t] = [] := by simp [ers]
  have hi : insS t.1 at_ [t] = [(t.1, at_)] := by simp [insS, he, ins]
  have hp : (pk [t] 0).1 = t.1 := rfl
  refine cond_intro (fun k => ?_) fun k1 => cond_intro (fun k => ?_) fun k2 => cond_intro (fun k => ?_) fun k3 => ?_
  · have h2 : setE most [t] t.1 at_ = 2 := setE_bad (.inl ((ltI_t _ _ ▸ k)))
    refine .inl ⟨(), by omega, ?_, by omega, trivial⟩
    (repeat' (first | exact trivial | exact rfl | exact oR_ok _ _ _ | exact r2_ok _ rfl | refine oB_ok ?_ | refine oB1_ok ?_ | assumption | apply And.intro))
  · have h2 : setE most [t] t.1 at_ = 2 := setE_bad (.inr (.inl ((ltI_t _ _ ▸ k))))
    refine .inl ⟨(), by omega, ?_, by omega, trivial⟩
    (repeat' (first | exact trivial | exact rfl | exact oR_ok _ _ _ | exact r2_ok _ rfl | refine oB_ok ?_ | refine oB1_ok ?_ | assumption | apply And.intro))
  · have h2 : setE most [t] t.1 at_ = 2 := setE_bad (.inr (.inr ((ltI_t _ _ ▸ k))))
    refine .inl ⟨(), by omega, ?_, by omega, trivial⟩
    (repeat' (first | exact trivial | exact rfl | exact oR_ok _ _ _ | exact r2_ok _ rfl | refine oB_ok ?_ | refine oB1_ok ?_ | assumption | apply And.intro))
  · have hE : setE most [t] t.1 at_ = 0 := setE_in k1 k2 k3 ht
    refine ⟨⟨0, ⟨Nat.zero_le _, fun j hj => absurd hj (Nat.not_lt_zero _)⟩, ?_, rfl, trivial⟩, fun x hx => ?_⟩
    · (repeat' (first | exact trivial | exact rfl | exact oR_ok _ _ _ | exact r2_ok _ rfl | refine oB_ok ?_ | refine oB1_ok ?_ | assumption | apply And.intro))
    · have hx1 : x ≤ 1 := hx.1
      have hx0 : x = 0 := by
        rcases Nat.eq_zero_or_pos x with h | h
        · exact h
        · exact absurd hp (hx.2 0 h)
      subst hx0
      have hl : ([t] : TL).length = 1 := rfl
      have e1 : ltI (ic 0) (ic 1) = true := rfl
      have e2 : eqI (pk [t] 0).1 t.1 = true := by rw [eqI_t]; exact hp
      have e3 : leI (ic 0) (ic 1) = true := rfl
      have e4 : leI (ic 0 + 1) 9223372036854775807 = true := rfl
      have e5 : leI (ic 0 + 1) (ic 1) = true := rfl
      have t1 : (ic 0 + 1).toNat = 1 := rfl
      have d1 : decide (1 ≤ 1) = true := rfl
      have d2 : decide (0 = 1) = false := rfl
      have d3 : decide (1 = 1) = true := rfl
      have d4 : decide (0 = 0) = true := rfl
      have a7 : decide (p.length * 2 + 0 * 2 ≤ (tC (p ++ [t])).length) = true := decide_eq_true (by rw [tC_len, List.length_append]; simp; omega)
      simp only [hl, e1, e2, e3, e4, e5, t1, d1, d2, d3, d4, a7, cond_true, cond_false]
      refine ⟨row_get0 p [t] (i := 0) (Nat.zero_lt_one), ?_, fun x hx => ?_⟩
      · (repeat' (first | exact trivial | exact rfl | exact oR_ok _ _ _ | exact r2_ok _ rfl | refine oB_ok ?_ | refine oB1_ok ?_ | assumption | exact ⟨(), ⟨ht, he⟩, by (repeat' (first | exact trivial | exact rfl | exact oR_ok _ _ _ | exact r2_ok _ rfl | refine oB_ok ?_ | refine oB1_ok ?_ | assumption | apply And.intro))⟩ | apply And.intro))
      · have key : [AV.int IntKind.i64 t.1, AV.int IntKind.i64 at_] = tC (insS t.1 at_ [t]) := by rw [hi]; rfl
        have kl : 1 = (insS t.1 at_ [t]).length := by rw [hi]; rfl
        (repeat' (first | exact trivial | exact rfl | exact oR_ok _ _ _ | exact r2_ok _ rfl | exact r2_ok _ key | refine oB_ok ?_ | refine oB1_ok ?_ | assumption | exact .inr ⟨(), hE, by (repeat' (first | exact trivial | exact rfl | exact oR_ok _ _ _ | exact r2_ok _ rfl | exact r2_ok _ key | refine oB_ok ?_ | refine oB1_ok ?_ | assumption | apply And.intro))⟩ | apply And.intro))
end Go.Proofs.Ytainjcpocodehaa

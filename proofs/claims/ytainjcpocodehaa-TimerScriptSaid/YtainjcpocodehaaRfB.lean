/- The document's queue: what the walks of Next, At and Cancel ask is so. -/
import Derived.Test.YtainjcpocodehaaRfA
set_option linter.unusedSimpArgs false
set_option linter.unusedVariables false
namespace Go.Proofs.Ytainjcpocodehaa
open Go Go.Ve
set_option maxRecDepth 20000
theorem oB_ok {e : Nat} {P : Prop} (h : P) : (bif e.beq e && true then P else False) := by rw [Nat.beq_refl]; exact h
theorem oB1_ok {e : Nat} {P : Prop} (h : P) : (bif e.beq e then P else False) := by rw [Nat.beq_refl]; exact h
theorem oR_ok (σ : Nat → Nat) (l : TL) (er : Nat) : (bif er.beq er && true then cellsP σ (tC l) (tC l) ∧ True else False) := oB_ok (r2_ok _ rfl)
theorem eqz {n : Nat} (h : 0 < n) : eqI (ic n) 0 = false := by rw [eqI_f]; show ¬ (n : Int) = 0; omega
theorem iclt {a b : Nat} (h : a < b) : ltI (ic a) (ic b) = true := by rw [ltI_t]; exact Int.ofNat_lt.2 h
theorem tC_taken : ∀ (l : TL) (x : Nat), (tC l).take (x * 2) = tC (l.take x)
  | [], x => by simp [tC]
  | t :: r, 0 => by simp [tC]
  | t :: r, x + 1 => by
    rw [tC_cons, show (x + 1) * 2 = x * 2 + 1 + 1 by omega, List.take_succ_cons, List.take_succ_cons, tC_taken r x, List.take_succ_cons, tC_cons]
theorem tC_dropn : ∀ (l : TL) (x : Nat), (tC l).drop (x * 2) = tC (l.drop x)
  | [], x => by simp [tC]
  | t :: r, 0 => by simp
  | t :: r, x + 1 => by
    rw [tC_cons, show (x + 1) * 2 = x * 2 + 1 + 1 by omega, List.drop_succ_cons, List.drop_succ_cons, tC_dropn r x, List.drop_succ_cons]
theorem row_take (p s : TL) (x : Nat) : List.take (x * 2) (List.drop (p.length * 2) (tC (p ++ s))) = tC (s.take x) := by
  rw [tC_dropn, List.drop_left, tC_taken]
theorem row_drop (p s : TL) {x : Nat} : List.take ((s.length - x) * 2) (List.drop (p.length * 2 + x * 2) (tC (p ++ s))) = tC (s.drop x) := by
  rw [show p.length * 2 + x * 2 = (p.length + x) * 2 by omega, tC_dropn, List.drop_append, List.drop_of_length_le (Nat.le_add_right _ _), List.nil_append, Nat.add_sub_cancel_left, tC_taken, List.take_of_length_le (by rw [List.length_drop]; exact Nat.le_refl _)]
theorem row_len (p s : TL) : (tC (p ++ s)).length = 2 * (p.length + s.length) := by rw [tC_len, List.length_append]
theorem tC_one : ∀ l : TL, AV.allOne (tC l) = true
  | [] => rfl
  | t :: r => by
    rw [tC_cons]
    simp only [AV.allOne, tC_one r, Bool.and_true]
    rfl
theorem rNx_vc (most : Int) (p s : TL) (eq er : Nat) (hs : 0 < s.length) : vRNx most p s eq er := by
  rw [vRNx_eq, eqz hs]
  have e0 : nxN s = (pk s 0).1 ∧ nxT s = (pk s 0).2 := by
    cases s with
    | nil => simp at hs
    | cons t r => exact ⟨rfl, rfl⟩
  rw [e0.1, e0.2]
  refine need_intro (iclt hs) ⟨row_get0 p s hs, need_intro (iclt hs) ⟨row_get1 p s hs, (), trivial, ?_, ?_, trivial⟩⟩
  · (repeat' (first | exact trivial | exact rfl | exact oR_ok _ _ _ | exact r2_ok _ rfl | refine oB_ok ?_ | refine oB1_ok ?_ | assumption | apply And.intro))
  · (repeat' (first | exact trivial | exact rfl | exact oR_ok _ _ _ | exact r2_ok _ rfl | refine oB_ok ?_ | refine oB1_ok ?_ | assumption | apply And.intro))
theorem rAt_vc (n most : Int) (p s : TL) (eq er : Nat) (d : Dn s) (hl : s.length ≤ 1048576) : vRAt n most p s eq er := by
  rw [vRAt_eq]
  refine ⟨⟨0, ⟨Nat.zero_le _, fun j hj => absurd hj (Nat.not_lt_zero _)⟩, ?_, rfl, trivial⟩, fun x hx => cond_intro (fun k => ?_) fun k => ?_⟩
  · (repeat' (first | exact trivial | exact rfl | exact oR_ok _ _ _ | exact r2_ok _ rfl | refine oB_ok ?_ | refine oB1_ok ?_ | assumption | apply And.intro))
  · have k0 := k
    rw [ltI_t] at k
    have k : x < s.length := Int.ofNat_lt.1 k
    refine need_intro k0 ⟨row_get0 p s k, cond_intro (fun c => need_intro k0 ⟨?_, (), trivial, ?_, ?_, trivial⟩) fun c => need_intro (by rw [leI_t]; show (x : Int) + 1 ≤ _; omega) ⟨x + 1, ⟨k, fun j hj => ?_⟩, by omega, ?_, rfl, trivial⟩⟩
    · rw [eqI_t] at c
      have : atV n s = (pk s x).2 := by unfold atV; rw [tmOf_at d k c]; rfl
      rw [this]; exact row_get1 p s k
    · (repeat' (first | exact trivial | exact rfl | exact oR_ok _ _ _ | exact r2_ok _ rfl | refine oB_ok ?_ | refine oB1_ok ?_ | assumption | apply And.intro))
    · rw [eqI_t] at c
      have : atE n s = 0 := by unfold atE; rw [tmOf_at d k c]; rfl
      rw [this]
      (repeat' (first | exact trivial | exact rfl | exact oR_ok _ _ _ | exact r2_ok _ rfl | refine oB_ok ?_ | refine oB1_ok ?_ | assumption | apply And.intro))
    · rw [eqI_f] at c
      rcases Nat.lt_or_ge j x with h | h
      · exact hx.2 j h
      · have : j = x := by omega
        subst this; exact c
    · (repeat' (first | exact trivial | exact rfl | exact oR_ok _ _ _ | exact r2_ok _ rfl | refine oB_ok ?_ | refine oB1_ok ?_ | assumption | apply And.intro))
  · rw [ltI_f] at k
    have k : s.length ≤ x := Int.ofNat_le.1 k
    have hn : tmOf n s = none := tmOf_no fun j hj => hx.2 j (by omega)
    have e1 : atV n s = 0 := by unfold atV; rw [hn]; rfl
    have e2 : atE n s = 5 := by unfold atE; rw [hn]; rfl
    rw [e1, e2]
    refine ⟨(), trivial, ?_, ?_, trivial⟩
    · (repeat' (first | exact trivial | exact rfl | exact oR_ok _ _ _ | exact r2_ok _ rfl | refine oB_ok ?_ | refine oB1_ok ?_ | assumption | apply And.intro))
    · (repeat' (first | exact trivial | exact rfl | exact oR_ok _ _ _ | exact r2_ok _ rfl | refine oB_ok ?_ | refine oB1_ok ?_ | assumption | apply And.intro))
set_option maxHeartbeats 4000000 in
theorem rCan_vc (n most : Int) (p s : TL) (eq er : Nat) (d : Dn s) (hl : s.length ≤ 1048576) : vRCan n most p s eq er := by
  rw [vRCan_eq]
  refine ⟨⟨0, ⟨Nat.zero_le _, fun j hj => absurd hj (Nat.not_lt_zero _)⟩, ?_, rfl, trivial⟩, fun x hx => cond_intro (fun k => ?_) fun k => ?_⟩
  · (repeat' (first | exact trivial | exact rfl | exact oR_ok _ _ _ | exact r2_ok _ rfl | refine oB_ok ?_ | refine oB1_ok ?_ | assumption | apply And.intro))
  · have k0 := k
    rw [ltI_t] at k
    have k : x < s.length := Int.ofNat_lt.1 k
    refine need_intro k0 ⟨row_get0 p s k, cond_intro (fun c => ?_) fun c => need_intro (by rw [leI_t]; show (x : Int) + 1 ≤ _; omega) ⟨x + 1, ⟨k, fun j hj => ?_⟩, by omega, ?_, rfl, trivial⟩⟩
    · rw [eqI_t] at c
      have ht : tmOf n s ≠ none := by rw [tmOf_at d k c]; exact fun h => by cases h
      have he := ers_ne d k c
      have t1 : (ic x + 1).toNat = x + 1 := by show ((x : Int) + 1).toNat = _; omega
      have E1 := row_take p s x
      have E2 := row_drop p s (x := x + 1)
      have L1 := row_len p s
      have L2 : (tC (s.take x)).length = 2 * x := by rw [tC_len, List.length_take]; omega
      have a1 : decide (s.length ≤ s.length) = true := decide_eq_true (Nat.le_refl _)
      have a2 : leI (ic x + 1) 9223372036854775807 = true := by rw [leI_t]; show (x : Int) + 1 ≤ _; omega
      have a3 : decide (p.length * 2 + (x + 1) * 2 + (s.length - (x + 1)) * 2 ≤ 2 * (p.length + s.length)) = true := decide_eq_true (by omega)
      have a4 : leI (ic x + 1) (ic s.length) = true := by rw [leI_t]; show (x : Int) + 1 ≤ (s.length : Int); omega
      have a5 : decide (0 + (s.length - (x + 1)) ≤ 9223372036854775807) = true := decide_eq_true (by omega)
      have a6 : decide ((0 + (s.length - (x + 1))) * 16 ≤ 140737488355328) = true := decide_eq_true (by omega)
      have a7 : decide (p.length * 2 + x * 2 ≤ 2 * (p.length + s.length)) = true := decide_eq_true (by omega)
      have a8 : decide (0 + x ≤ 9223372036854775807) = true := decide_eq_true (by omega)
      have a9 : decide ((0 + x) * 16 ≤ 140737488355328) = true := decide_eq_true (by omega)
      have a10 : decide (0 + x ≤ 0 + x) = true := decide_eq_true (Nat.le_refl _)
      have a11 : decide (0 + (0 + x) * 2 ≤ 2 * x) = true := decide_eq_true (by omega)
      have a12 : leI (ic x) (ic s.length) = true := by rw [leI_t]; show (x : Int) ≤ (s.length : Int); omega
      have a13 : decide (0 = s.length) = false := decide_eq_false (by omega)
      have a14 : decide (0 + x + (s.length - (x + 1)) ≤ 9223372036854775807) = true := decide_eq_true (by omega)
      have a15 : decide ((0 + x + (s.length - (x + 1))) * 16 ≤ 140737488355328) = true := decide_eq_true (by omega)
      have a16 : decide (0 + x = 0 + x) = true := decide_eq_true rfl
      have a17 : decide (0 + (0 + x) * 2 = 2 * x) = true := decide_eq_true (by omega)
      have len : (ers n s).length = s.length - 1 := by rw [he, List.length_append, List.length_take, List.length_drop]; omega
      rcases Nat.eq_zero_or_pos x with hx0 | hx0
      · have c1 : decide (x = 0) = true := decide_eq_true hx0
        rcases Nat.eq_or_lt_of_le (show x + 1 ≤ s.length from k) with hx1 | hx1
        · have c2 : decide (x + 1 = s.length) = true := decide_eq_true hx1
          have c3 : decide (s.length - (x + 1) = 0) = true := decide_eq_true (by omega)
          have hem : ers n s = [] := List.length_eq_zero_iff.1 (by omega)
          simp only [t1, List.nil_append, List.drop_zero, E1, E2, L1, L2, tC_one, a1, a2, a3, a4, a5, a6, a7, a8, a9, a10, a11, a12, a13, a14, a15, a16, a17, c1, c2, c3, Bool.and_true, Bool.true_and, Bool.and_self, Bool.not_false, Bool.not_true, decide_true, cond_true, cond_false]
          (repeat' (first | exact trivial | exact rfl | exact oR_ok _ _ _ | exact r2_ok _ rfl | refine oB_ok ?_ | refine oB1_ok ?_ | assumption | exact .inr (.inr ⟨(), ⟨ht, hem⟩, by (repeat' (first | exact trivial | exact rfl | exact oR_ok _ _ _ | exact r2_ok _ rfl | refine oB_ok ?_ | refine oB1_ok ?_ | assumption | apply And.intro)), by (repeat' (first | exact trivial | exact rfl | exact oR_ok _ _ _ | exact r2_ok _ rfl | refine oB_ok ?_ | refine oB1_ok ?_ | assumption | apply And.intro)), trivial⟩) | apply And.intro))
        · have c2 : decide (x + 1 = s.length) = false := decide_eq_false (by omega)
          have c3 : decide (s.length - (x + 1) = 0) = false := decide_eq_false (by omega)
          have c4 : decide (0 + (s.length - (x + 1)) ≤ 0) = false := decide_eq_false (by omega)
          have hem : ers n s ≠ [] := fun e => by rw [e] at len; simp at len; omega
          have key : s.drop (x + 1) = ers n s := by rw [he, hx0]; rfl
          have kl : 0 + (s.length - (x + 1)) = (ers n s).length := by rw [len]; omega
          simp only [t1, List.nil_append, List.drop_zero, E1, E2, L1, L2, tC_one, a1, a2, a3, a4, a5, a6, a7, a8, a9, a10, a11, a12, a13, a14, a15, a16, a17, c1, c2, c3, c4, key, Bool.and_true, Bool.true_and, Bool.and_self, Bool.not_false, Bool.not_true, decide_true, cond_true, cond_false]
          (repeat' (first | exact trivial | exact rfl | exact oR_ok _ _ _ | exact r2_ok _ rfl | refine oB_ok ?_ | refine oB1_ok ?_ | assumption | exact .inr (.inl ⟨(), ⟨ht, hem⟩, by (repeat' (first | exact trivial | exact rfl | exact oR_ok _ _ _ | exact r2_ok _ rfl | refine oB_ok ?_ | refine oB1_ok ?_ | assumption | apply And.intro)), by (repeat' (first | exact trivial | exact rfl | exact oR_ok _ _ _ | exact r2_ok _ rfl | refine oB_ok ?_ | refine oB1_ok ?_ | assumption | apply And.intro)), trivial⟩) | apply And.intro))
      · have c1 : decide (x = 0) = false := decide_eq_false (by omega)
        have c5 : decide (0 + x ≤ 0) = false := decide_eq_false (by omega)
        rcases Nat.eq_or_lt_of_le (show x + 1 ≤ s.length from k) with hx1 | hx1
        · have c2 : decide (x + 1 = s.length) = true := decide_eq_true hx1
          have c3 : decide (s.length - (x + 1) = 0) = true := decide_eq_true (by omega)
          have hem : ers n s ≠ [] := fun e => by rw [e] at len; simp at len; omega
          have key : s.take x = ers n s := by rw [he, List.drop_of_length_le (by omega), List.append_nil]
          have L2b : (tC (ers n s)).length = 2 * x := by rw [← key]; exact L2
          have kl : 0 + x = (ers n s).length := by rw [len]; omega
          simp only [L2b, t1, List.nil_append, List.drop_zero, E1, E2, L1, L2, tC_one, a1, a2, a3, a4, a5, a6, a7, a8, a9, a10, a11, a12, a13, a14, a15, a16, a17, c1, c2, c3, c5, key, Bool.and_true, Bool.true_and, Bool.and_self, Bool.not_false, Bool.not_true, decide_true, cond_true, cond_false]
          (repeat' (first | exact trivial | exact rfl | exact oR_ok _ _ _ | exact r2_ok _ rfl | refine oB_ok ?_ | refine oB1_ok ?_ | assumption | exact .inr (.inl ⟨(), ⟨ht, hem⟩, by (repeat' (first | exact trivial | exact rfl | exact oR_ok _ _ _ | exact r2_ok _ rfl | refine oB_ok ?_ | refine oB1_ok ?_ | assumption | apply And.intro)), by (repeat' (first | exact trivial | exact rfl | exact oR_ok _ _ _ | exact r2_ok _ rfl | refine oB_ok ?_ | refine oB1_ok ?_ | assumption | apply And.intro)), trivial⟩) | apply And.intro))
        · have c2 : decide (x + 1 = s.length) = false := decide_eq_false (by omega)
          have c3 : decide (s.length - (x + 1) = 0) = false := decide_eq_false (by omega)
          have c6 : decide (0 + x + (s.length - (x + 1)) ≤ 0 + x) = false := decide_eq_false (by omega)
          have hem : ers n s ≠ [] := fun e => by rw [e] at len; simp at len; omega
          have key : tC (s.take x) ++ tC (s.drop (x + 1)) = tC (ers n s) := by rw [he, tC_app]
          have kl : 0 + x + (s.length - (x + 1)) = (ers n s).length := by rw [len]; omega
          simp only [t1, List.nil_append, List.drop_zero, E1, E2, L1, L2, tC_one, a1, a2, a3, a4, a5, a6, a7, a8, a9, a10, a11, a12, a13, a14, a15, a16, a17, c1, c2, c3, c5, c6, key, Bool.and_true, Bool.true_and, Bool.and_self, Bool.not_false, Bool.not_true, decide_true, cond_true, cond_false]
          (repeat' (first | exact trivial | exact rfl | exact oR_ok _ _ _ | exact r2_ok _ rfl | refine oB_ok ?_ | refine oB1_ok ?_ | assumption | exact .inr (.inl ⟨(), ⟨ht, hem⟩, by (repeat' (first | exact trivial | exact rfl | exact oR_ok _ _ _ | exact r2_ok _ rfl | refine oB_ok ?_ | refine oB1_ok ?_ | assumption | apply And.intro)), by (repeat' (first | exact trivial | exact rfl | exact oR_ok _ _ _ | exact r2_ok _ rfl | refine oB_ok ?_ | refine oB1_ok ?_ | assumption | apply And.intro)), trivial⟩) | apply And.intro))
    · rw [eqI_f] at c
      rcases Nat.lt_or_ge j x with h | h
      · exact hx.2 j h
      · have : j = x := by omega
        subst this; exact c
    · (repeat' (first | exact trivial | exact rfl | exact oR_ok _ _ _ | exact r2_ok _ rfl | refine oB_ok ?_ | refine oB1_ok ?_ | assumption | apply And.intro))
  · rw [ltI_f] at k
    have k : s.length ≤ x := Int.ofNat_le.1 k
    have hn : tmOf n s = none := tmOf_no fun j hj => hx.2 j (by omega)
    refine .inl ⟨(), hn, ?_, rfl, trivial⟩
    (repeat' (first | exact trivial | exact rfl | exact oR_ok _ _ _ | exact r2_ok _ rfl | refine oB_ok ?_ | refine oB1_ok ?_ | assumption | apply And.intro))
end Go.Proofs.Ytainjcpocodehaa

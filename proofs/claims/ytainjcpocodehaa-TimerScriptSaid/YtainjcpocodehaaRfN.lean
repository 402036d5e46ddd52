/- The document's Set, of a number that is there beside others: what the walk asks is so. -/
import Derived.Test.YtainjcpocodehaaRfC2
import Derived.Test.YtainjcpocodehaaRfM
set_option linter.unusedSimpArgs false
set_option linter.unusedVariables false
namespace Go.Proofs.Ytainjcpocodehaa
open Go Go.Ve
set_option maxRecDepth 20000
set_option maxHeartbeats 8000000 in
theorem rSe2_vc (n at_ most : Int) (p s : TL) (eq er : Nat) (d : Dn s) (hl : s.length ≤ 1048576) (so : Srt s) (c : tmOf n s ≠ none) (c2 : ers n s ≠ []) : vRSe2 n at_ most p s eq er := by
  rw [vRSe2_eq]
  delta gpRfC21 gpRfC25 gpRfC28 gpRfC24 gpRfC29 gpRfC26 gpRfC211 gpRfC212 gpRfC22 gpRfC23 gpRfC20 gpRfC27 gpRfC213 gpRfC214 gpRfC215 gpRfC210 gpRfC216
  refine cond_intro (fun k => ?_) fun k1 => cond_intro (fun k => ?_) fun k2 => cond_intro (fun k => ?_) fun k3 => ?_
  · have h2 : setE most s n at_ = 2 := setE_bad (.inl (ltI_t _ _ ▸ k))
    refine .inl ⟨(), by omega, ?_, by omega, trivial⟩
    (repeat' (first | exact trivial | exact rfl | exact oR_ok _ _ _ | exact r2_ok _ rfl | refine oB_ok ?_ | refine oB1_ok ?_ | assumption | apply And.intro))
  · have h2 : setE most s n at_ = 2 := setE_bad (.inr (.inl (ltI_t _ _ ▸ k)))
    refine .inl ⟨(), by omega, ?_, by omega, trivial⟩
    (repeat' (first | exact trivial | exact rfl | exact oR_ok _ _ _ | exact r2_ok _ rfl | refine oB_ok ?_ | refine oB1_ok ?_ | assumption | apply And.intro))
  · have h2 : setE most s n at_ = 2 := setE_bad (.inr (.inr (ltI_t _ _ ▸ k)))
    refine .inl ⟨(), by omega, ?_, by omega, trivial⟩
    (repeat' (first | exact trivial | exact rfl | exact oR_ok _ _ _ | exact r2_ok _ rfl | refine oB_ok ?_ | refine oB1_ok ?_ | assumption | apply And.intro))
  · refine ⟨⟨0, ⟨Nat.zero_le _, fun j hj => absurd hj (Nat.not_lt_zero _)⟩, ?_, rfl, trivial⟩, fun x hx => cond_intro (fun k => ?_) fun k => ?_⟩
    · (repeat' (first | exact trivial | exact rfl | exact oR_ok _ _ _ | exact r2_ok _ rfl | refine oB_ok ?_ | refine oB1_ok ?_ | assumption | apply And.intro))
    · have k0 := k
      rw [ltI_t] at k
      have k : x < s.length := Int.ofNat_lt.1 k
      refine need_intro k0 ⟨row_get0 p s k, cond_intro (fun c0 => ⟨?_, fun u hu => ⟨?_, fun _ _ => ?_⟩⟩) fun c0 => need_intro (by rw [leI_t]; show (x : Int) + 1 ≤ _; omega) ⟨x + 1, ⟨k, fun j hj => ?_⟩, by omega, ?_, rfl, trivial⟩⟩
      · rw [eqI_t] at c0
        have he := ers_ne d k c0
        obtain ⟨y, hy⟩ : ∃ y : Tm × TL, ers n s = y.1 :: y.2 := by
          cases h : ers n s with
          | nil => exact absurd h c2
          | cons a r => exact ⟨(a, r), rfl⟩
        have t1 : (ic x + 1).toNat = x + 1 := by show ((x : Int) + 1).toNat = _; omega
        have E1 := row_take p s x
        have E2 := row_drop p s (x := x + 1)
        have L1 := row_len p s
        have L2 : (tC (s.take x)).length = 2 * x := by rw [tC_len, List.length_take]; omega
        have a1 : decide (s.length ≤ s.length) = true := decide_eq_true (Nat.le_refl _)
        have a2 : leI (ic x + 1) 9223372036854775807 = true := by rw [leI_t]; show (x : Int) + 1 ≤ _; omega
        have a3 : decide (p.length * 2 + (x + 1) * 2 + (s.length - (x + 1)) * 2 ≤ 2 * (p.length + s.length)) = true := decide_eq_true (by omega)
        have a4 : leI (ic x + 1) (ic s.length) = true := by rw [leI_t]; show (x : Int) + 1 ≤ (s.length : Int); omega
        have a5 : decide (0 + (s.length - (x + 1)) ≤ 9223372036854775807) = true := decide_eq_true (by omega)
        have a6 : decide ((0 + (s.length - (x + 1))) * 16 ≤ 140737488355328) = true := decide_eq_true (by omega)
        have a7 : decide (p.length * 2 + x * 2 ≤ 2 * (p.length + s.length)) = true := decide_eq_true (by omega)
        have a8 : decide (0 + x ≤ 9223372036854775807) = true := decide_eq_true (by omega)
        have a9 : decide ((0 + x) * 16 ≤ 140737488355328) = true := decide_eq_true (by omega)
        have a10 : decide (0 + x ≤ 0 + x) = true := decide_eq_true (Nat.le_refl _)
        have a11 : decide (0 + (0 + x) * 2 ≤ 2 * x) = true := decide_eq_true (by omega)
        have a12 : leI (ic x) (ic s.length) = true := by rw [leI_t]; show (x : Int) ≤ (s.length : Int); omega
        have a13 : decide (0 = s.length) = false := decide_eq_false (by omega)
        have a14 : decide (0 + x + (s.length - (x + 1)) ≤ 9223372036854775807) = true := decide_eq_true (by omega)
        have a15 : decide ((0 + x + (s.length - (x + 1))) * 16 ≤ 140737488355328) = true := decide_eq_true (by omega)
        have a16 : decide (0 + x = 0 + x) = true := decide_eq_true rfl
        have a17 : decide (0 + (0 + x) * 2 = 2 * x) = true := decide_eq_true (by omega)
        have len : (y.1 :: y.2).length = s.length - 1 := by rw [← hy, he, List.length_append, List.length_take, List.length_drop]; omega
        have len2 : (y.1 :: y.2).length = y.2.length + 1 := rfl
        rcases Nat.eq_zero_or_pos x with hx0 | hx0
        · have c1 : decide (x = 0) = true := decide_eq_true hx0
          rcases Nat.eq_or_lt_of_le (show x + 1 ≤ s.length from k) with hx1 | hx1
          · exfalso; omega
          · have c2 : decide (x + 1 = s.length) = false := decide_eq_false (by omega)
            have c3 : decide (s.length - (x + 1) = 0) = false := decide_eq_false (by omega)
            have c4 : decide (0 + (s.length - (x + 1)) ≤ 0) = false := decide_eq_false (by omega)
            have key : tC (s.drop (x + 1)) = tC (y.1 :: y.2) := by rw [← hy, he, hx0]; rfl
            have kl : 0 + (s.length - (x + 1)) = (y.1 :: y.2).length := by rw [len]; omega
            simp only [t1, List.nil_append, List.drop_zero, E1, E2, L1, L2, tC_one, a1, a2, a3, a4, a5, a6, a7, a8, a9, a10, a11, a12, a13, a14, a15, a16, a17, c1, c2, c3, c4, Bool.and_true, Bool.true_and, Bool.and_self, Bool.not_false, Bool.not_true, decide_true, cond_true, cond_false]
            (repeat' (first | exact trivial | exact rfl | exact oR_ok _ _ _ | exact r2_ok _ rfl | exact r2_ok _ key | refine oB_ok ?_ | refine oB1_ok ?_ | assumption | exact ⟨y, ⟨c, hy⟩, by (repeat' (first | exact trivial | exact rfl | exact oR_ok _ _ _ | exact r2_ok _ rfl | exact r2_ok _ key | refine oB_ok ?_ | refine oB1_ok ?_ | assumption | apply And.intro)), trivial⟩ | apply And.intro))
        · have c1 : decide (x = 0) = false := decide_eq_false (by omega)
          have c5 : decide (0 + x ≤ 0) = false := decide_eq_false (by omega)
          rcases Nat.eq_or_lt_of_le (show x + 1 ≤ s.length from k) with hx1 | hx1
          · have c2 : decide (x + 1 = s.length) = true := decide_eq_true hx1
            have c3 : decide (s.length - (x + 1) = 0) = true := decide_eq_true (by omega)
            have key : tC (s.take x) = tC (y.1 :: y.2) := by rw [← hy, he, List.drop_of_length_le (by omega), List.append_nil]
            have kl : 0 + x = (y.1 :: y.2).length := by rw [len]; omega
            simp only [t1, List.nil_append, List.drop_zero, E1, E2, L1, L2, tC_one, a1, a2, a3, a4, a5, a6, a7, a8, a9, a10, a11, a12, a13, a14, a15, a16, a17, c1, c2, c3, c5, Bool.and_true, Bool.true_and, Bool.and_self, Bool.not_false, Bool.not_true, decide_true, cond_true, cond_false]
            (repeat' (first | exact trivial | exact rfl | exact oR_ok _ _ _ | exact r2_ok _ rfl | exact r2_ok _ key | refine oB_ok ?_ | refine oB1_ok ?_ | assumption | exact ⟨y, ⟨c, hy⟩, by (repeat' (first | exact trivial | exact rfl | exact oR_ok _ _ _ | exact r2_ok _ rfl | exact r2_ok _ key | refine oB_ok ?_ | refine oB1_ok ?_ | assumption | apply And.intro)), trivial⟩ | apply And.intro))
          · have c2 : decide (x + 1 = s.length) = false := decide_eq_false (by omega)
            have c3 : decide (s.length - (x + 1) = 0) = false := decide_eq_false (by omega)
            have c6 : decide (0 + x + (s.length - (x + 1)) ≤ 0 + x) = false := decide_eq_false (by omega)
            have key : tC (s.take x) ++ tC (s.drop (x + 1)) = tC (y.1 :: y.2) := by rw [← hy, he, tC_app]
            have kl : 0 + x + (s.length - (x + 1)) = (y.1 :: y.2).length := by rw [len]; omega
            simp only [t1, List.nil_append, List.drop_zero, E1, E2, L1, L2, tC_one, a1, a2, a3, a4, a5, a6, a7, a8, a9, a10, a11, a12, a13, a14, a15, a16, a17, c1, c2, c3, c5, c6, Bool.and_true, Bool.true_and, Bool.and_self, Bool.not_false, Bool.not_true, decide_true, cond_true, cond_false]
            (repeat' (first | exact trivial | exact rfl | exact oR_ok _ _ _ | exact r2_ok _ rfl | exact r2_ok _ key | refine oB_ok ?_ | refine oB1_ok ?_ | assumption | exact ⟨y, ⟨c, hy⟩, by (repeat' (first | exact trivial | exact rfl | exact oR_ok _ _ _ | exact r2_ok _ rfl | exact r2_ok _ key | refine oB_ok ?_ | refine oB1_ok ?_ | assumption | apply And.intro)), trivial⟩ | apply And.intro))
      · have hu1 : (u.1 :: u.2).length ≤ 1048576 := by
          rw [← hu.2]; exact Nat.le_trans (List.length_filter_le _ _) hl
        have R1 : ∀ x, x - 1 < (u.1 :: u.2).length → (tC (u.1 :: u.2))[0 + (x - 1) * 2 + 1]? = some (.int .i64 (pk (u.1 :: u.2) (x - 1)).2) := fun x h => row_get1 [] (u.1 :: u.2) h
        have R0 : ∀ x, x - 1 < (u.1 :: u.2).length → (tC (u.1 :: u.2))[0 + (x - 1) * 2 + 0]? = some (.int .i64 (pk (u.1 :: u.2) (x - 1)).1) := fun x h => row_get0 [] (u.1 :: u.2) h
        clear k0 hx c0
        refine ⟨⟨(u.1 :: u.2).length, ⟨Nat.le_refl _, rfl⟩, ?_, rfl, trivial⟩, fun x hx => cond_intro (fun k0 => ?_) fun k0 => ?_⟩
        · (repeat' (first | exact trivial | exact rfl | exact oR_ok _ _ _ | exact r2_ok _ rfl | refine oB_ok ?_ | refine oB1_ok ?_ | assumption | apply And.intro))
        · have x0 : 0 < x := by rw [ltI_t] at k0; exact Int.ofNat_lt.1 k0
          have m1 := pred_ok x0 (Nat.le_trans hx.1 hu1)
          have m2 := pred_in x0 hx.1
          have hxl : x - 1 < (u.1 :: u.2).length := by have := hx.1; omega
          have down : tlt (n, at_) (pk (u.1 :: u.2) (x - 1)) = true → posT (n, at_) (u.1 :: u.2) (u.1 :: u.2).length = posT (n, at_) (u.1 :: u.2) (x - 1) := fun h => hx.2.trans (posT_down x0 h)
          have stop : tlt (n, at_) (pk (u.1 :: u.2) (x - 1)) = false → ic x = ic (posT (n, at_) (u.1 :: u.2) (u.1 :: u.2).length) := fun h => by rw [hx.2, posT_stop x0 h]
          have xl : x - 1 ≤ (u.1 :: u.2).length := by omega
          have xd : x - 1 < x := by omega
          simp only [m1, m2, pred_nat, cond_true]
          refine ⟨R1 _ hxl, cond_intro (fun a => ⟨x - 1, ⟨xl, down (tlt_a a)⟩, xd, ?_, ic_pred x0, trivial⟩) fun a => ⟨R1 _ hxl, cond_intro (fun b => ⟨R0 _ hxl, cond_intro (fun d => ⟨x - 1, ⟨xl, down (tlt_b b d)⟩, xd, ?_, ic_pred x0, trivial⟩) fun d => ⟨(), trivial, ?_, stop (tlt_c a fun _ => d), trivial⟩⟩) fun b => ⟨(), trivial, ?_, stop (tlt_c a fun b' => by rw [b'] at b; cases b), trivial⟩⟩⟩
          · (repeat' (first | exact trivial | exact rfl | exact oR_ok _ _ _ | exact r2_ok _ rfl | refine oB_ok ?_ | refine oB1_ok ?_ | assumption | apply And.intro))
          · (repeat' (first | exact trivial | exact rfl | exact oR_ok _ _ _ | exact r2_ok _ rfl | refine oB_ok ?_ | refine oB1_ok ?_ | assumption | apply And.intro))
          · (repeat' (first | exact trivial | exact rfl | exact oR_ok _ _ _ | exact r2_ok _ rfl | refine oB_ok ?_ | refine oB1_ok ?_ | assumption | apply And.intro))
          · (repeat' (first | exact trivial | exact rfl | exact oR_ok _ _ _ | exact r2_ok _ rfl | refine oB_ok ?_ | refine oB1_ok ?_ | assumption | apply And.intro))
        · have x0 : x = 0 := by rw [ltI_f] at k0; have k0 : (x : Int) ≤ 0 := k0; omega
          refine ⟨(), trivial, ?_, by rw [hx.2, x0]; rfl, trivial⟩
          (repeat' (first | exact trivial | exact rfl | exact oR_ok _ _ _ | exact r2_ok _ rfl | refine oB_ok ?_ | refine oB1_ok ?_ | assumption | apply And.intro))
      · have hE : setE most s n at_ = 0 := setE_in k1 k2 k3 c
        have hin : insS n at_ s = (u.1 :: u.2).take (posT (n, at_) (u.1 :: u.2) (u.1 :: u.2).length) ++ (n, at_) :: (u.1 :: u.2).drop (posT (n, at_) (u.1 :: u.2) (u.1 :: u.2).length) := by
          unfold insS; rw [hu.2]; exact ins_posT _ (hu.2 ▸ ers_srt n so)
        have hu0 : 0 < (u.1 :: u.2).length := Nat.zero_lt_succ _
        have hu1 : (u.1 :: u.2).length ≤ 1048576 := by
          rw [← hu.2]; exact Nat.le_trans (List.length_filter_le _ _) hl
        generalize hK : posT (n, at_) (u.1 :: u.2) (u.1 :: u.2).length = K at hin ⊢
        clear hx k0 c0 hu k1 k2 k3
        generalize u.1 :: u.2 = u at *
        have hKl : K ≤ u.length := by rw [← hK]; exact posT_le _ _ _
        have lenI : (u.take K ++ (n, at_) :: u.drop K).length = u.length + 1 := by rw [List.length_append, List.length_cons, List.length_take, List.length_drop]; omega
        have E1 := show List.take (K * 2) (tC u) = tC (u.take K) from row_take [] u K
        have E2 := show List.take ((u.length - K) * 2) (List.drop (0 + K * 2) (tC u)) = tC (u.drop K) from row_drop [] u (x := K)
        have L1 := tC_len u
        have L2 : (tC (u.take K)).length = 2 * K := by rw [tC_len, List.length_take]; omega
        have L3 : (tC (u.take K) ++ [AV.int .i64 n, AV.int .i64 at_]).length = 2 * K + 2 := by rw [List.length_append, L2]; rfl
        have a1 : decide (u.length ≤ u.length) = true := decide_eq_true (Nat.le_refl _)
        have a2 : leI (ic K) (ic u.length) = true := by rw [leI_t]; show (K : Int) ≤ (u.length : Int); omega
        have a3 : decide (0 + K * 2 ≤ 2 * u.length) = true := decide_eq_true (by omega)
        have a4 : decide (0 + K * 2 + (u.length - K) * 2 ≤ 2 * u.length) = true := decide_eq_true (by omega)
        have a5 : decide (0 + K ≤ 9223372036854775807) = true := decide_eq_true (by omega)
        have a6 : decide ((0 + K) * 16 ≤ 140737488355328) = true := decide_eq_true (by omega)
        have a7 : decide (0 + K ≤ 0 + K) = true := decide_eq_true (Nat.le_refl _)
        have a8 : decide (0 + (0 + K) * 2 ≤ 2 * K) = true := decide_eq_true (by omega)
        have a9 : decide (0 + K + 1 ≤ 0 + K) = false := decide_eq_false (by omega)
        have a10 : decide (0 + K + 1 ≤ 9223372036854775807) = true := decide_eq_true (by omega)
        have a11 : decide ((0 + K + 1) * 16 ≤ 140737488355328) = true := decide_eq_true (by omega)
        have a12 : decide (0 + K = 0 + K) = true := decide_eq_true rfl
        have a13 : decide (0 + (0 + K) * 2 = 2 * K) = true := decide_eq_true (by omega)
        have a14 : decide (0 + K + 1 ≤ 0 + K + 1) = true := decide_eq_true (Nat.le_refl _)
        have a15 : decide (0 + (0 + K + 1) * 2 ≤ 2 * K + 2) = true := decide_eq_true (by omega)
        have a16 : decide (0 + K + 1 + (u.length - K) ≤ 9223372036854775807) = true := decide_eq_true (by omega)
        have a17 : decide ((0 + K + 1 + (u.length - K)) * 16 ≤ 140737488355328) = true := decide_eq_true (by omega)
        have a18 : decide (0 + K + 1 = 0 + K + 1) = true := decide_eq_true rfl
        have a19 : decide (0 + (0 + K + 1) * 2 = 2 * K + 2) = true := decide_eq_true (by omega)
        have b1 : decide (1 + (u.length - K) ≤ 9223372036854775807) = true := decide_eq_true (by omega)
        have b2 : decide ((1 + (u.length - K)) * 16 ≤ 140737488355328) = true := decide_eq_true (by omega)
        rcases Nat.eq_zero_or_pos K with hK0 | hK0
        · have c1 : decide (K = u.length) = false := decide_eq_false (by omega)
          have c2 : decide (K = 0) = true := decide_eq_true hK0
          have c3 : decide (u.length - K = 0) = false := decide_eq_false (by omega)
          have c5 : decide (1 + (u.length - K) ≤ 1) = false := decide_eq_false (by omega)
          have key : AV.int .i64 n :: AV.int .i64 at_ :: tC (u.drop K) = tC (u.take K ++ (n, at_) :: u.drop K) := by rw [hK0]; rfl
          have kl : 1 + (u.length - K) = (u.take K ++ (n, at_) :: u.drop K).length := by rw [lenI]; omega
          simp only [hin, pred_nat, List.nil_append, List.drop_zero, E1, E2, L1, L2, L3, tC_one, a1, a2, a3, a4, a5, a6, a7, a8, a9, a10, a11, a12, a13, a14, a15, a16, a17, a18, a19, b1, b2, c1, c2, c3, c5, Bool.and_true, Bool.true_and, Bool.and_self, Bool.not_false, Bool.not_true, decide_true, cond_true, cond_false]
          (repeat' (first | exact trivial | exact rfl | exact oR_ok _ _ _ | exact r2_ok _ rfl | exact r2_ok _ key | refine oB_ok ?_ | refine oB1_ok ?_ | assumption | exact .inr ⟨(), hE, by (repeat' (first | exact trivial | exact rfl | exact oR_ok _ _ _ | exact r2_ok _ rfl | exact r2_ok _ key | refine oB_ok ?_ | refine oB1_ok ?_ | assumption | apply And.intro))⟩ | apply And.intro))
        · have c2 : decide (K = 0) = false := decide_eq_false (by omega)
          have c4 : decide (0 + K ≤ 0) = false := decide_eq_false (by omega)
          rcases Nat.eq_or_lt_of_le hKl with hK1 | hK1
          · have c1 : decide (K = u.length) = true := decide_eq_true hK1
            have key : tC (u.take K) ++ [AV.int .i64 n, AV.int .i64 at_] = tC (u.take K ++ (n, at_) :: u.drop K) := by rw [tC_app, List.drop_of_length_le (by omega)]; rfl
            have kl : 0 + K + 1 = (u.take K ++ (n, at_) :: u.drop K).length := by rw [lenI]; omega
            simp only [hin, pred_nat, List.nil_append, List.drop_zero, E1, E2, L1, L2, L3, tC_one, a1, a2, a3, a4, a5, a6, a7, a8, a9, a10, a11, a12, a13, a14, a15, a16, a17, a18, a19, b1, b2, c1, c2, c4, Bool.and_true, Bool.true_and, Bool.and_self, Bool.not_false, Bool.not_true, decide_true, cond_true, cond_false]
            (repeat' (first | exact trivial | exact rfl | exact oR_ok _ _ _ | exact r2_ok _ rfl | exact r2_ok _ key | refine oB_ok ?_ | refine oB1_ok ?_ | assumption | exact .inr ⟨(), hE, by (repeat' (first | exact trivial | exact rfl | exact oR_ok _ _ _ | exact r2_ok _ rfl | exact r2_ok _ key | refine oB_ok ?_ | refine oB1_ok ?_ | assumption | apply And.intro))⟩ | apply And.intro))
          · have c1 : decide (K = u.length) = false := decide_eq_false (by omega)
            have c3 : decide (u.length - K = 0) = false := decide_eq_false (by omega)
            have c6 : decide (0 + K + 1 + (u.length - K) ≤ 0 + K + 1) = false := decide_eq_false (by omega)
            have key : tC (u.take K) ++ [AV.int .i64 n, AV.int .i64 at_] ++ tC (u.drop K) = tC (u.take K ++ (n, at_) :: u.drop K) := by rw [tC_app, List.append_assoc]; rfl
            have kl : 0 + K + 1 + (u.length - K) = (u.take K ++ (n, at_) :: u.drop K).length := by rw [lenI]; omega
            simp only [hin, pred_nat, List.nil_append, List.drop_zero, E1, E2, L1, L2, L3, tC_one, a1, a2, a3, a4, a5, a6, a7, a8, a9, a10, a11, a12, a13, a14, a15, a16, a17, a18, a19, b1, b2, c1, c2, c3, c4, c6, Bool.and_true, Bool.true_and, Bool.and_self, Bool.not_false, Bool.not_true, decide_true, cond_true, cond_false]
            (repeat' (first | exact trivial | exact rfl | exact oR_ok _ _ _ | exact r2_ok _ rfl | exact r2_ok _ key | refine oB_ok ?_ | refine oB1_ok ?_ | assumption | exact .inr ⟨(), hE, by (repeat' (first | exact trivial | exact rfl | exact oR_ok _ _ _ | exact r2_ok _ rfl | exact r2_ok _ key | refine oB_ok ?_ | refine oB1_ok ?_ | assumption | apply And.intro))⟩ | apply And.intro))
      · rw [eqI_f] at c0
        rcases Nat.lt_or_ge j x with h | h
        · exact hx.2 j h
        · have : j = x := by omega
          subst this; exact c0
      · (repeat' (first | exact trivial | exact rfl | exact oR_ok _ _ _ | exact r2_ok _ rfl | refine oB_ok ?_ | refine oB1_ok ?_ | assumption | apply And.intro))
    · rw [ltI_f] at k
      have k : s.length ≤ x := Int.ofNat_le.1 k
      exact absurd (tmOf_no fun j hj => hx.2 j (by omega)) c
end Go.Proofs.Ytainjcpocodehaa

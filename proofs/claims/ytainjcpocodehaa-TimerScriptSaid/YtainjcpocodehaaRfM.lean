/- The document's Set, of a number that is not there: what the walk asks is so. -/
import Derived.Test.YtainjcpocodehaaRfC1
import Derived.Test.YtainjcpocodehaaRfK
set_option linter.unusedSimpArgs false
set_option linter.unusedVariables false
namespace Go.Proofs.Ytainjcpocodehaa
open Go Go.Ve
set_option maxRecDepth 20000
theorem tlt_a {n at_ : Int} {v : Tm} (a : ltI at_ v.2 = true) : tlt (n, at_) v = true := by
  rw [ltI_t] at a
  exact (tlt_iff _ _).2 (.inl a)
theorem tlt_b {n at_ : Int} {v : Tm} (b : eqI v.2 at_ = true) (d : ltI n v.1 = true) : tlt (n, at_) v = true := by
  rw [ltI_t] at d
  rw [eqI_t] at b
  exact (tlt_iff _ _).2 (.inr ⟨b.symm, d⟩)
theorem tlt_c {n at_ : Int} {v : Tm} (a : ltI at_ v.2 = false) (d : eqI v.2 at_ = true → ltI n v.1 = false) : tlt (n, at_) v = false := by
  cases h : tlt (n, at_) v with
  | false => rfl
  | true =>
    rw [ltI_f] at a
    rcases (tlt_iff _ _).1 h with h1 | ⟨h1, h2⟩
    · have h1 : at_ < v.2 := h1
      omega
    · have h1 : at_ = v.2 := h1
      have := d (by rw [eqI_t]; exact h1.symm)
      rw [ltI_f] at this
      have h2 : n < v.1 := h2
      omega
theorem posT_down {t : Tm} {u : TL} {x : Nat} (hx : 0 < x) (h : tlt t (pk u (x - 1)) = true) : posT t u x = posT t u (x - 1) := by
  match x, hx with
  | k + 1, _ =>
    have h : tlt t (pk u k) = true := h
    show cond (tlt t (pk u k)) (posT t u k) (k + 1) = _
    rw [h]; rfl
theorem posT_stop {t : Tm} {u : TL} {x : Nat} (hx : 0 < x) (h : tlt t (pk u (x - 1)) = false) : posT t u x = x := by
  match x, hx with
  | k + 1, _ =>
    have h : tlt t (pk u k) = false := h
    show cond (tlt t (pk u k)) (posT t u k) (k + 1) = _
    rw [h]; rfl
theorem pred_ok {x : Nat} (hx : 0 < x) (hl : x ≤ 1048576) : (leI (-9223372036854775808) (ic x - 1) && leI (ic x - 1) 9223372036854775807) = true := by
  have h1 : leI (-9223372036854775808) (ic x - 1) = true := by rw [leI_t]; show _ ≤ (x : Int) - 1; omega
  have h2 : leI (ic x - 1) 9223372036854775807 = true := by rw [leI_t]; show (x : Int) - 1 ≤ _; omega
  rw [h1, h2]; rfl
theorem pred_in {x m : Nat} (hx : 0 < x) (hm : x ≤ m) : (leI 0 (ic x - 1) && ltI (ic x - 1) (ic m)) = true := by
  have h1 : leI 0 (ic x - 1) = true := by rw [leI_t]; show 0 ≤ (x : Int) - 1; omega
  have h2 : ltI (ic x - 1) (ic m) = true := by rw [ltI_t]; show (x : Int) - 1 < (m : Int); omega
  rw [h1, h2]; rfl
theorem pred_nat (x : Nat) : (ic x - 1).toNat = x - 1 := by show ((x : Int) - 1).toNat = _; omega
theorem ic_pred {x : Nat} (hx : 0 < x) : ic x - 1 = ic (x - 1) := by show (x : Int) - 1 = ((x - 1 : Nat) : Int); omega
set_option maxHeartbeats 8000000 in
theorem rSe1_vc (n at_ most : Int) (p : TL) (t : Tm) (s : TL) (eq er : Nat) (hu1 : (t :: s).length ≤ 1048576) (so : Srt (t :: s)) (c : tmOf n (t :: s) = none) : vRSe1 n at_ most p t s eq er := by
  rw [vRSe1_eq]
  delta gpRfC11 gpRfC15 gpRfC17 gpRfC113 gpRfC14 gpRfC16 gpRfC19 gpRfC12 gpRfC13 gpRfC10 gpRfC18 gpRfC110 gpRfC111 gpRfC112
  have nf : ∀ v ∈ t :: s, v.1 ≠ n := fun v hv e => by
    unfold tmOf at c
    rw [Option.map_eq_none_iff, List.find?_eq_none] at c
    have := c v hv
    simp [e] at this
  have he : ers n (t :: s) = t :: s := ers_none nf
  refine cond_intro (fun k => ?_) fun k1 => cond_intro (fun k => ?_) fun k2 => cond_intro (fun k => ?_) fun k3 => ?_
  · have h2 : setE most (t :: s) n at_ = 2 := setE_bad (.inl (ltI_t _ _ ▸ k))
    refine .inl ⟨(), by omega, ?_, by omega, trivial⟩
    (repeat' (first | exact trivial | exact rfl | exact oR_ok _ _ _ | exact r2_ok _ rfl | refine oB_ok ?_ | refine oB1_ok ?_ | assumption | apply And.intro))
  · have h2 : setE most (t :: s) n at_ = 2 := setE_bad (.inr (.inl (ltI_t _ _ ▸ k)))
    refine .inl ⟨(), by omega, ?_, by omega, trivial⟩
    (repeat' (first | exact trivial | exact rfl | exact oR_ok _ _ _ | exact r2_ok _ rfl | refine oB_ok ?_ | refine oB1_ok ?_ | assumption | apply And.intro))
  · have h2 : setE most (t :: s) n at_ = 2 := setE_bad (.inr (.inr (ltI_t _ _ ▸ k)))
    refine .inl ⟨(), by omega, ?_, by omega, trivial⟩
    (repeat' (first | exact trivial | exact rfl | exact oR_ok _ _ _ | exact r2_ok _ rfl | refine oB_ok ?_ | refine oB1_ok ?_ | assumption | apply And.intro))
  · refine ⟨⟨0, ⟨Nat.zero_le _, fun j hj => absurd hj (Nat.not_lt_zero _)⟩, ?_, rfl, trivial⟩, fun x hx => cond_intro (fun k => ?_) fun k => ?_⟩
    · (repeat' (first | exact trivial | exact rfl | exact oR_ok _ _ _ | exact r2_ok _ rfl | refine oB_ok ?_ | refine oB1_ok ?_ | assumption | apply And.intro))
    · have k0 := k
      rw [ltI_t] at k
      have k : x < (t :: s).length := Int.ofNat_lt.1 k
      have hne : (pk (t :: s) x).1 ≠ n := nf _ (by rw [pk_get k]; exact List.getElem_mem k)
      refine need_intro k0 ⟨row_get0 p (t :: s) k, cond_intro (fun c0 => ?_) fun c0 => need_intro (by rw [leI_t]; show (x : Int) + 1 ≤ _; omega) ⟨x + 1, ⟨k, fun j hj => ?_⟩, by omega, ?_, rfl, trivial⟩⟩
      · rw [eqI_t] at c0
        exact absurd c0 hne
      · rcases Nat.lt_or_ge j x with h | h
        · exact hx.2 j h
        · have : j = x := by omega
          subst this; exact hne
      · (repeat' (first | exact trivial | exact rfl | exact oR_ok _ _ _ | exact r2_ok _ rfl | refine oB_ok ?_ | refine oB1_ok ?_ | assumption | apply And.intro))
    · refine cond_intro (fun f => ?_) fun f => ⟨⟨(), ⟨c, by rw [leI_f] at f; omega⟩, ?_, trivial⟩, fun _ hc => ⟨?_, fun _ _ => ?_⟩⟩
      · have h9 : setE most (t :: s) n at_ = 9 := by
          rw [leI_t] at f
          rw [ltI_f] at k1 k2 k3
          unfold setE
          rw [if_neg (by omega), if_neg (by rw [c]; exact Bool.false_ne_true), if_pos f]
        refine .inl ⟨(), by omega, ?_, h9.symm, trivial⟩
        (repeat' (first | exact trivial | exact rfl | exact oR_ok _ _ _ | exact r2_ok _ rfl | refine oB_ok ?_ | refine oB1_ok ?_ | assumption | apply And.intro))
      · (repeat' (first | exact trivial | exact rfl | exact oR_ok _ _ _ | exact r2_ok _ rfl | refine oB_ok ?_ | refine oB1_ok ?_ | assumption | apply And.intro))
      · refine ⟨⟨(t :: s).length, ⟨Nat.le_refl _, rfl⟩, ?_, rfl, trivial⟩, fun x hx => cond_intro (fun k0 => ?_) fun k0 => ?_⟩
        · (repeat' (first | exact trivial | exact rfl | exact oR_ok _ _ _ | exact r2_ok _ rfl | refine oB_ok ?_ | refine oB1_ok ?_ | assumption | apply And.intro))
        · have x0 : 0 < x := by rw [ltI_t] at k0; exact Int.ofNat_lt.1 k0
          have m1 := pred_ok x0 (Nat.le_trans hx.1 hu1)
          have m2 := pred_in x0 hx.1
          have hxl : x - 1 < (t :: s).length := by have := hx.1; omega
          have down : tlt (n, at_) (pk (t :: s) (x - 1)) = true → posT (n, at_) (t :: s) (t :: s).length = posT (n, at_) (t :: s) (x - 1) := fun h => hx.2.trans (posT_down x0 h)
          have stop : tlt (n, at_) (pk (t :: s) (x - 1)) = false → ic x = ic (posT (n, at_) (t :: s) (t :: s).length) := fun h => by rw [hx.2, posT_stop x0 h]
          have xl : x - 1 ≤ (t :: s).length := by omega
          have xd : x - 1 < x := by omega
          simp only [m1, m2, pred_nat, cond_true]
          refine ⟨row_get1 p (t :: s) hxl, cond_intro (fun a => ⟨x - 1, ⟨xl, down (tlt_a a)⟩, xd, ?_, ic_pred x0, trivial⟩) fun a => ⟨row_get1 p (t :: s) hxl, cond_intro (fun b => ⟨row_get0 p (t :: s) hxl, cond_intro (fun d => ⟨x - 1, ⟨xl, down (tlt_b b d)⟩, xd, ?_, ic_pred x0, trivial⟩) fun d => ⟨(), trivial, ?_, stop (tlt_c a fun _ => d), trivial⟩⟩) fun b => ⟨(), trivial, ?_, stop (tlt_c a fun b' => by rw [b'] at b; cases b), trivial⟩⟩⟩
          · (repeat' (first | exact trivial | exact rfl | exact oR_ok _ _ _ | exact r2_ok _ rfl | refine oB_ok ?_ | refine oB1_ok ?_ | assumption | apply And.intro))
          · (repeat' (first | exact trivial | exact rfl | exact oR_ok _ _ _ | exact r2_ok _ rfl | refine oB_ok ?_ | refine oB1_ok ?_ | assumption | apply And.intro))
          · (repeat' (first | exact trivial | exact rfl | exact oR_ok _ _ _ | exact r2_ok _ rfl | refine oB_ok ?_ | refine oB1_ok ?_ | assumption | apply And.intro))
          · (repeat' (first | exact trivial | exact rfl | exact oR_ok _ _ _ | exact r2_ok _ rfl | refine oB_ok ?_ | refine oB1_ok ?_ | assumption | apply And.intro))
        · have x0 : x = 0 := by rw [ltI_f] at k0; have k0 : (x : Int) ≤ 0 := k0; omega
          refine ⟨(), trivial, ?_, by rw [hx.2, x0]; rfl, trivial⟩
          (repeat' (first | exact trivial | exact rfl | exact oR_ok _ _ _ | exact r2_ok _ rfl | refine oB_ok ?_ | refine oB1_ok ?_ | assumption | apply And.intro))
      · have hE : setE most (t :: s) n at_ = 0 := by
          rw [ltI_f] at k1 k2 k3
          have h2 := hc.2
          unfold setE
          rw [if_neg (by omega), if_neg (by rw [c]; exact Bool.false_ne_true), if_neg (by show ¬ most ≤ ic _; omega)]
        have hin : insS n at_ (t :: s) = (t :: s).take (posT (n, at_) (t :: s) (t :: s).length) ++ (n, at_) :: (t :: s).drop (posT (n, at_) (t :: s) (t :: s).length) := by
          unfold insS; rw [he]; exact ins_posT _ so
        have hu0 : 0 < (t :: s).length := Nat.zero_lt_succ _
        generalize hK : posT (n, at_) (t :: s) (t :: s).length = K at hin ⊢
        clear hc k2 k3 k1 hx k nf he c so
        generalize t :: s = u at *
        have hKl : K ≤ u.length := by rw [← hK]; exact posT_le _ _ _
        have lenI : (u.take K ++ (n, at_) :: u.drop K).length = u.length + 1 := by rw [List.length_append, List.length_cons, List.length_take, List.length_drop]; omega
        have E1 := row_take p u K
        have E2 := row_drop p u (x := K)
        have L1 := row_len p u
        have L2 : (tC (u.take K)).length = 2 * K := by rw [tC_len, List.length_take]; omega
        have L3 : (tC (u.take K) ++ [AV.int .i64 n, AV.int .i64 at_]).length = 2 * K + 2 := by rw [List.length_append, L2]; rfl
        have a1 : decide (u.length ≤ u.length) = true := decide_eq_true (Nat.le_refl _)
        have a2 : leI (ic K) (ic u.length) = true := by rw [leI_t]; show (K : Int) ≤ (u.length : Int); omega
        have a3 : decide (p.length * 2 + K * 2 ≤ 2 * (p.length + u.length)) = true := decide_eq_true (by omega)
        have a4 : decide (p.length * 2 + K * 2 + (u.length - K) * 2 ≤ 2 * (p.length + u.length)) = true := decide_eq_true (by omega)
        have a5 : decide (0 + K ≤ 9223372036854775807) = true := decide_eq_true (by omega)
        have a6 : decide ((0 + K) * 16 ≤ 140737488355328) = true := decide_eq_true (by omega)
        have a7 : decide (0 + K ≤ 0 + K) = true := decide_eq_true (Nat.le_refl _)
        have a8 : decide (0 + (0 + K) * 2 ≤ 2 * K) = true := decide_eq_true (by omega)
        have a9 : decide (0 + K + 1 ≤ 0 + K) = false := decide_eq_false (by omega)
        have a10 : decide (0 + K + 1 ≤ 9223372036854775807) = true := decide_eq_true (by omega)
        have a11 : decide ((0 + K + 1) * 16 ≤ 140737488355328) = true := decide_eq_true (by omega)
        have a12 : decide (0 + K = 0 + K) = true := decide_eq_true rfl
        have a13 : decide (0 + (0 + K) * 2 = 2 * K) = true := decide_eq_true (by omega)
        have a14 : decide (0 + K + 1 ≤ 0 + K + 1) = true := decide_eq_true (Nat.le_refl _)
        have a15 : decide (0 + (0 + K + 1) * 2 ≤ 2 * K + 2) = true := decide_eq_true (by omega)
        have a16 : decide (0 + K + 1 + (u.length - K) ≤ 9223372036854775807) = true := decide_eq_true (by omega)
        have a17 : decide ((0 + K + 1 + (u.length - K)) * 16 ≤ 140737488355328) = true := decide_eq_true (by omega)
        have a18 : decide (0 + K + 1 = 0 + K + 1) = true := decide_eq_true rfl
        have a19 : decide (0 + (0 + K + 1) * 2 = 2 * K + 2) = true := decide_eq_true (by omega)
        have b1 : decide (1 + (u.length - K) ≤ 9223372036854775807) = true := decide_eq_true (by omega)
        have b2 : decide ((1 + (u.length - K)) * 16 ≤ 140737488355328) = true := decide_eq_true (by omega)
        rcases Nat.eq_zero_or_pos K with hK0 | hK0
        · have c1 : decide (K = u.length) = false := decide_eq_false (by omega)
          have c2 : decide (K = 0) = true := decide_eq_true hK0
          have c3 : decide (u.length - K = 0) = false := decide_eq_false (by omega)
          have c5 : decide (1 + (u.length - K) ≤ 1) = false := decide_eq_false (by omega)
          have key : AV.int .i64 n :: AV.int .i64 at_ :: tC (u.drop K) = tC (u.take K ++ (n, at_) :: u.drop K) := by rw [hK0]; rfl
          have kl : 1 + (u.length - K) = (u.take K ++ (n, at_) :: u.drop K).length := by rw [lenI]; omega
          simp only [hin, pred_nat, List.nil_append, List.drop_zero, E1, E2, L1, L2, L3, tC_one, a1, a2, a3, a4, a5, a6, a7, a8, a9, a10, a11, a12, a13, a14, a15, a16, a17, a18, a19, b1, b2, c1, c2, c3, c5, Bool.and_true, Bool.true_and, Bool.and_self, Bool.not_false, Bool.not_true, decide_true, cond_true, cond_false]
          (repeat' (first | exact trivial | exact rfl | exact oR_ok _ _ _ | exact r2_ok _ rfl | exact r2_ok _ key | refine oB_ok ?_ | refine oB1_ok ?_ | assumption | exact .inr ⟨(), hE, by (repeat' (first | exact trivial | exact rfl | exact oR_ok _ _ _ | exact r2_ok _ rfl | exact r2_ok _ key | refine oB_ok ?_ | refine oB1_ok ?_ | assumption | apply And.intro))⟩ | apply And.intro))
        · have c2 : decide (K = 0) = false := decide_eq_false (by omega)
          have c4 : decide (0 + K ≤ 0) = false := decide_eq_false (by omega)
          rcases Nat.eq_or_lt_of_le hKl with hK1 | hK1
          · have c1 : decide (K = u.length) = true := decide_eq_true hK1
            have key : tC (u.take K) ++ [AV.int .i64 n, AV.int .i64 at_] = tC (u.take K ++ (n, at_) :: u.drop K) := by rw [tC_app, List.drop_of_length_le (by omega)]; rfl
            have kl : 0 + K + 1 = (u.take K ++ (n, at_) :: u.drop K).length := by rw [lenI]; omega
            simp only [hin, pred_nat, List.nil_append, List.drop_zero, E1, E2, L1, L2, L3, tC_one, a1, a2, a3, a4, a5, a6, a7, a8, a9, a10, a11, a12, a13, a14, a15, a16, a17, a18, a19, b1, b2, c1, c2, c4, Bool.and_true, Bool.true_and, Bool.and_self, Bool.not_false, Bool.not_true, decide_true, cond_true, cond_false]
            (repeat' (first | exact trivial | exact rfl | exact oR_ok _ _ _ | exact r2_ok _ rfl | exact r2_ok _ key | refine oB_ok ?_ | refine oB1_ok ?_ | assumption | exact .inr ⟨(), hE, by (repeat' (first | exact trivial | exact rfl | exact oR_ok _ _ _ | exact r2_ok _ rfl | exact r2_ok _ key | refine oB_ok ?_ | refine oB1_ok ?_ | assumption | apply And.intro))⟩ | apply And.intro))
          · have c1 : decide (K = u.length) = false := decide_eq_false (by omega)
            have c3 : decide (u.length - K = 0) = false := decide_eq_false (by omega)
            have c6 : decide (0 + K + 1 + (u.length - K) ≤ 0 + K + 1) = false := decide_eq_false (by omega)
            have key : tC (u.take K) ++ [AV.int .i64 n, AV.int .i64 at_] ++ tC (u.drop K) = tC (u.take K ++ (n, at_) :: u.drop K) := by rw [tC_app, List.append_assoc]; rfl
            have kl : 0 + K + 1 + (u.length - K) = (u.take K ++ (n, at_) :: u.drop K).length := by rw [lenI]; omega
            simp only [hin, pred_nat, List.nil_append, List.drop_zero, E1, E2, L1, L2, L3, tC_one, a1, a2, a3, a4, a5, a6, a7, a8, a9, a10, a11, a12, a13, a14, a15, a16, a17, a18, a19, b1, b2, c1, c2, c3, c4, c6, Bool.and_true, Bool.true_and, Bool.and_self, Bool.not_false, Bool.not_true, decide_true, cond_true, cond_false]
            (repeat' (first | exact trivial | exact rfl | exact oR_ok _ _ _ | exact r2_ok _ rfl | exact r2_ok _ key | refine oB_ok ?_ | refine oB1_ok ?_ | assumption | exact .inr ⟨(), hE, by (repeat' (first | exact trivial | exact rfl | exact oR_ok _ _ _ | exact r2_ok _ rfl | exact r2_ok _ key | refine oB_ok ?_ | refine oB1_ok ?_ | assumption | apply And.intro))⟩ | apply And.intro))
end Go.Proofs.Ytainjcpocodehaa

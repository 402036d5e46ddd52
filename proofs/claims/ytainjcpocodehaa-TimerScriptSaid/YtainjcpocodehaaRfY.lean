/- The law TimerScript: what its walk asks is so. -/
import Derived.Test.YtainjcpocodehaaRfU
import Derived.Test.YtainjcpocodehaaRfW
set_option linter.unusedSimpArgs false
set_option linter.unusedVariables false
namespace Go.Proofs.Ytainjcpocodehaa
open Go Go.Ve
set_option maxRecDepth 20000
theorem isS_0 {l : AL} {i : Nat} (c : eqI (pickN (ak l i).1 5) 0 = true) : eqI (pickN (ak l i).1 5) 0 = isS l i := by unfold isS; rw [c]; rfl
theorem isS_1 {l : AL} {i : Nat} (c : eqI (pickN (ak l i).1 5) 0 = false) : eqI (pickN (ak l i).1 5) 1 = isS l i := by unfold isS; rw [c]; rfl
theorem isS_t {l : AL} {i : Nat} (c : isS l i = true) : kd l i = 0 ∨ kd l i = 1 := by
  unfold isS at c
  rw [Bool.or_eq_true, eqI_t, eqI_t] at c
  exact c
theorem isS_f {l : AL} {i : Nat} (c : isS l i = false) : kd l i ≠ 0 ∧ kd l i ≠ 1 := by
  unfold isS at c
  rw [Bool.or_eq_false_iff, eqI_f, eqI_f] at c
  exact c
theorem not_same {a : Int} (bad : (!eqI a a) = true) : False := by rw [(eqI_t a a).mpr rfl] at bad; cases bad
theorem srt_none {h : TL} (e : srt h = []) : h = [] := by
  have := srt_len h
  rw [e] at this
  exact List.length_eq_zero_iff.1 this.symm
set_option maxHeartbeats 8000000 in
theorem sk_vc (most : Int) (l r : AL) (e : Nat) (ro : Bool) (cc : Nat) (ex : Bool) (hm : 0 ≤ most ∧ most ≤ 1048576) : vSk most l r e ro cc ex := by
  rw [vSk_eq]
  delta gpRfW0 gpRfW1 gpRfW2 gpRfW3 gpRfW4 gpRfW7 gpRfW9 gpRfW10 gpRfW14 gpRfW15 gpRfW16 gpRfW18 gpRfW19 gpRfW20 gpRfW21 gpRfW22 gpRfW23 gpRfW24 gpRfW25 gpRfW26 gpRfW27 gpRfW28 gpRfW29 gpRfW30 gpRfW31 gpRfW32 gpRfW33 gpRfW11 gpRfW34 gpRfW35 gpRfW36 gpRfW37 gpRfW38 gpRfW39 gpRfW40 gpRfW41 gpRfW42 gpRfW17 gpRfW44 gpRfW45 gpRfW5 gpRfW46 gpRfW47 gpRfW48 gpRfW49 gpRfW50 gpRfW51 gpRfW52 gpRfW6 gpRfW53 gpRfW54 gpRfW13 gpRfW43 gpRfW55 gpRfW56 gpRfW57 gpRfW58 gpRfW59 gpRfW60 gpRfW61 gpRfW62 gpRfW63 gpRfW64 gpRfW8 gpRfW12 gpRfW65
  refine cond_intro (fun _ => ⟨(), trivial, ⟨T_ok _ _ _ _, trivial⟩, rfl, trivial⟩) fun hl => ?_
  have hl : l.length ≤ 60 := by
    rw [ltI_f] at hl
    have hl : (l.length : Int) ≤ 60 := hl
    omega
  have v60 : ∀ x : Nat, x < l.length → leI (ic x + 1) 9223372036854775807 = true := fun x hx => by rw [leI_t]; show (x : Int) + 1 ≤ _; omega
  have L : ∀ x : Nat, x < l.length → decide (0 + x * 3 + 3 ≤ (actC (l ++ r)).length) = true := fun x hx => decide_eq_true (by rw [actC_len, List.length_append]; omega)
  have dec : ∀ x : Nat, x < l.length → l.length - (x + 1) < l.length - x := fun x hx => by omega
  refine ⟨hm, hm, .inl ⟨0, ⟨Nat.zero_le _, rfl⟩, by (repeat' (first | exact trivial | exact rfl | exact T_ok _ _ _ _ | exact e_ok _ rfl | exact r2_ok _ rfl | exact oR_ok _ _ _ | refine oB_ok ?_ | refine oB1_ok ?_ | assumption | apply And.intro))⟩, fun x hx => ?_, fun x hx => ?_, fun x hx => ?_, fun x hx => ?_⟩
  · obtain ⟨hx, hs⟩ := hx
    refine cond_intro (fun k => ?_) fun _ => ⟨(), trivial, ⟨T_ok _ _ _ _, trivial⟩, rfl, trivial⟩
    have k1 : x < l.length := by rw [ltI_t] at k; exact Int.ofNat_lt.1 k
    refine need_intro k (need_intro (L x k1) ⟨act_take l r x k1, ⟨cond_intro (fun c => ⟨(), trivial, by (repeat' (first | exact trivial | exact rfl | exact T_ok _ _ _ _ | exact e_ok _ rfl | exact r2_ok _ rfl | exact oR_ok _ _ _ | refine oB_ok ?_ | refine oB1_ok ?_ | assumption | apply And.intro)), isS_0 c, trivial⟩) fun c => ⟨(), trivial, by (repeat' (first | exact trivial | exact rfl | exact T_ok _ _ _ _ | exact e_ok _ rfl | exact r2_ok _ rfl | exact oR_ok _ _ _ | refine oB_ok ?_ | refine oB1_ok ?_ | assumption | apply And.intro)), isS_1 c, trivial⟩, fun _ _ => cond_intro (fun cs => ?_) fun cs => cond_intro (fun c2 => ?_) fun c2 => cond_intro (fun c3 => ?_) fun c3 => ?_⟩, fun _ h1 => ?_, fun x1 hx1 => ?_⟩)
    · have kk := isS_t cs
      by_cases hE : setE most [] (ak l x).2.1 (ak l x).2.2 = 0
      · have eE : eqI (setE most [] (ak l x).2.1 (ak l x).2.2) 0 = true := by rw [hE]; rfl
        have e1 : Sp most l (x + 1) = insS (ak l x).2.1 (ak l x).2.2 [] := by rw [Sp_set kk (by rw [hs]; exact hE), hs]
        simp only [eE, cond_true]
        refine ⟨⟨hm, fun x2 h2 => ?_⟩, trivial⟩
        have key : tC [((ak l x).2.1, (ak l x).2.2)] = tC ([] ++ srt x2.1) := by rw [h2.2.2]; rfl
        have hl1 : 1 = List.length x2.1 := h2.2.1.symm
        have hl2 : 1 = List.length (srt x2.1) := by rw [srt_len]; exact hl1
        have hP : P1 most (Sp most l (x + 1)) (1, x2.1, [], x2.2, [], 2) := ⟨by rw [e1]; exact h2.2.2, h2.1, by show 0 < List.length x2.1; omega⟩
        (repeat' (first | exact trivial | exact rfl | exact T_ok _ _ _ _ | exact e_ok _ rfl | exact r2_ok _ rfl | exact oR_ok _ _ _ | assumption | exact .inr ⟨(1, x2.1, [], x2.2, [], 2), hP, by (repeat' (first | exact trivial | exact rfl | exact T_ok _ _ _ _ | exact e_ok _ rfl | exact r2_ok _ rfl | exact r2_ok _ key | exact oR_ok _ _ _ | refine oB_ok ?_ | refine oB1_ok ?_ | assumption | apply And.intro))⟩ | apply And.intro))
      · have eE : eqI (setE most [] (ak l x).2.1 (ak l x).2.2) 0 = false := by rw [eqI_f]; exact hE
        have e1 : Sp most l (x + 1) = [] := by rw [Sp_not kk (by rw [hs]; exact hE), hs]
        have eS : eqI (setE most [] (ak l x).2.1 (ak l x).2.2) (setE most [] (ak l x).2.1 (ak l x).2.2) = true := (eqI_t _ _).mpr rfl
        simp only [eE, cond_false]
        refine ⟨⟨hm, ?_⟩, trivial⟩
        (repeat' (first | exact trivial | exact rfl | exact T_ok _ _ _ _ | exact e_ok _ rfl | exact r2_ok _ rfl | exact oR_ok _ _ _ | assumption | exact .inl ⟨(), e1, by (repeat' (first | exact trivial | exact rfl | exact T_ok _ _ _ _ | exact e_ok _ rfl | exact r2_ok _ rfl | exact oR_ok _ _ _ | refine oB_ok ?_ | refine oB1_ok ?_ | assumption | apply And.intro))⟩ | apply And.intro))
    · have d2 : kd l x = 2 := by rw [eqI_t] at c2; exact c2
      have e1 : Sp most l (x + 1) = [] := by rw [Sp_can d2, hs]; rfl
      refine ⟨⟨emap_keys [] _, emap_ints [], rfl, ?_⟩, trivial⟩
      (repeat' (first | exact trivial | exact rfl | exact T_ok _ _ _ _ | exact e_ok _ rfl | exact r2_ok _ rfl | exact oR_ok _ _ _ | assumption | exact .inl ⟨(), e1, by (repeat' (first | exact trivial | exact rfl | exact T_ok _ _ _ _ | exact e_ok _ rfl | exact r2_ok _ rfl | exact oR_ok _ _ _ | refine oB_ok ?_ | refine oB1_ok ?_ | assumption | apply And.intro))⟩ | apply And.intro))
    · have d3 : kd l x = 3 := by rw [eqI_t] at c3; exact c3
      have e1 : Sp most l (x + 1) = [] := by rw [Sp_due d3, hs]; rfl
      (repeat' (first | exact trivial | exact rfl | exact T_ok _ _ _ _ | exact e_ok _ rfl | exact r2_ok _ rfl | exact oR_ok _ _ _ | assumption | exact .inl ⟨(), e1, by (repeat' (first | exact trivial | exact rfl | exact T_ok _ _ _ _ | exact e_ok _ rfl | exact r2_ok _ rfl | exact oR_ok _ _ _ | refine oB_ok ?_ | refine oB1_ok ?_ | assumption | apply And.intro))⟩ | apply And.intro))
    · rw [eqI_f] at c2 c3
      have e1 : Sp most l (x + 1) = [] := by rw [Sp_nx (isS_f cs).1 (isS_f cs).2 c2 c3, hs]
      exact .inl ⟨(), e1, by (repeat' (first | exact trivial | exact rfl | exact T_ok _ _ _ _ | exact e_ok _ rfl | exact r2_ok _ rfl | exact oR_ok _ _ _ | refine oB_ok ?_ | refine oB1_ok ?_ | assumption | apply And.intro))⟩
    · exact ⟨emap_keys [] _, emap_ints [], rfl, need_intro (v60 x k1) (.inl ⟨x + 1, ⟨k1, h1⟩, dec x k1, by (repeat' (first | exact trivial | exact rfl | exact T_ok _ _ _ _ | exact e_ok _ rfl | exact r2_ok _ rfl | exact oR_ok _ _ _ | refine oB_ok ?_ | refine oB1_ok ?_ | assumption | apply And.intro))⟩)⟩
    · obtain ⟨c', h', g', m', p', er'⟩ := x1
      obtain ⟨hs', q', hp'⟩ := hx1
      dsimp only at hs' q' hp' ⊢
      rw [hOf_tC h' g', sO_tC p' (srt h'), pO_tC p' (srt h')]
      refine ⟨QP.of q' _ eD_eq, ⟨P1.rq (x := (c', h', g', m', p', er')) ⟨hs', q', hp'⟩ p', rfl⟩, cond_intro (fun bad => (not_same bad).elim) fun _ => cond_intro (fun bad => (not_same bad).elim) fun _ => ⟨⟨QP.of q' _ eD_eq, hp', rfl, srt_len h', rfl, rfl⟩, need_intro (v60 x k1) (.inr (.inl ⟨(x + 1, c', h', g', m', p', er'), ⟨k1, hs', q', hp'⟩, dec x k1, by (repeat' (first | exact trivial | exact rfl | exact T_ok _ _ _ _ | exact e_ok _ rfl | exact r2_ok _ rfl | exact oR_ok _ _ _ | refine oB_ok ?_ | refine oB1_ok ?_ | assumption | apply And.intro))⟩))⟩⟩
  · obtain ⟨i, c, h, g, m, p, er⟩ := x
    obtain ⟨hx, hs, q, hp⟩ := hx
    dsimp only at hx hs q hp ⊢
    refine cond_intro (fun k => ?_) fun _ => ⟨(), trivial, ⟨T_ok _ _ _ _, trivial⟩, rfl, trivial⟩
    have k1 : i < l.length := by rw [ltI_t] at k; exact Int.ofNat_lt.1 k
    rw [hOf_tC h g, sO_tC p (srt h), pO_tC p (srt h)]
    have qp := QP.of (hb := 4) (mb := 1) (eq := 0) q _ eD_eq
    have rq : RQ (tC (p ++ srt h)) (p.length * 2) (srt h).length := P1.rq (x := (c, h, g, m, p, er)) ⟨hs, q, hp⟩ p
    refine need_intro k (need_intro (L i k1) ⟨act_take l r i k1, ⟨cond_intro (fun c => ⟨(), trivial, by (repeat' (first | exact trivial | exact rfl | exact T_ok _ _ _ _ | exact e_ok _ rfl | exact r2_ok _ rfl | exact oR_ok _ _ _ | refine oB_ok ?_ | refine oB1_ok ?_ | assumption | apply And.intro)), isS_0 c, trivial⟩) fun c => ⟨(), trivial, by (repeat' (first | exact trivial | exact rfl | exact T_ok _ _ _ _ | exact e_ok _ rfl | exact r2_ok _ rfl | exact oR_ok _ _ _ | refine oB_ok ?_ | refine oB1_ok ?_ | assumption | apply And.intro)), isS_1 c, trivial⟩, fun _ _ => cond_intro (fun cs => ?_) fun cs => cond_intro (fun c2 => ?_) fun c2 => cond_intro (fun c3 => ?_) fun c3 => ?_⟩, fun x1 hx1 => ?_, fun x1 hx1 => ?_, fun x1 hx1 => ?_⟩)
    · have kk := isS_t cs
      by_cases hE : setE most (srt h) (ak l i).2.1 (ak l i).2.2 = 0
      · have eE : eqI (setE most (srt h) (ak l i).2.1 (ak l i).2.2) 0 = true := by rw [hE]; rfl
        have e1 : Sp most l (i + 1) = insS (ak l i).2.1 (ak l i).2.2 (srt h) := by rw [Sp_set kk (by rw [← hs]; exact hE), hs]
        have pos : 0 < List.length (insS (ak l i).2.1 (ak l i).2.2 (srt h)) := by
          rw [show insS (ak l i).2.1 (ak l i).2.2 (srt h) = ins ((ak l i).2.1, (ak l i).2.2) (ers (ak l i).2.1 (srt h)) from rfl, (ins_perm _ _).length_eq]
          exact Nat.succ_pos _
        simp only [eE, cond_true]
        refine ⟨⟨qp, cond_intro (fun _ => fun x2 h2 => ?_) fun _ => fun x2 h2 => ?_⟩, trivial⟩
        · have key : tC (insS (ak l i).2.1 (ak l i).2.2 (srt h)) = tC ([] ++ srt x2.1) := by rw [h2.2]; rfl
          have hl2 : List.length (insS (ak l i).2.1 (ak l i).2.2 (srt h)) = List.length (srt x2.1) := by rw [h2.2]; rfl
          have hP : P1 most (Sp most l (i + 1)) (c, x2.1, x2.2.1, x2.2.2, [], 2) := ⟨by rw [e1]; exact h2.2, h2.1, by show 0 < List.length x2.1; rw [← srt_len, ← hl2]; exact pos⟩
          (repeat' (first | exact trivial | exact rfl | exact T_ok _ _ _ _ | exact e_ok _ rfl | exact r2_ok _ rfl | exact oR_ok _ _ _ | assumption | exact qp | exact rq | exact .inl ⟨(c, x2.1, x2.2.1, x2.2.2, [], 2), hP, by (repeat' (first | exact trivial | exact rfl | exact T_ok _ _ _ _ | exact e_ok _ rfl | exact r2_ok _ rfl | exact r2_ok _ key | exact oR_ok _ _ _ | refine oB_ok ?_ | refine oB1_ok ?_ | assumption | apply And.intro))⟩ | apply And.intro))
        · have key : tC (insS (ak l i).2.1 (ak l i).2.2 (srt h)) = tC ([] ++ srt x2.1) := by rw [h2.2]; rfl
          have hl2 : List.length (insS (ak l i).2.1 (ak l i).2.2 (srt h)) = List.length (srt x2.1) := by rw [h2.2]; rfl
          have hP : P1 most (Sp most l (i + 1)) (List.length x2.1, x2.1, [], x2.2, [], 2) := ⟨by rw [e1]; exact h2.2, h2.1, by show 0 < List.length x2.1; rw [← srt_len, ← hl2]; exact pos⟩
          (repeat' (first | exact trivial | exact rfl | exact T_ok _ _ _ _ | exact e_ok _ rfl | exact r2_ok _ rfl | exact oR_ok _ _ _ | assumption | exact qp | exact rq | exact .inl ⟨(List.length x2.1, x2.1, [], x2.2, [], 2), hP, by (repeat' (first | exact trivial | exact rfl | exact T_ok _ _ _ _ | exact e_ok _ rfl | exact r2_ok _ rfl | exact r2_ok _ key | exact oR_ok _ _ _ | refine oB_ok ?_ | refine oB1_ok ?_ | assumption | apply And.intro))⟩ | apply And.intro))
      · have eE : eqI (setE most (srt h) (ak l i).2.1 (ak l i).2.2) 0 = false := by rw [eqI_f]; exact hE
        have e1 : Sp most l (i + 1) = srt h := by rw [Sp_not kk (by rw [← hs]; exact hE), hs]
        have eS : eqI (setE most (srt h) (ak l i).2.1 (ak l i).2.2) (setE most (srt h) (ak l i).2.1 (ak l i).2.2) = true := (eqI_t _ _).mpr rfl
        simp only [eE, cond_false]
        (repeat' (first | exact trivial | exact rfl | exact T_ok _ _ _ _ | exact e_ok _ rfl | exact r2_ok _ rfl | exact oR_ok _ _ _ | assumption | exact qp | exact rq | exact .inl ⟨(c, h, g, m, p, er), ⟨e1.symm, q, hp⟩, by (repeat' (first | exact trivial | exact rfl | exact T_ok _ _ _ _ | exact e_ok _ rfl | exact r2_ok _ rfl | exact oR_ok _ _ _ | refine oB_ok ?_ | refine oB1_ok ?_ | assumption | apply And.intro))⟩ | apply And.intro))
    · have d2 : kd l i = 2 := by rw [eqI_t] at c2; exact c2
      cases ht : (tmOf (ak l i).2.1 (srt h)).isSome with
      | true =>
        cases he : (ers (ak l i).2.1 (srt h)).isEmpty with
        | true =>
          simp only [ht, he, cond_true]
          refine ⟨⟨qp, fun x2 h2 => ?_⟩, trivial⟩
          obtain ⟨h', g', m'⟩ := x2
          obtain ⟨q', hs'⟩ := h2
          dsimp only at q' hs' ⊢
          have e0 : ers (ak l i).2.1 (srt h) = [] := List.isEmpty_iff.1 he
          obtain rfl := srt_none (hs'.trans e0)
          have e1 : Sp most l (i + 1) = [] := by rw [Sp_can d2, ← hs, e0]
          (repeat' (first | exact trivial | exact rfl | exact T_ok _ _ _ _ | exact e_ok _ rfl | exact r2_ok _ rfl | exact oR_ok _ _ _ | assumption | exact qp | exact rq | exact .inr (.inl ⟨(c, g', m'), ⟨e1, q'⟩, by (repeat' (first | exact trivial | exact rfl | exact T_ok _ _ _ _ | exact e_ok _ rfl | exact r2_ok _ rfl | exact oR_ok _ _ _ | refine oB_ok ?_ | refine oB1_ok ?_ | assumption | apply And.intro))⟩) | apply And.intro))
        | false =>
          simp only [ht, he, cond_true, cond_false]
          refine ⟨⟨qp, fun x2 h2 => ?_⟩, trivial⟩
          have key : tC (ers (ak l i).2.1 (srt h)) = tC ([] ++ srt x2.1) := by rw [h2.2]; rfl
          have hl2 : List.length (ers (ak l i).2.1 (srt h)) = List.length (srt x2.1) := by rw [h2.2]
          have pos : 0 < List.length (ers (ak l i).2.1 (srt h)) := by
            cases hh : ers (ak l i).2.1 (srt h) with
            | nil => rw [hh] at he; cases he
            | cons a b => exact Nat.succ_pos _
          have hP : P1 most (Sp most l (i + 1)) (c, x2.1, x2.2.1, x2.2.2, [], 2) := ⟨by rw [Sp_can d2, ← hs]; exact h2.2, h2.1, by show 0 < List.length x2.1; rw [← srt_len, ← hl2]; exact pos⟩
          (repeat' (first | exact trivial | exact rfl | exact T_ok _ _ _ _ | exact e_ok _ rfl | exact r2_ok _ rfl | exact oR_ok _ _ _ | assumption | exact qp | exact rq | exact .inl ⟨(c, x2.1, x2.2.1, x2.2.2, [], 2), hP, by (repeat' (first | exact trivial | exact rfl | exact T_ok _ _ _ _ | exact e_ok _ rfl | exact r2_ok _ rfl | exact r2_ok _ key | exact oR_ok _ _ _ | refine oB_ok ?_ | refine oB1_ok ?_ | assumption | apply And.intro))⟩ | apply And.intro))
      | false =>
        simp only [ht, cond_false]
        have e1 : Sp most l (i + 1) = srt h := by rw [Sp_can d2, ← hs, ers_no4 ht]
        (repeat' (first | exact trivial | exact rfl | exact T_ok _ _ _ _ | exact e_ok _ rfl | exact r2_ok _ rfl | exact oR_ok _ _ _ | assumption | exact qp | exact rq | exact .inl ⟨(c, h, g, m, p, er), ⟨e1.symm, q, hp⟩, by (repeat' (first | exact trivial | exact rfl | exact T_ok _ _ _ _ | exact e_ok _ rfl | exact r2_ok _ rfl | exact oR_ok _ _ _ | refine oB_ok ?_ | refine oB1_ok ?_ | assumption | apply And.intro))⟩ | apply And.intro))
    · have d3 : kd l i = 3 := by rw [eqI_t] at c3; exact c3
      have nb : nC (dueL (ak l i).2.2 (srt h)) = iC (getI (nC (dueL (ak l i).2.2 (srt h)))) := by rw [nC_iC, getI_iC]
      have ln : List.length (dueL (ak l i).2.2 (srt h)) ≤ List.length (getI (nC (dueL (ak l i).2.2 (srt h)))) := by rw [nC_iC, getI_iC, List.length_map]; exact Nat.le_refl _
      have lr := dueLR2 (ak l i).2.2 (srt h)
      have l2 : List.length (dueL (ak l i).2.2 (srt h)) ≤ 1048576 := by
        have h1 := congrArg List.length lr
        rw [List.length_append, srt_len] at h1
        have := q.mst
        have := q.top
        omega
      cases hd : (dueL (ak l i).2.2 (srt h)).isEmpty with
      | true =>
        simp only [hd, cond_true]
        have e1 : Sp most l (i + 1) = srt h := by
          rw [Sp_due d3, ← hs]
          rw [List.isEmpty_iff.1 hd, List.nil_append] at lr
          exact lr
        (repeat' (first | exact trivial | exact rfl | exact T_ok _ _ _ _ | exact e_ok _ rfl | exact r2_ok _ rfl | exact oR_ok _ _ _ | assumption | exact qp | exact rq | exact .inl ⟨(c, h, g, m, p, er), ⟨e1.symm, q, hp⟩, by (repeat' (first | exact trivial | exact rfl | exact T_ok _ _ _ _ | exact e_ok _ rfl | exact r2_ok _ rfl | exact oR_ok _ _ _ | refine oB_ok ?_ | refine oB1_ok ?_ | assumption | apply And.intro))⟩ | apply And.intro))
      | false =>
        cases hr : (dueR (ak l i).2.2 (srt h)).isEmpty with
        | true =>
          simp only [hd, hr, cond_true, cond_false]
          refine ⟨⟨qp, fun x2 h2 => ?_⟩, trivial⟩
          obtain ⟨h', g', m'⟩ := x2
          obtain ⟨q', hs'⟩ := h2
          dsimp only at q' hs' ⊢
          have e0 : dueR (ak l i).2.2 (srt h) = [] := List.isEmpty_iff.1 hr
          obtain rfl := srt_none (hs'.trans e0)
          have e1 : Sp most l (i + 1) = [] := by rw [Sp_due d3, ← hs, e0]
          (repeat' (first | exact trivial | exact rfl | exact T_ok _ _ _ _ | exact e_ok _ rfl | exact r2_ok _ rfl | exact oR_ok _ _ _ | assumption | exact qp | exact rq | exact nb | exact ln | exact l2 | exact decide_eq_true rfl | exact .inr (.inr (⟨(c, g', m', (List.length p + (List.length (srt h) - 1)) * 2, 2, p ++ srt h, er), ⟨e1, q'⟩, by (repeat' (first | exact trivial | exact rfl | exact T_ok _ _ _ _ | exact e_ok _ rfl | exact r2_ok _ rfl | exact oR_ok _ _ _ | refine oB_ok ?_ | refine oB1_ok ?_ | assumption | apply And.intro))⟩)) | apply And.intro))
        | false =>
          simp only [hd, hr, cond_true, cond_false]
          refine ⟨⟨qp, fun x2 h2 => ?_⟩, trivial⟩
          have key : tC (p ++ srt h) = tC ((p ++ dueL (ak l i).2.2 (srt h)) ++ srt x2.1) := by rw [h2.2, List.append_assoc, lr]
          have hl2 : List.length (dueR (ak l i).2.2 (srt h)) = List.length (srt x2.1) := by rw [h2.2]
          have hl3 : (List.length p + List.length (dueL (ak l i).2.2 (srt h))) * 2 = List.length (p ++ dueL (ak l i).2.2 (srt h)) * 2 := by rw [List.length_append]
          have pos : 0 < List.length (dueR (ak l i).2.2 (srt h)) := by
            cases hh : dueR (ak l i).2.2 (srt h) with
            | nil => rw [hh] at hr; cases hr
            | cons a b => exact Nat.succ_pos _
          have hP : P1 most (Sp most l (i + 1)) (c, x2.1, x2.2.1, x2.2.2, p ++ dueL (ak l i).2.2 (srt h), er) := ⟨by rw [Sp_due d3, ← hs]; exact h2.2, h2.1, by show 0 < List.length x2.1; rw [← srt_len, ← hl2]; exact pos⟩
          (repeat' (first | exact trivial | exact rfl | exact T_ok _ _ _ _ | exact e_ok _ rfl | exact r2_ok _ rfl | exact oR_ok _ _ _ | assumption | exact qp | exact rq | exact nb | exact ln | exact l2 | exact decide_eq_true rfl | exact .inl ⟨(c, x2.1, x2.2.1, x2.2.2, p ++ dueL (ak l i).2.2 (srt h), er), hP, by (repeat' (first | exact trivial | exact rfl | exact T_ok _ _ _ _ | exact e_ok _ rfl | exact r2_ok _ rfl | exact r2_ok _ key | exact oR_ok _ _ _ | refine oB_ok ?_ | refine oB1_ok ?_ | assumption | apply And.intro))⟩ | apply And.intro))
    · rw [eqI_f] at c2 c3
      have e1 : Sp most l (i + 1) = srt h := by rw [Sp_nx (isS_f cs).1 (isS_f cs).2 c2 c3, hs]
      have n1 : eqI (nxN (srt h)) (nxN (srt h)) = true := (eqI_t _ _).mpr rfl
      have n2 : eqI (nxT (srt h)) (nxT (srt h)) = true := (eqI_t _ _).mpr rfl
      have n3 : nxE (srt h) = 0 := by
        cases hh : srt h with
        | nil => have := srt_none hh; subst this; exact absurd hp (Nat.lt_irrefl 0)
        | cons a b => rfl
      have n4 : eqI (nxE (srt h)) 0 = true := by rw [n3]; rfl
      simp only [n1, n2, n4, cond_true]
      (repeat' (first | exact trivial | exact rfl | exact T_ok _ _ _ _ | exact e_ok _ rfl | exact r2_ok _ rfl | exact oR_ok _ _ _ | assumption | exact qp | exact rq | exact .inl ⟨(c, h, g, m, p, er), ⟨e1.symm, q, hp⟩, by (repeat' (first | exact trivial | exact rfl | exact T_ok _ _ _ _ | exact e_ok _ rfl | exact r2_ok _ rfl | exact oR_ok _ _ _ | refine oB_ok ?_ | refine oB1_ok ?_ | assumption | apply And.intro))⟩ | apply And.intro))
    · obtain ⟨c', h', g', m', p', er'⟩ := x1
      obtain ⟨hs', q', hp'⟩ := hx1
      dsimp only at hs' q' hp' ⊢
      rw [hOf_tC h' g', sO_tC p' (srt h'), pO_tC p' (srt h')]
      refine ⟨QP.of q' _ eD_eq, ⟨P1.rq (x := (c', h', g', m', p', er')) ⟨hs', q', hp'⟩ p', rfl⟩, cond_intro (fun bad => (not_same bad).elim) fun _ => cond_intro (fun bad => (not_same bad).elim) fun _ => ⟨⟨QP.of q' _ eD_eq, hp', rfl, srt_len h', rfl, rfl⟩, need_intro (v60 i k1) (.inr (.inl ⟨(i + 1, c', h', g', m', p', er'), ⟨k1, hs', q', hp'⟩, dec i k1, by (repeat' (first | exact trivial | exact rfl | exact T_ok _ _ _ _ | exact e_ok _ rfl | exact r2_ok _ rfl | exact oR_ok _ _ _ | refine oB_ok ?_ | refine oB1_ok ?_ | assumption | apply And.intro))⟩))⟩⟩
    · obtain ⟨c', g', m'⟩ := x1
      obtain ⟨hs', q'⟩ := hx1
      dsimp only at hs' q' ⊢
      exact ⟨QP.of (h := []) q' _ eD_eq, ⟨QP.of (h := []) q' _ eD_eq, rfl, rfl, rfl, rfl, rfl, rfl⟩, need_intro (v60 i k1) (.inr (.inr (.inl ⟨(i + 1, c', g', m'), ⟨k1, hs', q'⟩, dec i k1, by (repeat' (first | exact trivial | exact rfl | exact T_ok _ _ _ _ | exact e_ok _ rfl | exact r2_ok _ rfl | exact oR_ok _ _ _ | refine oB_ok ?_ | refine oB1_ok ?_ | assumption | apply And.intro))⟩)))⟩
    · obtain ⟨c', g', m', off', adv', row', er'⟩ := x1
      obtain ⟨hs', q'⟩ := hx1
      dsimp only at hs' q' ⊢
      exact ⟨QP.of (h := []) q' _ eD_eq, ⟨QP.of (h := []) q' _ eD_eq, rfl, by rw [getT_tC]⟩, need_intro (v60 i k1) (.inr (.inr (.inr ⟨(i + 1, c', g', m', off', adv', row', er'), ⟨k1, hs', q'⟩, dec i k1, by (repeat' (first | exact trivial | exact rfl | exact T_ok _ _ _ _ | exact e_ok _ rfl | exact r2_ok _ rfl | exact oR_ok _ _ _ | refine oB_ok ?_ | refine oB1_ok ?_ | assumption | apply And.intro))⟩)))⟩
  · obtain ⟨i, c, g, m⟩ := x
    obtain ⟨hx, hs, q⟩ := hx
    dsimp only at hx hs q ⊢
    refine cond_intro (fun k => ?_) fun _ => ⟨(), trivial, ⟨T_ok _ _ _ _, trivial⟩, rfl, trivial⟩
    have k1 : i < l.length := by rw [ltI_t] at k; exact Int.ofNat_lt.1 k
    have s0 : srt (hOf (tC g) 0) = [] := rfl
    rw [s0]
    have qp := QP.of (h := []) (hb := 4) (mb := 1) (eq := 0) q _ eD_eq
    refine need_intro k (need_intro (L i k1) ⟨act_take l r i k1, ⟨cond_intro (fun c => ⟨(), trivial, by (repeat' (first | exact trivial | exact rfl | exact T_ok _ _ _ _ | exact e_ok _ rfl | exact r2_ok _ rfl | exact oR_ok _ _ _ | refine oB_ok ?_ | refine oB1_ok ?_ | assumption | apply And.intro)), isS_0 c, trivial⟩) fun c => ⟨(), trivial, by (repeat' (first | exact trivial | exact rfl | exact T_ok _ _ _ _ | exact e_ok _ rfl | exact r2_ok _ rfl | exact oR_ok _ _ _ | refine oB_ok ?_ | refine oB1_ok ?_ | assumption | apply And.intro)), isS_1 c, trivial⟩, fun _ _ => cond_intro (fun cs => ?_) fun cs => cond_intro (fun c2 => ?_) fun c2 => cond_intro (fun c3 => ?_) fun c3 => ?_⟩, fun x1 hx1 => ?_, fun x1 hx1 => ?_⟩)
    · have kk := isS_t cs
      by_cases hE : setE most [] (ak l i).2.1 (ak l i).2.2 = 0
      · have eE : eqI (setE most [] (ak l i).2.1 (ak l i).2.2) 0 = true := by rw [hE]; rfl
        have e1 : Sp most l (i + 1) = insS (ak l i).2.1 (ak l i).2.2 [] := by rw [Sp_set kk (by rw [hs]; exact hE), hs]
        simp only [eE, cond_true]
        refine ⟨⟨qp, cond_intro (fun _ => fun x2 h2 => ?_) fun _ => fun x2 h2 => ?_⟩, trivial⟩
        · have key : tC [((ak l i).2.1, (ak l i).2.2)] = tC ([] ++ srt x2.1) := by rw [h2.2]; rfl
          have hl2 : 1 = List.length (srt x2.1) := by rw [h2.2]; rfl
          have hP : P1 most (Sp most l (i + 1)) (c, x2.1, x2.2.1, x2.2.2, [], 2) := ⟨by rw [e1]; exact h2.2, h2.1, by show 0 < List.length x2.1; rw [← srt_len]; omega⟩
          (repeat' (first | exact trivial | exact rfl | exact T_ok _ _ _ _ | exact e_ok _ rfl | exact r2_ok _ rfl | exact oR_ok _ _ _ | assumption | exact qp | exact .inl ⟨(c, x2.1, x2.2.1, x2.2.2, [], 2), hP, by (repeat' (first | exact trivial | exact rfl | exact T_ok _ _ _ _ | exact e_ok _ rfl | exact r2_ok _ rfl | exact r2_ok _ key | exact oR_ok _ _ _ | refine oB_ok ?_ | refine oB1_ok ?_ | assumption | apply And.intro))⟩ | apply And.intro))
        · have key : tC [((ak l i).2.1, (ak l i).2.2)] = tC ([] ++ srt x2.1) := by rw [h2.2]; rfl
          have hl2 : 1 = List.length (srt x2.1) := by rw [h2.2]; rfl
          have hP : P1 most (Sp most l (i + 1)) (List.length x2.1, x2.1, [], x2.2, [], 2) := ⟨by rw [e1]; exact h2.2, h2.1, by show 0 < List.length x2.1; rw [← srt_len]; omega⟩
          (repeat' (first | exact trivial | exact rfl | exact T_ok _ _ _ _ | exact e_ok _ rfl | exact r2_ok _ rfl | exact oR_ok _ _ _ | assumption | exact qp | exact .inl ⟨(List.length x2.1, x2.1, [], x2.2, [], 2), hP, by (repeat' (first | exact trivial | exact rfl | exact T_ok _ _ _ _ | exact e_ok _ rfl | exact r2_ok _ rfl | exact r2_ok _ key | exact oR_ok _ _ _ | refine oB_ok ?_ | refine oB1_ok ?_ | assumption | apply And.intro))⟩ | apply And.intro))
      · have eE : eqI (setE most [] (ak l i).2.1 (ak l i).2.2) 0 = false := by rw [eqI_f]; exact hE
        have e1 : Sp most l (i + 1) = [] := by rw [Sp_not kk (by rw [hs]; exact hE), hs]
        have eS : eqI (setE most [] (ak l i).2.1 (ak l i).2.2) (setE most [] (ak l i).2.1 (ak l i).2.2) = true := (eqI_t _ _).mpr rfl
        simp only [eE, cond_false]
        (repeat' (first | exact trivial | exact rfl | exact T_ok _ _ _ _ | exact e_ok _ rfl | exact r2_ok _ rfl | exact oR_ok _ _ _ | assumption | exact qp | exact .inr (⟨(c, g, m), ⟨e1, q⟩, by (repeat' (first | exact trivial | exact rfl | exact T_ok _ _ _ _ | exact e_ok _ rfl | exact r2_ok _ rfl | exact oR_ok _ _ _ | refine oB_ok ?_ | refine oB1_ok ?_ | assumption | apply And.intro))⟩) | apply And.intro))
    · have d2 : kd l i = 2 := by rw [eqI_t] at c2; exact c2
      have e1 : Sp most l (i + 1) = [] := by rw [Sp_can d2, hs]; rfl
      (repeat' (first | exact trivial | exact rfl | exact T_ok _ _ _ _ | exact e_ok _ rfl | exact r2_ok _ rfl | exact oR_ok _ _ _ | assumption | exact qp | exact .inr (⟨(c, g, m), ⟨e1, q⟩, by (repeat' (first | exact trivial | exact rfl | exact T_ok _ _ _ _ | exact e_ok _ rfl | exact r2_ok _ rfl | exact oR_ok _ _ _ | refine oB_ok ?_ | refine oB1_ok ?_ | assumption | apply And.intro))⟩) | apply And.intro))
    · have d3 : kd l i = 3 := by rw [eqI_t] at c3; exact c3
      have e1 : Sp most l (i + 1) = [] := by rw [Sp_due d3, hs]; rfl
      (repeat' (first | exact trivial | exact rfl | exact T_ok _ _ _ _ | exact e_ok _ rfl | exact r2_ok _ rfl | exact oR_ok _ _ _ | assumption | exact qp | exact .inr (⟨(c, g, m), ⟨e1, q⟩, by (repeat' (first | exact trivial | exact rfl | exact T_ok _ _ _ _ | exact e_ok _ rfl | exact r2_ok _ rfl | exact oR_ok _ _ _ | refine oB_ok ?_ | refine oB1_ok ?_ | assumption | apply And.intro))⟩) | apply And.intro))
    · rw [eqI_f] at c2 c3
      have e1 : Sp most l (i + 1) = [] := by rw [Sp_nx (isS_f cs).1 (isS_f cs).2 c2 c3, hs]
      (repeat' (first | exact trivial | exact rfl | exact T_ok _ _ _ _ | exact e_ok _ rfl | exact r2_ok _ rfl | exact oR_ok _ _ _ | assumption | exact qp | exact .inr (⟨(c, g, m), ⟨e1, q⟩, by (repeat' (first | exact trivial | exact rfl | exact T_ok _ _ _ _ | exact e_ok _ rfl | exact r2_ok _ rfl | exact oR_ok _ _ _ | refine oB_ok ?_ | refine oB1_ok ?_ | assumption | apply And.intro))⟩) | apply And.intro))
    · obtain ⟨c', h', g', m', p', er'⟩ := x1
      obtain ⟨hs', q', hp'⟩ := hx1
      dsimp only at hs' q' hp' ⊢
      rw [hOf_tC h' g', sO_tC p' (srt h'), pO_tC p' (srt h')]
      refine ⟨QP.of q' _ eD_eq, ⟨P1.rq (x := (c', h', g', m', p', er')) ⟨hs', q', hp'⟩ p', rfl⟩, cond_intro (fun bad => (not_same bad).elim) fun _ => cond_intro (fun bad => (not_same bad).elim) fun _ => ⟨⟨QP.of q' _ eD_eq, hp', rfl, srt_len h', rfl, rfl⟩, need_intro (v60 i k1) (.inr (.inl ⟨(i + 1, c', h', g', m', p', er'), ⟨k1, hs', q', hp'⟩, dec i k1, by (repeat' (first | exact trivial | exact rfl | exact T_ok _ _ _ _ | exact e_ok _ rfl | exact r2_ok _ rfl | exact oR_ok _ _ _ | refine oB_ok ?_ | refine oB1_ok ?_ | assumption | apply And.intro))⟩))⟩⟩
    · obtain ⟨c', g', m'⟩ := x1
      obtain ⟨hs', q'⟩ := hx1
      dsimp only at hs' q' ⊢
      exact ⟨QP.of (h := []) q' _ eD_eq, ⟨QP.of (h := []) q' _ eD_eq, rfl, rfl, rfl, rfl, rfl, rfl⟩, need_intro (v60 i k1) (.inr (.inr (.inl ⟨(i + 1, c', g', m'), ⟨k1, hs', q'⟩, dec i k1, by (repeat' (first | exact trivial | exact rfl | exact T_ok _ _ _ _ | exact e_ok _ rfl | exact r2_ok _ rfl | exact oR_ok _ _ _ | refine oB_ok ?_ | refine oB1_ok ?_ | assumption | apply And.intro))⟩)))⟩
  · obtain ⟨i, c, g, m, off, adv, row, er⟩ := x
    obtain ⟨hx, hs, q⟩ := hx
    dsimp only at hx hs q ⊢
    refine cond_intro (fun k => ?_) fun _ => ⟨(), trivial, ⟨T_ok _ _ _ _, trivial⟩, rfl, trivial⟩
    have k1 : i < l.length := by rw [ltI_t] at k; exact Int.ofNat_lt.1 k
    have s0 : srt (hOf (tC g) 0) = [] := rfl
    rw [s0]
    have qp := QP.of (h := []) (hb := 4) (mb := 1) (eq := 0) q _ eD_eq
    refine need_intro k (need_intro (L i k1) ⟨act_take l r i k1, ⟨cond_intro (fun c => ⟨(), trivial, by (repeat' (first | exact trivial | exact rfl | exact T_ok _ _ _ _ | exact e_ok _ rfl | exact r2_ok _ rfl | exact oR_ok _ _ _ | refine oB_ok ?_ | refine oB1_ok ?_ | assumption | apply And.intro)), isS_0 c, trivial⟩) fun c => ⟨(), trivial, by (repeat' (first | exact trivial | exact rfl | exact T_ok _ _ _ _ | exact e_ok _ rfl | exact r2_ok _ rfl | exact oR_ok _ _ _ | refine oB_ok ?_ | refine oB1_ok ?_ | assumption | apply And.intro)), isS_1 c, trivial⟩, fun _ _ => cond_intro (fun cs => ?_) fun cs => cond_intro (fun c2 => ?_) fun c2 => cond_intro (fun c3 => ?_) fun c3 => ?_⟩, fun x1 hx1 => ?_, fun x1 hx1 => ?_⟩)
    · have kk := isS_t cs
      by_cases hE : setE most [] (ak l i).2.1 (ak l i).2.2 = 0
      · have eE : eqI (setE most [] (ak l i).2.1 (ak l i).2.2) 0 = true := by rw [hE]; rfl
        have e1 : Sp most l (i + 1) = insS (ak l i).2.1 (ak l i).2.2 [] := by rw [Sp_set kk (by rw [hs]; exact hE), hs]
        simp only [eE, cond_true]
        refine ⟨⟨qp, cond_intro (fun _ => fun x2 h2 => ?_) fun _ => fun x2 h2 => ?_⟩, trivial⟩
        · have key : tC [((ak l i).2.1, (ak l i).2.2)] = tC ([] ++ srt x2.1) := by rw [h2.2]; rfl
          have hl2 : 1 = List.length (srt x2.1) := by rw [h2.2]; rfl
          have hP : P1 most (Sp most l (i + 1)) (c, x2.1, x2.2.1, x2.2.2, [], 2) := ⟨by rw [e1]; exact h2.2, h2.1, by show 0 < List.length x2.1; rw [← srt_len]; omega⟩
          (repeat' (first | exact trivial | exact rfl | exact T_ok _ _ _ _ | exact e_ok _ rfl | exact r2_ok _ rfl | exact oR_ok _ _ _ | assumption | exact qp | exact (congrArg tC (getT_tC row).symm) | exact .inl ⟨(c, x2.1, x2.2.1, x2.2.2, [], 2), hP, by (repeat' (first | exact trivial | exact rfl | exact T_ok _ _ _ _ | exact e_ok _ rfl | exact r2_ok _ rfl | exact r2_ok _ key | exact oR_ok _ _ _ | refine oB_ok ?_ | refine oB1_ok ?_ | assumption | apply And.intro))⟩ | apply And.intro))
        · have key : tC [((ak l i).2.1, (ak l i).2.2)] = tC ([] ++ srt x2.1) := by rw [h2.2]; rfl
          have hl2 : 1 = List.length (srt x2.1) := by rw [h2.2]; rfl
          have hP : P1 most (Sp most l (i + 1)) (List.length x2.1, x2.1, [], x2.2, [], 2) := ⟨by rw [e1]; exact h2.2, h2.1, by show 0 < List.length x2.1; rw [← srt_len]; omega⟩
          (repeat' (first | exact trivial | exact rfl | exact T_ok _ _ _ _ | exact e_ok _ rfl | exact r2_ok _ rfl | exact oR_ok _ _ _ | assumption | exact qp | exact (congrArg tC (getT_tC row).symm) | exact .inl ⟨(List.length x2.1, x2.1, [], x2.2, [], 2), hP, by (repeat' (first | exact trivial | exact rfl | exact T_ok _ _ _ _ | exact e_ok _ rfl | exact r2_ok _ rfl | exact r2_ok _ key | exact oR_ok _ _ _ | refine oB_ok ?_ | refine oB1_ok ?_ | assumption | apply And.intro))⟩ | apply And.intro))
      · have eE : eqI (setE most [] (ak l i).2.1 (ak l i).2.2) 0 = false := by rw [eqI_f]; exact hE
        have e1 : Sp most l (i + 1) = [] := by rw [Sp_not kk (by rw [hs]; exact hE), hs]
        have eS : eqI (setE most [] (ak l i).2.1 (ak l i).2.2) (setE most [] (ak l i).2.1 (ak l i).2.2) = true := (eqI_t _ _).mpr rfl
        simp only [eE, cond_false]
        (repeat' (first | exact trivial | exact rfl | exact T_ok _ _ _ _ | exact e_ok _ rfl | exact r2_ok _ rfl | exact oR_ok _ _ _ | assumption | exact qp | exact (congrArg tC (getT_tC row).symm) | exact .inr (⟨(c, g, m, off, adv, row, er), ⟨e1, q⟩, by (repeat' (first | exact trivial | exact rfl | exact T_ok _ _ _ _ | exact e_ok _ rfl | exact r2_ok _ rfl | exact oR_ok _ _ _ | refine oB_ok ?_ | refine oB1_ok ?_ | assumption | apply And.intro))⟩) | apply And.intro))
    · have d2 : kd l i = 2 := by rw [eqI_t] at c2; exact c2
      have e1 : Sp most l (i + 1) = [] := by rw [Sp_can d2, hs]; rfl
      (repeat' (first | exact trivial | exact rfl | exact T_ok _ _ _ _ | exact e_ok _ rfl | exact r2_ok _ rfl | exact oR_ok _ _ _ | assumption | exact qp | exact (congrArg tC (getT_tC row).symm) | exact .inr (⟨(c, g, m, off, adv, row, er), ⟨e1, q⟩, by (repeat' (first | exact trivial | exact rfl | exact T_ok _ _ _ _ | exact e_ok _ rfl | exact r2_ok _ rfl | exact oR_ok _ _ _ | refine oB_ok ?_ | refine oB1_ok ?_ | assumption | apply And.intro))⟩) | apply And.intro))
    · have d3 : kd l i = 3 := by rw [eqI_t] at c3; exact c3
      have e1 : Sp most l (i + 1) = [] := by rw [Sp_due d3, hs]; rfl
      (repeat' (first | exact trivial | exact rfl | exact T_ok _ _ _ _ | exact e_ok _ rfl | exact r2_ok _ rfl | exact oR_ok _ _ _ | assumption | exact qp | exact (congrArg tC (getT_tC row).symm) | exact .inr (⟨(c, g, m, off, adv, row, er), ⟨e1, q⟩, by (repeat' (first | exact trivial | exact rfl | exact T_ok _ _ _ _ | exact e_ok _ rfl | exact r2_ok _ rfl | exact oR_ok _ _ _ | refine oB_ok ?_ | refine oB1_ok ?_ | assumption | apply And.intro))⟩) | apply And.intro))
    · rw [eqI_f] at c2 c3
      have e1 : Sp most l (i + 1) = [] := by rw [Sp_nx (isS_f cs).1 (isS_f cs).2 c2 c3, hs]
      (repeat' (first | exact trivial | exact rfl | exact T_ok _ _ _ _ | exact e_ok _ rfl | exact r2_ok _ rfl | exact oR_ok _ _ _ | assumption | exact qp | exact (congrArg tC (getT_tC row).symm) | exact .inr (⟨(c, g, m, off, adv, row, er), ⟨e1, q⟩, by (repeat' (first | exact trivial | exact rfl | exact T_ok _ _ _ _ | exact e_ok _ rfl | exact r2_ok _ rfl | exact oR_ok _ _ _ | refine oB_ok ?_ | refine oB1_ok ?_ | assumption | apply And.intro))⟩) | apply And.intro))
    · obtain ⟨c', h', g', m', p', er'⟩ := x1
      obtain ⟨hs', q', hp'⟩ := hx1
      dsimp only at hs' q' hp' ⊢
      rw [hOf_tC h' g', sO_tC p' (srt h'), pO_tC p' (srt h')]
      refine ⟨QP.of q' _ eD_eq, ⟨P1.rq (x := (c', h', g', m', p', er')) ⟨hs', q', hp'⟩ p', rfl⟩, cond_intro (fun bad => (not_same bad).elim) fun _ => cond_intro (fun bad => (not_same bad).elim) fun _ => ⟨⟨QP.of q' _ eD_eq, hp', rfl, srt_len h', rfl, rfl⟩, need_intro (v60 i k1) (.inr (.inl ⟨(i + 1, c', h', g', m', p', er'), ⟨k1, hs', q', hp'⟩, dec i k1, by (repeat' (first | exact trivial | exact rfl | exact T_ok _ _ _ _ | exact e_ok _ rfl | exact r2_ok _ rfl | exact oR_ok _ _ _ | refine oB_ok ?_ | refine oB1_ok ?_ | assumption | apply And.intro))⟩))⟩⟩
    · obtain ⟨c', g', m', off', adv', row', er'⟩ := x1
      obtain ⟨hs', q'⟩ := hx1
      dsimp only at hs' q' ⊢
      exact ⟨QP.of (h := []) q' _ eD_eq, ⟨QP.of (h := []) q' _ eD_eq, rfl, by rw [getT_tC]⟩, need_intro (v60 i k1) (.inr (.inr (.inr ⟨(i + 1, c', g', m', off', adv', row', er'), ⟨k1, hs', q'⟩, dec i k1, by (repeat' (first | exact trivial | exact rfl | exact T_ok _ _ _ _ | exact e_ok _ rfl | exact r2_ok _ rfl | exact oR_ok _ _ _ | refine oB_ok ?_ | refine oB1_ok ?_ | assumption | apply And.intro))⟩)))⟩
end Go.Proofs.Ytainjcpocodehaa

/- The document's queue: what the walk of Due asks is so. -/
import Derived.Test.YtainjcpocodehaaRfD
set_option linter.unusedSimpArgs false
set_option linter.unusedVariables false
namespace Go.Proofs.Ytainjcpocodehaa
open Go Go.Ve
set_option maxRecDepth 20000
theorem nC_tk {l : TL} {i : Nat} (h : i < l.length) : nC (l.take (i + 1)) = nC (l.take i) ++ [.int .i64 (pk l i).1] := by
  rw [List.take_succ_eq_append_getElem h, pk_get h]
  unfold nC
  rw [List.map_append]
  rfl
theorem nC_eq (σ : Nat → Nat) {a : TL} {s : List AV} (h : s = nC a) : cellsP σ (nC a) s ∧ True := ⟨cellsP_flat (nC_flat _) h, trivial⟩
theorem due_at {now : Int} {s : TL} {x : Nat} (h : ∀ i, i < x → (pk s i).2 ≤ now) (hx : x ≤ s.length) (h2 : x = s.length ∨ now < (pk s x).2) : dueL now s = s.take x ∧ dueR now s = s.drop x := by
  have h3 := due_split (now := now) (out := s.take x) (r := s.drop x) (fun t ht => ?_) ?_
  · rw [List.take_append_drop] at h3; exact h3
  · obtain ⟨i, hi, rfl⟩ := mem_pk ht
    rw [List.length_take] at hi
    rw [pk_take (by omega)]
    exact h i (by omega)
  · rcases h2 with h2 | h2
    · exact .inl (List.drop_of_length_le (by omega))
    · rcases Nat.lt_or_ge x s.length with h4 | h4
      · exact .inr ⟨pk s x, s.drop (x + 1), drop_pk h4, h2⟩
      · exact .inl (List.drop_of_length_le h4)
theorem row_gx0 (p s : TL) {i : Nat} (hi : i < s.length) : (tC (p ++ s))[(p.length + i) * 2 + 0 + 0]? = some (.int .i64 (pk s i).1) := by
  rw [← row_get0 p s hi]; congr 1; omega
theorem row_gx1 (p s : TL) {i : Nat} (hi : i < s.length) : (tC (p ++ s))[(p.length + i) * 2 + 0 + 1]? = some (.int .i64 (pk s i).2) := by
  rw [← row_get1 p s hi]; congr 1; omega
set_option maxHeartbeats 4000000 in
theorem rDu_vc (now most : Int) (p s : TL) (eq er : Nat) (hs : 0 < s.length) (hl : s.length ≤ 1048576) : vRDu now most p s eq er := by
  rw [vRDu_eq]
  have z : decide (s.length ≤ s.length) = true := decide_eq_true (Nat.le_refl _)
  have one : leI 1 (ic s.length) = true := by rw [leI_t]; show (1 : Int) ≤ (s.length : Int); omega
  refine ⟨.inl ⟨(), trivial, ?_, trivial, trivial⟩, fun _ _ => cond_intro (fun k => ?_) fun k => ?_, fun x hx => cond_intro (fun k => ?_) fun k => ?_, fun _ hx => ?_⟩
  · (repeat' (first | exact trivial | exact rfl | exact oR_ok _ _ _ | exact r2_ok _ rfl | refine oB_ok ?_ | assumption | apply And.intro))
  · refine need_intro k ⟨row_get1 p s hs, cond_intro (fun d => need_intro k ⟨row_get0 p s hs, need_intro z (need_intro one (cond_intro (fun o => .inr (.inr ⟨(), fun i hi => ?_, by omega, ?_, ?_, trivial⟩)) fun o => .inr (.inl ⟨1, ⟨Nat.le_refl _, ?_, fun i hi => ?_⟩, by omega, ?_, ?_, trivial⟩)))⟩) fun d => .inl ⟨(), ?_, ?_, trivial, trivial⟩⟩
    · have o := of_decide_eq_true o
      obtain rfl : i = 0 := by omega
      rw [leI_t] at d; exact d
    · have o := of_decide_eq_true o
      have e1 : nC s = [AV.int .i64 (pk s 0).1] := by
        have := nC_tk (l := s) (i := 0) hs
        rw [List.take_of_length_le (by omega)] at this
        exact this
      rw [e1]
      refine ⟨oB_ok ⟨⟨rfl, ⟨by omega, rfl⟩, trivial⟩, trivial⟩, oR_ok _ _ _, ⟨cellsP_flat (nC_flat [((pk s 0).1, 0)]) rfl, trivial⟩, trivial⟩
    · have o := of_decide_eq_true o
      exact ⟨rfl, o, o, rfl⟩
    · have o := of_decide_eq_false o
      omega
    · obtain rfl : i = 0 := by omega
      rw [leI_t] at d; exact d
    · refine ⟨oB_ok ⟨⟨rfl, ⟨by omega, rfl, rfl, rfl⟩, trivial⟩, trivial⟩, oR_ok _ _ _, nC_eq _ (nC_tk (l := s) (i := 0) hs).symm, trivial⟩
    · exact ⟨rfl, rfl, rfl, rfl⟩
    · rw [leI_f] at d
      exact (due_at (x := 0) (fun i hi => absurd hi (Nat.not_lt_zero _)) (Nat.zero_le _) (.inr d)).1
    · (repeat' (first | exact trivial | exact rfl | exact oR_ok _ _ _ | exact r2_ok _ rfl | refine oB_ok ?_ | assumption | apply And.intro))
  · exact absurd (show ltI 0 (ic s.length) = true from iclt hs) (by rw [k]; decide)
  · obtain ⟨h1, h2, h3⟩ := hx
    have L : (nC (s.take x)).length = x := by rw [nC_len, List.length_take]; omega
    have a1 : (decide (x ≤ x) && decide (0 + x * 1 ≤ (nC (s.take x)).length)) = true := by rw [L, decide_eq_true (Nat.le_refl _), decide_eq_true (by omega)]; rfl
    have a2 : decide (x < x + 1) = true := decide_eq_true (Nat.lt_succ_self _)
    have a3 : (decide (x + 1 ≤ 9223372036854775807) && decide ((x + 1) * 8 ≤ 140737488355328)) = true := by rw [decide_eq_true (by omega), decide_eq_true (by omega)]; rfl
    have a4 : (decide (x = x) && (decide (0 + x * 1 = (nC (s.take x)).length) && true)) = true := by rw [L, decide_eq_true rfl, decide_eq_true (by omega)]; rfl
    have a5 : decide (s.length - x ≤ s.length - x) = true := decide_eq_true (Nat.le_refl _)
    have a6 : leI 1 (ic (s.length - x)) = true := by rw [leI_t]; show (1 : Int) ≤ ((s.length - x : Nat) : Int); omega
    refine need_intro k ⟨row_gx1 p s h2, cond_intro (fun d => need_intro k ⟨row_gx0 p s h2, need_intro a1 (need_intro a2 (need_intro a3 (need_intro a4 (need_intro a5 (need_intro a6 (cond_intro (fun o => .inr (.inr ⟨(), fun i hi => ?_, by omega, ?_, ?_, trivial⟩)) fun o => .inr (.inl ⟨x + 1, ⟨Nat.succ_le_succ (Nat.zero_le _), ?_, fun i hi => ?_⟩, by omega, ?_, ?_, trivial⟩)))))))⟩) fun d => .inr (.inl ⟨(), ⟨?_, ?_⟩, ?_, ?_, trivial⟩)⟩
    · have o := of_decide_eq_true o
      rcases Nat.lt_or_ge i x with h | h
      · exact h3 i h
      · obtain rfl : i = x := by omega
        rw [leI_t] at d; exact d
    · have o := of_decide_eq_true o
      have e1 : List.drop 0 (nC (s.take x)) ++ [AV.int .i64 (pk s x).1] = nC s := by
        rw [List.drop_zero, ← nC_tk h2, List.take_of_length_le (by omega)]
      exact ⟨oB_ok ⟨⟨rfl, ⟨by omega, rfl⟩, trivial⟩, trivial⟩, oR_ok _ _ _, nC_eq _ e1, trivial⟩
    · have o := of_decide_eq_true o
      exact ⟨rfl, by omega, by omega, rfl⟩
    · have o := of_decide_eq_false o
      omega
    · rcases Nat.lt_or_ge i x with h | h
      · exact h3 i h
      · obtain rfl : i = x := by omega
        rw [leI_t] at d; exact d
    · exact ⟨oB_ok ⟨⟨rfl, ⟨by omega, by omega, by omega, rfl⟩, trivial⟩, trivial⟩, oR_ok _ _ _, nC_eq _ (nC_tk h2).symm, trivial⟩
    · exact ⟨rfl, rfl, rfl, rfl⟩
    · rw [leI_f] at d
      rw [(due_at h3 (by omega) (.inr d)).1]
      exact fun e => by
        have := congrArg List.length e
        rw [List.length_take] at this
        have this : min x s.length = 0 := this
        omega
    · rw [leI_f] at d
      rw [(due_at h3 (by omega) (.inr d)).2]
      exact fun e => by
        have := congrArg List.length e
        rw [List.length_drop] at this
        have this : s.length - x = 0 := this
        omega
    · rw [leI_f] at d
      obtain ⟨e1, e2⟩ := due_at h3 (by omega) (.inr d)
      rw [e1, e2]
      have e3 : (s.take x).length = x := by rw [List.length_take]; omega
      have e4 : (s.drop x).length = s.length - x := by rw [List.length_drop]
      rw [e3, e4]
      exact ⟨oB_ok ⟨⟨rfl, ⟨rfl, rfl, rfl, rfl⟩, trivial⟩, trivial⟩, oR_ok _ _ _, nC_eq _ rfl, trivial⟩
    · rw [leI_f] at d
      rw [(due_at h3 (by omega) (.inr d)).1]
      have e3 : (s.take x).length = x := by rw [List.length_take]; omega
      exact ⟨rfl, e3.symm, e3.symm, rfl⟩
  · exact absurd (show ltI 0 (ic (s.length - x)) = true from iclt (show 0 < s.length - x by omega)) (by rw [k]; decide)
  · obtain ⟨e1, e2⟩ := due_at hx (Nat.le_refl _) (.inl rfl)
    rw [List.take_length] at e1
    rw [List.drop_length] at e2
    rw [e1, e2]
    refine .inr (.inr ⟨(), ⟨fun e => by rw [e] at hs; simp at hs, rfl⟩, ?_, ⟨rfl, rfl, rfl, rfl⟩, trivial⟩)
    exact ⟨oB_ok ⟨⟨rfl, ⟨rfl, rfl⟩, trivial⟩, trivial⟩, oR_ok _ _ _, nC_eq _ rfl, trivial⟩
end Go.Proofs.Ytainjcpocodehaa

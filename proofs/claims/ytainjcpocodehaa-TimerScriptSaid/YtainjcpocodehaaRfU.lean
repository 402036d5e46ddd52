/- The law TimerScript: what is there after so many calls, with no program in sight. -/
import Derived.Test.YtainjcpocodehaaRfI
set_option linter.unusedSimpArgs false
set_option linter.unusedVariables false
namespace Go.Proofs.Ytainjcpocodehaa
open Go Go.Ve
set_option maxRecDepth 20000
theorem actC_cons (a : Int × Int × Int) (l : AL) : actC (a :: l) = .int .i64 a.1 :: .int .i64 a.2.1 :: .int .i64 a.2.2 :: actC l := rfl
theorem actC_len : ∀ l : AL, (actC l).length = l.length * 3
  | [] => rfl
  | a :: l => by rw [actC_cons, List.length_cons, List.length_cons, List.length_cons, actC_len l, List.length_cons]; omega
theorem actC_take : ∀ (l : AL) (i : Nat), i < l.length → List.take 3 (List.drop (i * 3) (actC l)) = [.int .i64 (ak l i).1, .int .i64 (ak l i).2.1, .int .i64 (ak l i).2.2]
  | [], _, h => by simp at h
  | a :: l, 0, _ => rfl
  | a :: l, i + 1, h => by
    have := actC_take l i (by simpa using h)
    rw [show (i + 1) * 3 = i * 3 + 1 + 1 + 1 by omega, actC_cons, List.drop_succ_cons, List.drop_succ_cons, List.drop_succ_cons]
    exact this
theorem act_take (l r : AL) (i : Nat) (h : i < l.length) : List.take 3 (List.drop (0 + i * 3) (actC (l ++ r))) = [.int .i64 (ak l i).1, .int .i64 (ak l i).2.1, .int .i64 (ak l i).2.2] := by
  rw [Nat.zero_add, actC_take _ _ (by rw [List.length_append]; omega), ak_app h]
theorem dueLR2 (now : Int) (s : TL) : dueL now s ++ dueR now s = s := List.takeWhile_append_dropWhile
abbrev kd (l : AL) (i : Nat) : Int := pickN (ak l i).1 5
theorem Sp_set {most : Int} {l : AL} {i : Nat} (h : kd l i = 0 ∨ kd l i = 1) (hs : setE most (Sp most l i) (ak l i).2.1 (ak l i).2.2 = 0) : Sp most l (i + 1) = insS (ak l i).2.1 (ak l i).2.2 (Sp most l i) := by
  show stS _ _ _ = _
  unfold stS
  rw [if_pos h, if_pos hs]
theorem Sp_not {most : Int} {l : AL} {i : Nat} (h : kd l i = 0 ∨ kd l i = 1) (hs : setE most (Sp most l i) (ak l i).2.1 (ak l i).2.2 ≠ 0) : Sp most l (i + 1) = Sp most l i := by
  show stS _ _ _ = _
  unfold stS
  rw [if_pos h, if_neg hs]
theorem Sp_can {most : Int} {l : AL} {i : Nat} (h : kd l i = 2) : Sp most l (i + 1) = ers (ak l i).2.1 (Sp most l i) := by
  show stS _ _ _ = _
  unfold stS
  rw [if_neg (by show ¬ (kd l i = 0 ∨ kd l i = 1); omega), if_pos h]
theorem Sp_due {most : Int} {l : AL} {i : Nat} (h : kd l i = 3) : Sp most l (i + 1) = dueR (ak l i).2.2 (Sp most l i) := by
  show stS _ _ _ = _
  unfold stS
  rw [if_neg (by show ¬ (kd l i = 0 ∨ kd l i = 1); omega), if_neg (by show ¬ kd l i = 2; omega), if_pos h]
theorem Sp_nx {most : Int} {l : AL} {i : Nat} (h0 : kd l i ≠ 0) (h1 : kd l i ≠ 1) (h2 : kd l i ≠ 2) (h3 : kd l i ≠ 3) : Sp most l (i + 1) = Sp most l i := by
  show stS _ _ _ = _
  unfold stS
  rw [if_neg (by show ¬ (kd l i = 0 ∨ kd l i = 1); omega), if_neg h2, if_neg h3]
theorem ers_no4 {n : Int} {s : TL} (h : (tmOf n s).isSome = false) : ers n s = s := by
  refine ers_none fun t ht e => ?_
  unfold tmOf at h
  cases hf : s.find? (fun t => decide (t.1 = n)) with
  | none =>
    have := List.find?_eq_none.1 hf t ht
    simp [e] at this
  | some t => rw [hf] at h; cases h
theorem P1.rq {most : Int} {s : TL} {x : X1} (h : P1 most s x) (p : TL) : RQ (tC (p ++ srt x.2.1)) (p.length * 2) (srt x.2.1).length := by
  refine RQ.of (by rw [srt_len]; exact h.p) ?_ (srt_dn h.q.inv.dn) (srt_srt _)
  rw [srt_len]
  have := h.q.mst
  have := h.q.top
  omega
end Go.Proofs.Ytainjcpocodehaa

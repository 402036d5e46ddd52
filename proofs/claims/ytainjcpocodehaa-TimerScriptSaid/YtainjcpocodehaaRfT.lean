/- The law TimerScript's comparison: what its walk asks is so. -/
import Derived.Test.YtainjcpocodehaaRfS
import Derived.Test.YtainjcpocodehaaRfB
set_option linter.unusedSimpArgs false
set_option linter.unusedVariables false
namespace Go.Proofs.Ytainjcpocodehaa
open Go Go.Ve
set_option maxRecDepth 20000
theorem len_tt {l : TL} {i : Nat} (h : i < l.length) : decide (0 + i * 2 + 2 ≤ (tC l).length) = true := by
  rw [tC_len]
  exact decide_eq_true (by omega)
theorem take_tt {l : TL} {i : Nat} (h : i < l.length) : List.take 2 (List.drop (0 + i * 2) (tC l)) = [AV.int .i64 (pk l i).1, AV.int .i64 (pk l i).2] := by
  rw [Nat.zero_add]
  exact tC_drop l i h
theorem neq_no {x y : Int} (h : x = y) : (!eqI x y) = false := by rw [(eqI_t _ _).mpr h]; rfl
theorem some_int {x y : Int} (h : some (AV.int .i64 x) = some (AV.int .i64 y)) : y = x := by
  injection h with h
  injection h with h1 h2
  exact h2.symm
set_option maxHeartbeats 4000000 in
theorem sm_vc2 (h g p : TL) (m : MP) (most : Int) (c eq er : Nat) (q : QI most c h g m) (hne : 0 < h.length) : vSmQ h g p m most c eq er := by
  have ls : (srt h).length = h.length := srt_len h
  have hb : h.length ≤ 1048576 := by have := q.mst; have := q.top; omega
  rw [vSmQ_eq, hOf_tC h g, getT_tC, getT_tC]
  refine ⟨QP.of q _ eD_eq, cond_intro (fun bad => ?_) fun _ => ⟨⟨⟨rfl, by rw [List.length_append]; omega, hb⟩, cond_intro (fun em => ?_) fun _ => ⟨⟨rfl, rfl, by omega⟩, (), trivial, ?_, ?_⟩⟩, fun _ _ => ⟨⟨0, Nat.zero_le _, ?_⟩, fun x hx => cond_intro (fun k => ?_) fun k => ?_⟩⟩⟩
  · exact absurd bad (by rw [neq_no (by rw [ls])]; decide)
  · exact absurd (List.isEmpty_iff.1 em) (fun e => by rw [e] at hne; simp at hne)
  · (repeat' (first | exact trivial | exact rfl | exact oR_ok _ _ _ | exact r2_ok _ rfl | exact e_ok _ rfl | refine oB_ok ?_ | assumption | apply And.intro))
  · (repeat' (first | exact trivial | exact rfl | exact oR_ok _ _ _ | exact r2_ok _ rfl | exact e_ok _ rfl | refine oB_ok ?_ | assumption | apply And.intro))
  · (repeat' (first | exact trivial | exact rfl | exact oR_ok _ _ _ | exact r2_ok _ rfl | exact e_ok _ rfl | refine oB_ok ?_ | assumption | apply And.intro))
  · have k0 := k
    rw [ltI_t] at k
    have k : x < h.length := Int.ofNat_lt.1 k
    have ks : x < (srt h).length := by rw [ls]; exact k
    have b0 : leI (ic x + 1) 9223372036854775807 = true := by rw [leI_t]; show (x : Int) + 1 ≤ _; omega
    refine need_intro k0 (need_intro (len_tt ks) ⟨take_tt ks, cond_intro (fun bad => ?_) fun _ => need_intro (iclt ks) ⟨⟨_, row_get0 p (srt h) ks⟩, fun c1 h1 => ?_⟩⟩)
    · rw [leI_t] at bad
      have bad : (srt h).length ≤ x := Int.ofNat_le.1 bad
      omega
    · rw [row_get0 p (srt h) ks] at h1
      rw [neq_no (some_int h1)]
      refine need_intro (iclt ks) ⟨⟨_, row_get1 p (srt h) ks⟩, fun c2 h2 => ?_⟩
      rw [row_get1 p (srt h) ks] at h2
      rw [neq_no (some_int h2)]
      refine need_intro b0 (need_intro b0 ⟨x + 1, k, by omega, ?_⟩)
      (repeat' (first | exact trivial | exact rfl | exact oR_ok _ _ _ | exact r2_ok _ rfl | exact e_ok _ rfl | refine oB_ok ?_ | assumption | apply And.intro))
  · rw [ltI_f] at k
    have k : h.length ≤ x := Int.ofNat_le.1 k
    obtain rfl : x = h.length := by omega
    have e : eqI (ic h.length) (ic (srt h).length) = true := (eqI_t _ _).mpr (by rw [ls])
    refine ⟨(), trivial, ?_, e, trivial⟩
    (repeat' (first | exact trivial | exact rfl | exact oR_ok _ _ _ | exact r2_ok _ rfl | exact e_ok _ rfl | refine oB_ok ?_ | assumption | apply And.intro))
theorem smA_vc (g : TL) (m : MP) (most : Int) (c eq : Nat) (q : QI most c [] g m) : vSmQA g m most c eq := by
  rw [vSmQA_eq, getT_tC]
  refine ⟨QP.of q _ eD_eq, ⟨rfl, Nat.zero_le _, by omega⟩, (), trivial, ?_⟩
  (repeat' (first | exact trivial | exact rfl | exact oR_ok _ _ _ | exact r2_ok _ rfl | exact e_ok _ rfl | refine oB_ok ?_ | assumption | apply And.intro))
theorem smB_vc (g : TL) (m : MP) (most : Int) (c eq off adv er : Nat) (row : TL) (q : QI most c [] g m) : vSmQB g m most c eq off adv er row := by
  rw [vSmQB_eq, getT_tC]
  refine ⟨QP.of q _ eD_eq, ⟨rfl, Nat.zero_le _, by omega⟩, (), trivial, ?_⟩
  (repeat' (first | exact trivial | exact rfl | exact oR_ok _ _ _ | exact r2_ok _ rfl | exact e_ok _ rfl | refine oB_ok ?_ | assumption | apply And.intro))
theorem smN_vc (most : Int) (eq : Nat) : HoldsN (vSmQN most eq) := by
  refine ⟨?_⟩
  rw [vSmQN_eq]
  refine ⟨(), trivial, ?_⟩
  (repeat' (first | exact trivial | exact rfl | exact oR_ok _ _ _ | exact r2_ok _ rfl | exact e_ok _ rfl | refine oB_ok ?_ | assumption | apply And.intro))
end Go.Proofs.Ytainjcpocodehaa

/- The law TimerRises: what its walk asks is so, if no timer is left. -/
import Derived.Test.YtainjcpocodehaaTmH
import Derived.Test.YtainjcpocodehaaTmW
set_option linter.unusedSimpArgs false
set_option linter.unusedVariables false
namespace Go.Proofs.Ytainjcpocodehaa
open Go Go.Ve
set_option maxRecDepth 20000
set_option maxHeartbeats 4000000 in
theorem riE_vc (l r : AL) (e : Nat) (ro : Bool) (cc : Nat) (ex : Bool) (hE : Sa l l.length = []) : vRiE l r e ro cc ex := by
  rw [vRiE_eq]
  refine cond_intro (fun _ => ⟨(), trivial, ⟨T_ok _ _ _ _, trivial⟩, rfl, trivial⟩) fun hl => ?_
  have hl : l.length ≤ 60 := by
    rw [ltI_f] at hl
    have hl : (l.length : Int) ≤ 60 := hl
    omega
  refine ⟨⟨.inl ⟨0, ⟨Nat.zero_le _, rfl⟩, ?_⟩, fun x hx => ?_, fun x hx => ?_⟩, fun _ _ => ?_, fun x hx => ?_⟩
  · (repeat' (first | exact trivial | exact rfl | exact T_ok _ _ _ _ | exact e_ok _ rfl | exact r2_ok _ rfl | assumption | apply And.intro))
  · refine cond_intro (fun k => ?_) fun k => ?_
    · have k1 : x < l.length := by rw [ltI_t] at k; exact Int.ofNat_lt.1 k
      have b2 : leI (ic x + 1) 9223372036854775807 = true := by rw [leI_t]; show (x : Int) + 1 ≤ _; omega
      refine need_intro k ⟨act0 l r x k1, cond_intro (fun c => ?_) fun c => ?_⟩
      · rw [eqI_t] at c
        refine need_intro k ⟨act1 l r x k1, emap_keys [] _, emap_ints [], rfl, need_intro b2 (.inl ⟨x + 1, ⟨k1, ?_⟩, ?_, ?_⟩)⟩
        · rw [Sa_can c, hx.2]; rfl
        · omega
        · (repeat' (first | exact trivial | exact rfl | exact T_ok _ _ _ _ | exact e_ok _ rfl | exact r2_ok _ rfl | assumption | apply And.intro))
      · rw [eqI_f] at c
        refine need_intro k ⟨act1 l r x k1, need_intro k ⟨act2 l r x k1, ⟨by decide, by decide⟩, cond_intro (fun s => ?_) fun s => ?_⟩⟩
        · rw [eqI_t] at s
          intro x1 hx1
          have hl1 : 1 = List.length x1.1 := hx1.2.1.symm
          refine need_intro b2 (.inr ⟨(x + 1, 1, x1.1, [], x1.2), ⟨k1, ?_, hx1.1⟩, ?_, ?_⟩)
          · show srt x1.1 = Sa l (x + 1)
            rw [hx1.2.2, Sa_set c (by rw [hx.2]; exact s), hx.2]; rfl
          · show l.length - (x + 1) < l.length - x
            omega
          · (repeat' (first | exact trivial | exact rfl | exact T_ok _ _ _ _ | exact e_ok _ rfl | exact r2_ok _ rfl | assumption | apply And.intro))
        · rw [eqI_f] at s
          refine need_intro b2 (.inl ⟨x + 1, ⟨k1, ?_⟩, ?_, ?_⟩)
          · rw [Sa_not c (by rw [hx.2]; exact s), hx.2]
          · omega
          · (repeat' (first | exact trivial | exact rfl | exact T_ok _ _ _ _ | exact e_ok _ rfl | exact r2_ok _ rfl | assumption | apply And.intro))
    · have k1 : x = l.length := by
        rw [ltI_f] at k
        have k : l.length ≤ x := Int.ofNat_le.1 k
        omega
      subst k1
      refine .inl ⟨(), trivial, ?_⟩
      (repeat' (first | exact trivial | exact rfl | exact T_ok _ _ _ _ | exact e_ok _ rfl | exact r2_ok _ rfl | assumption | apply And.intro))
  · obtain ⟨i, c, h, g, m⟩ := x
    obtain ⟨h1, h2, q⟩ := hx
    dsimp only at h1 h2 q ⊢
    rw [hOf_tC h g]
    refine cond_intro (fun k => ?_) fun k => ?_
    · have k1 : i < l.length := by rw [ltI_t] at k; exact Int.ofNat_lt.1 k
      have b2 : leI (ic i + 1) 9223372036854775807 = true := by rw [leI_t]; show (i : Int) + 1 ≤ _; omega
      refine need_intro k ⟨act0 l r i k1, cond_intro (fun c' => ?_) fun c' => ?_⟩
      · rw [eqI_t] at c'
        refine need_intro k ⟨act1 l r i k1, QP.of q _ eD_eq, cond_intro (fun t => fun x1 hx1 => ?_) fun t => ?_⟩
        · refine need_intro b2 (.inr ⟨(i + 1, c, x1.1, x1.2.1, x1.2.2), ⟨k1, ?_, hx1.1⟩, ?_, ?_⟩)
          · show srt x1.1 = Sa l (i + 1)
            rw [hx1.2, Sa_can c', h2]
          · show l.length - (i + 1) < l.length - i
            omega
          · (repeat' (first | exact trivial | exact rfl | exact T_ok _ _ _ _ | exact e_ok _ rfl | exact r2_ok _ rfl | assumption | apply And.intro))
        · refine need_intro b2 (.inr ⟨(i + 1, c, h, g, m), ⟨k1, ?_, q⟩, ?_, ?_⟩)
          · show srt h = Sa l (i + 1)
            rw [Sa_can0 c' (by rw [← h2]; exact t)]; exact h2
          · show l.length - (i + 1) < l.length - i
            omega
          · (repeat' (first | exact trivial | exact rfl | exact T_ok _ _ _ _ | exact e_ok _ rfl | exact r2_ok _ rfl | assumption | apply And.intro))
      · rw [eqI_f] at c'
        refine need_intro k ⟨act1 l r i k1, need_intro k ⟨act2 l r i k1, QP.of q _ eD_eq, cond_intro (fun s => cond_intro (fun s2 => fun x1 hx1 => ?_) fun s2 => fun x1 hx1 => ?_) fun s => ?_⟩⟩
        · rw [eqI_t] at s
          refine need_intro b2 (.inr ⟨(i + 1, c, x1.1, x1.2.1, x1.2.2), ⟨k1, ?_, hx1.1⟩, ?_, ?_⟩)
          · show srt x1.1 = Sa l (i + 1)
            rw [hx1.2, Sa_set c' (by rw [← h2]; exact s), h2]
          · show l.length - (i + 1) < l.length - i
            omega
          · (repeat' (first | exact trivial | exact rfl | exact T_ok _ _ _ _ | exact e_ok _ rfl | exact r2_ok _ rfl | assumption | apply And.intro))
        · rw [eqI_t] at s
          refine need_intro b2 (.inr ⟨(i + 1, x1.1.length, x1.1, [], x1.2), ⟨k1, ?_, hx1.1⟩, ?_, ?_⟩)
          · show srt x1.1 = Sa l (i + 1)
            rw [hx1.2, Sa_set c' (by rw [← h2]; exact s), h2]
          · show l.length - (i + 1) < l.length - i
            omega
          · (repeat' (first | exact trivial | exact rfl | exact T_ok _ _ _ _ | exact e_ok _ rfl | exact r2_ok _ rfl | assumption | apply And.intro))
        · rw [eqI_f] at s
          refine need_intro b2 (.inr ⟨(i + 1, c, h, g, m), ⟨k1, ?_, q⟩, ?_, ?_⟩)
          · show srt h = Sa l (i + 1)
            rw [Sa_not c' (by rw [← h2]; exact s)]; exact h2
          · show l.length - (i + 1) < l.length - i
            omega
          · (repeat' (first | exact trivial | exact rfl | exact T_ok _ _ _ _ | exact e_ok _ rfl | exact r2_ok _ rfl | assumption | apply And.intro))
    · have k1 : i = l.length := by
        rw [ltI_f] at k
        have k : l.length ≤ i := Int.ofNat_le.1 k
        omega
      subst k1
      refine .inr ⟨(c, h, g, m), ⟨h2, q⟩, ?_⟩
      (repeat' (first | exact trivial | exact rfl | exact T_ok _ _ _ _ | exact e_ok _ rfl | exact r2_ok _ rfl | assumption | apply And.intro))
  · repeat' (first | exact trivial | exact rfl | exact T_ok _ _ _ _ | apply And.intro | refine ⟨(), trivial, ?_⟩ | intro _ _)
  · obtain ⟨c, h, g, m⟩ := x
    obtain ⟨h2, q⟩ := hx
    dsimp only at h2 q ⊢
    have h0 : h = [] := by
      have := congrArg List.length (h2.trans hE)
      rw [srt_len] at this
      exact List.eq_nil_of_length_eq_zero this
    subst h0
    rw [hOf_tC [] g]
    refine ⟨⟨⟨congrArg tC (getT_tC _).symm, Nat.zero_le _, Nat.zero_le _⟩, need_end rfl ?_⟩, fun _ _ => ?_⟩
    · repeat' (first | exact trivial | exact rfl | exact T_ok _ _ _ _ | exact e_ok _ rfl | exact r2_ok _ rfl | apply And.intro | exact QP.of q _ eD_eq | refine need_end rfl ?_ | refine ⟨(), trivial, ?_⟩ | intro _ _)
    · repeat' (first | exact trivial | exact rfl | exact T_ok _ _ _ _ | exact e_ok _ rfl | exact r2_ok _ rfl | apply And.intro | exact QP.of q _ eD_eq | refine need_end rfl ?_ | refine ⟨(), trivial, ?_⟩ | intro _ _)
end Go.Proofs.Ytainjcpocodehaa

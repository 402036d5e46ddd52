/- The law TimerRises: what its walk asks is so, if a timer is left. -/
import Derived.Test.YtainjcpocodehaaTmH
import Derived.Test.YtainjcpocodehaaTmV
set_option linter.unusedSimpArgs false
set_option linter.unusedVariables false
namespace Go.Proofs.Ytainjcpocodehaa
open Go Go.Ve
set_option maxRecDepth 20000
theorem at_pk' {h : TL} {m : MP} (v : Inv h m) {i : Nat} (hi : i < (srt h).length) : (!eqI (atE (pk (srt h) i).1 (srt h)) 0) = false ∧ (!eqI (atV (pk (srt h) i).1 (srt h)) (pk (srt h) i).2) = false := by
  obtain ⟨h1, h2⟩ := at_pk v hi
  rw [h1, h2, not_f, not_f, eqI_t, eqI_t]
  exact ⟨rfl, rfl⟩
theorem nC_one {l : TL} (h : 0 < l.length) : [AV.int .i64 (pk l 0).1] = nC (l.take 1) := (nC_take h).symm
theorem getI_nC (l : TL) : getI (nC l) = l.map (·.1) := by rw [nC_iC, getI_iC]
theorem nC_back (l : TL) : nC l = iC (getI (nC l)) := by rw [getI_nC, nC_iC]
theorem nil_of {h : TL} (e : srt h = []) : h = [] := by
  have := congrArg List.length e
  rw [srt_len] at this
  exact List.eq_nil_of_length_eq_zero this
theorem len_t2 {l : TL} {i : Nat} (h : i < l.length) : decide (0 + i * 2 + 2 ≤ (tC l).length) = true := by
  rw [tC_len]
  exact decide_eq_true (by omega)
theorem take_t {l : TL} {i : Nat} (h : i < l.length) : List.take 2 (List.drop (0 + i * 2) (tC l)) = [AV.int .i64 (pk l i).1, AV.int .i64 (pk l i).2] := by
  rw [Nat.zero_add]
  exact tC_drop l i h
theorem take_t0 {l : TL} (h : 0 < l.length) : List.take 2 (List.drop 0 (tC l)) = [AV.int .i64 (pk l 0).1, AV.int .i64 (pk l 0).2] := take_t h
theorem len_t0 {l : TL} (h : 0 < l.length) : decide (2 ≤ (tC l).length) = true := by
  rw [tC_len]
  exact decide_eq_true (by omega)
set_option maxHeartbeats 4000000 in
theorem riF_vc (l r : AL) (e : Nat) (ro : Bool) (cc : Nat) (ex : Bool) (hE : Sa l l.length ≠ []) : vRiF l r e ro cc ex := by
  rw [vRiF_eq]
  refine cond_intro (fun _ => ⟨(), trivial, ⟨T_ok _ _ _ _, trivial⟩, rfl, trivial⟩) fun hl => ?_
  have hl : l.length ≤ 60 := by
    rw [ltI_f] at hl
    have hl : (l.length : Int) ≤ 60 := hl
    omega
  refine ⟨⟨.inl ⟨0, ⟨Nat.zero_le _, rfl⟩, ?_⟩, fun x hx => ?_, fun x hx => ?_⟩, fun x hx => ?_⟩
  · (repeat' (first | exact trivial | exact rfl | exact T_ok _ _ _ _ | exact e_ok _ rfl | exact r2_ok _ rfl | assumption | apply And.intro))
  · refine cond_intro (fun k => ?_) fun k => ?_
    · have k1 : x < l.length := by rw [ltI_t] at k; exact Int.ofNat_lt.1 k
      have b2 : leI (ic x + 1) 9223372036854775807 = true := by rw [leI_t]; show (x : Int) + 1 ≤ _; omega
      refine need_intro k ⟨act0 l r x k1, cond_intro (fun c => ?_) fun c => ?_⟩
      · rw [eqI_t] at c
        refine need_intro k ⟨act1 l r x k1, emap_keys [] _, emap_ints [], rfl, need_intro b2 (.inl ⟨x + 1, ⟨k1, ?_⟩, ?_, ?_⟩)⟩
        · rw [Sa_can c, hx.2]; rfl
        · omega
        · (repeat' (first | exact trivial | exact rfl | exact T_ok _ _ _ _ | exact e_ok _ rfl | exact r2_ok _ rfl | assumption | apply And.intro))
      · rw [eqI_f] at c
        refine need_intro k ⟨act1 l r x k1, need_intro k ⟨act2 l r x k1, ⟨by decide, by decide⟩, cond_intro (fun s => ?_) fun s => ?_⟩⟩
        · rw [eqI_t] at s
          intro x1 hx1
          have hl1 : 1 = List.length x1.1 := hx1.2.1.symm
          refine need_intro b2 (.inr ⟨(x + 1, 1, x1.1, [], x1.2), ⟨k1, ?_, hx1.1⟩, ?_, ?_⟩)
          · show srt x1.1 = Sa l (x + 1)
            rw [hx1.2.2, Sa_set c (by rw [hx.2]; exact s), hx.2]; rfl
          · show l.length - (x + 1) < l.length - x
            omega
          · (repeat' (first | exact trivial | exact rfl | exact T_ok _ _ _ _ | exact e_ok _ rfl | exact r2_ok _ rfl | assumption | apply And.intro))
        · rw [eqI_f] at s
          refine need_intro b2 (.inl ⟨x + 1, ⟨k1, ?_⟩, ?_, ?_⟩)
          · rw [Sa_not c (by rw [hx.2]; exact s), hx.2]
          · omega
          · (repeat' (first | exact trivial | exact rfl | exact T_ok _ _ _ _ | exact e_ok _ rfl | exact r2_ok _ rfl | assumption | apply And.intro))
    · have k1 : x = l.length := by
        rw [ltI_f] at k
        have k : l.length ≤ x := Int.ofNat_le.1 k
        omega
      exfalso
      rw [k1] at hx
      exact hE hx.2
  · obtain ⟨i, c, h, g, m⟩ := x
    obtain ⟨h1, h2, q⟩ := hx
    dsimp only at h1 h2 q ⊢
    rw [hOf_tC h g]
    refine cond_intro (fun k => ?_) fun k => ?_
    · have k1 : i < l.length := by rw [ltI_t] at k; exact Int.ofNat_lt.1 k
      have b2 : leI (ic i + 1) 9223372036854775807 = true := by rw [leI_t]; show (i : Int) + 1 ≤ _; omega
      refine need_intro k ⟨act0 l r i k1, cond_intro (fun c' => ?_) fun c' => ?_⟩
      · rw [eqI_t] at c'
        refine need_intro k ⟨act1 l r i k1, QP.of q _ eD_eq, cond_intro (fun t => fun x1 hx1 => ?_) fun t => ?_⟩
        · refine need_intro b2 (.inr ⟨(i + 1, c, x1.1, x1.2.1, x1.2.2), ⟨k1, ?_, hx1.1⟩, ?_, ?_⟩)
          · show srt x1.1 = Sa l (i + 1)
            rw [hx1.2, Sa_can c', h2]
          · show l.length - (i + 1) < l.length - i
            omega
          · (repeat' (first | exact trivial | exact rfl | exact T_ok _ _ _ _ | exact e_ok _ rfl | exact r2_ok _ rfl | assumption | apply And.intro))
        · refine need_intro b2 (.inr ⟨(i + 1, c, h, g, m), ⟨k1, ?_, q⟩, ?_, ?_⟩)
          · show srt h = Sa l (i + 1)
            rw [Sa_can0 c' (by rw [← h2]; exact t)]; exact h2
          · show l.length - (i + 1) < l.length - i
            omega
          · (repeat' (first | exact trivial | exact rfl | exact T_ok _ _ _ _ | exact e_ok _ rfl | exact r2_ok _ rfl | assumption | apply And.intro))
      · rw [eqI_f] at c'
        refine need_intro k ⟨act1 l r i k1, need_intro k ⟨act2 l r i k1, QP.of q _ eD_eq, cond_intro (fun s => cond_intro (fun s2 => fun x1 hx1 => ?_) fun s2 => fun x1 hx1 => ?_) fun s => ?_⟩⟩
        · rw [eqI_t] at s
          refine need_intro b2 (.inr ⟨(i + 1, c, x1.1, x1.2.1, x1.2.2), ⟨k1, ?_, hx1.1⟩, ?_, ?_⟩)
          · show srt x1.1 = Sa l (i + 1)
            rw [hx1.2, Sa_set c' (by rw [← h2]; exact s), h2]
          · show l.length - (i + 1) < l.length - i
            omega
          · (repeat' (first | exact trivial | exact rfl | exact T_ok _ _ _ _ | exact e_ok _ rfl | exact r2_ok _ rfl | assumption | apply And.intro))
        · rw [eqI_t] at s
          refine need_intro b2 (.inr ⟨(i + 1, x1.1.length, x1.1, [], x1.2), ⟨k1, ?_, hx1.1⟩, ?_, ?_⟩)
          · show srt x1.1 = Sa l (i + 1)
            rw [hx1.2, Sa_set c' (by rw [← h2]; exact s), h2]
          · show l.length - (i + 1) < l.length - i
            omega
          · (repeat' (first | exact trivial | exact rfl | exact T_ok _ _ _ _ | exact e_ok _ rfl | exact r2_ok _ rfl | assumption | apply And.intro))
        · rw [eqI_f] at s
          refine need_intro b2 (.inr ⟨(i + 1, c, h, g, m), ⟨k1, ?_, q⟩, ?_, ?_⟩)
          · show srt h = Sa l (i + 1)
            rw [Sa_not c' (by rw [← h2]; exact s)]; exact h2
          · show l.length - (i + 1) < l.length - i
            omega
          · (repeat' (first | exact trivial | exact rfl | exact T_ok _ _ _ _ | exact e_ok _ rfl | exact r2_ok _ rfl | assumption | apply And.intro))
    · have k1 : i = l.length := by
        rw [ltI_f] at k
        have k : l.length ≤ i := Int.ofNat_le.1 k
        omega
      subst k1
      refine ⟨(c, h, g, m), ⟨h2, q⟩, ?_⟩
      (repeat' (first | exact trivial | exact rfl | exact T_ok _ _ _ _ | exact e_ok _ rfl | exact r2_ok _ rfl | assumption | apply And.intro))
  · obtain ⟨c, h, g, m⟩ := x
    obtain ⟨h2, q⟩ := hx
    dsimp only at h2 q ⊢
    have hne : h ≠ [] := fun e => hE (by rw [← h2, e]; rfl)
    have hlen : h.length ≤ l.length := by
      have := Sa_len l l.length
      rw [← h2, srt_len] at this
      exact this
    rw [hOf_tC h g]
    refine ⟨⟨⟨congrArg tC (getT_tC _).symm, ?_, q.inv.sz⟩, need_else ?_ ⟨⟨congrArg tC (getT_tC _).symm, ?_, ?_⟩, (c, h, g, m), ⟨q, hne, hlen⟩, ?_⟩⟩, fun x hx => ?_⟩
    · rw [getT_tC, List.length_append]; omega
    · cases h with
      | nil => exact absurd rfl hne
      | cons a r => rfl
    · rw [getT_tC]
    · have := q.inv.sz
      omega
    · repeat' (first | exact trivial | exact rfl | exact T_ok _ _ _ _ | exact e_ok _ rfl | exact r2_ok _ rfl | exact r2_ok _ (congrArg (fun x => tC (srt x)) (getT_tC _)) | apply And.intro)
    · clear hne hlen h2 q
      obtain ⟨c, h, g, m⟩ := x
      obtain ⟨q, hne, hlen⟩ := hx
      dsimp only at q hne hlen ⊢
      rw [hOf_tC h g]
      have hp : 0 < h.length := List.length_pos_iff.2 hne
      refine ⟨.inl ⟨(), trivial, ?_⟩, fun _ _ => ?_, fun i hi => ?_⟩
      · (repeat' (first | exact trivial | exact rfl | exact T_ok _ _ _ _ | exact e_ok _ rfl | exact r2_ok _ rfl | assumption | apply And.intro))
      · refine cond_intro (fun k => ?_) fun k => ?_
        · have k1 : 0 < (srt h).length := by rw [srt_len]; exact hp
          refine need_intro k (need_intro (len_t0 k1) ⟨take_t0 k1, need_else (pk_first q.inv k1).1 (need_else (pk_first q.inv k1).2 ⟨QP.of q _ eD_eq, need_else (at_pk' q.inv k1).1 (need_else (at_pk' q.inv k1).2 (.inr ⟨1, ⟨Nat.le_refl _, hp⟩, ?_, ?_⟩))⟩)⟩)
          · omega
          · repeat' (first | exact trivial | exact rfl | exact T_ok _ _ _ _ | exact e_ok _ rfl | exact r2_ok _ rfl | exact n2_ok _ (nC_one k1) | exact n2_ok _ (nC_take k1).symm | exact r2_ok _ (congrArg (fun x => tC (srt x)) (getT_tC _)) | apply And.intro)
        · exfalso
          rw [ltI_f] at k
          have k : (h.length : Int) ≤ 0 := k
          omega
      · refine cond_intro (fun k => ?_) fun k => ?_
        · have k1 : i < (srt h).length := by rw [srt_len]; rw [ltI_t] at k; exact Int.ofNat_lt.1 k
          have b2 : leI (ic i + 1) 9223372036854775807 = true := by rw [leI_t]; show (i : Int) + 1 ≤ _; omega
          have rs := pk_rise q.inv hi.1 k1
          refine need_intro k (need_intro (len_t2 k1) ⟨take_t k1, need_else rs.1 (cond_intro (fun e => need_else (rs.2 e) ?_) fun _ => ?_)⟩)
          · refine ⟨QP.of q _ eD_eq, need_else (at_pk' q.inv k1).1 (need_else (at_pk' q.inv k1).2 (need_else ?_ (need_intro ?_ (need_else ?_ (need_intro ?_ (need_intro ?_ (need_intro b2 (.inr ⟨i + 1, ⟨Nat.succ_le_succ (Nat.zero_le _), ?_⟩, ?_, ?_⟩))))))))⟩
            · rw [ltI_f]; exact Int.ofNat_le.2 (Nat.le_trans hi.2 hlen)
            · rw [nC_takelen (by rw [srt_len]; exact hi.2), Bool.and_eq_true, decide_eq_true_eq, decide_eq_true_eq]; omega
            · exact decide_eq_false (by omega)
            · rw [Bool.and_eq_true, decide_eq_true_eq, decide_eq_true_eq]; omega
            · rw [nC_takelen (by rw [srt_len]; exact hi.2), Bool.and_eq_true, Bool.and_true, decide_eq_true_eq, decide_eq_true_eq]; omega
            · rw [srt_len] at k1; exact k1
            · rw [srt_len] at k1; omega
            · repeat' (first | exact trivial | exact rfl | exact T_ok _ _ _ _ | exact e_ok _ rfl | exact r2_ok _ rfl | exact n2_ok _ (nC_one k1) | exact n2_ok _ (nC_take k1).symm | exact r2_ok _ (congrArg (fun x => tC (srt x)) (getT_tC _)) | apply And.intro)
          · refine ⟨QP.of q _ eD_eq, need_else (at_pk' q.inv k1).1 (need_else (at_pk' q.inv k1).2 (need_else ?_ (need_intro ?_ (need_else ?_ (need_intro ?_ (need_intro ?_ (need_intro b2 (.inr ⟨i + 1, ⟨Nat.succ_le_succ (Nat.zero_le _), ?_⟩, ?_, ?_⟩))))))))⟩
            · rw [ltI_f]; exact Int.ofNat_le.2 (Nat.le_trans hi.2 hlen)
            · rw [nC_takelen (by rw [srt_len]; exact hi.2), Bool.and_eq_true, decide_eq_true_eq, decide_eq_true_eq]; omega
            · exact decide_eq_false (by omega)
            · rw [Bool.and_eq_true, decide_eq_true_eq, decide_eq_true_eq]; omega
            · rw [nC_takelen (by rw [srt_len]; exact hi.2), Bool.and_eq_true, Bool.and_true, decide_eq_true_eq, decide_eq_true_eq]; omega
            · rw [srt_len] at k1; exact k1
            · rw [srt_len] at k1; omega
            · repeat' (first | exact trivial | exact rfl | exact T_ok _ _ _ _ | exact e_ok _ rfl | exact r2_ok _ rfl | exact n2_ok _ (nC_one k1) | exact n2_ok _ (nC_take k1).symm | exact r2_ok _ (congrArg (fun x => tC (srt x)) (getT_tC _)) | apply And.intro)
        · have k1 : i = h.length := by
            rw [ltI_f] at k
            have k : h.length ≤ i := Int.ofNat_le.1 k
            omega
          clear k hi
          subst k1
          have tk : (srt h).take h.length = srt h := List.take_of_length_le (by rw [srt_len]; exact Nat.le_refl _)
          rw [due_all q.inv, dueR_all q.inv, tk, srt_len h]
          have em : List.isEmpty (srt h) = false := by
            cases hs : srt h with
            | nil => have := srt_len h; rw [hs] at this; simp at this; omega
            | cons a r => rfl
          have e0 : eqI (ic h.length) (ic h.length) = true := by rw [eqI_t]
          have nb := nC_back (srt h)
          have ln : h.length ≤ (getI (nC (srt h))).length := by rw [getI_nC, List.length_map, srt_len]; exact Nat.le_refl _
          repeat' (first
            | exact trivial | exact rfl | exact T_ok _ _ _ _ | exact QP.of q _ eD_eq | exact QP.of q' _ eD_eq | exact nb | exact ln | exact q.inv.sz
            | apply And.intro
            | refine need_end e0 ?_ | refine need_else em ?_ | refine need_end (decide_eq_true rfl) ?_
            | refine ⟨(), trivial, ?_⟩
            | (intro x2 hx2; obtain ⟨h', g', m'⟩ := x2; obtain ⟨q', e'⟩ := hx2; obtain rfl : h' = [] := nil_of e'))
end Go.Proofs.Ytainjcpocodehaa

/- The law TimerOnce: what its walk asks is so. -/
import Derived.Test.YtainjcpocodehaaOnW
set_option linter.unusedSimpArgs false
set_option linter.unusedVariables false
namespace Go.Proofs.Ytainjcpocodehaa
open Go Go.Ve
set_option maxRecDepth 20000
theorem actC_cons (a : Int × Int × Int) (l : AL) : actC (a :: l) = .int .i64 a.1 :: .int .i64 a.2.1 :: .int .i64 a.2.2 :: actC l := rfl
theorem actC_len : ∀ l : AL, (actC l).length = l.length * 3
  | [] => rfl
  | a :: l => by rw [actC_cons, List.length_cons, List.length_cons, List.length_cons, actC_len l, List.length_cons]; omega
theorem actC_take : ∀ (l : AL) (i : Nat), i < l.length → List.take 3 (List.drop (i * 3) (actC l)) = [.int .i64 (ak l i).1, .int .i64 (ak l i).2.1, .int .i64 (ak l i).2.2]
  | [], _, h => by simp at h
  | a :: l, 0, _ => rfl
  | a :: l, i + 1, h => by
    have := actC_take l i (by simpa using h)
    rw [show (i + 1) * 3 = i * 3 + 1 + 1 + 1 by omega, actC_cons, List.drop_succ_cons, List.drop_succ_cons, List.drop_succ_cons]
    exact this
theorem act_take (l r : AL) (i : Nat) (h : i < l.length) : List.take 3 (List.drop (0 + i * 3) (actC (l ++ r))) = [.int .i64 (ak l i).1, .int .i64 (ak l i).2.1, .int .i64 (ak l i).2.2] := by
  rw [Nat.zero_add, actC_take _ _ (by rw [List.length_append]; omega), ak_app h]
theorem emap_mem {a : MP} {x y : Int} (h : List.Mem (AV.int .i64 x, AV.int .i64 y) (emap a)) : (x, y) ∈ a := by
  obtain ⟨p, hp, e⟩ := List.mem_map.1 h
  have e1 : p.1 = x := by injection e with e1 e2; injection e1
  have e2 : p.2 = y := by injection e with e1 e2; injection e2
  rw [← e1, ← e2]; exact hp
theorem emap_all {a : MP} {p : AV × AV} (h : List.Mem p (emap a)) : ∃ x y : Int, p.1 = AV.int .i64 x ∧ p.2 = AV.int .i64 y := by
  obtain ⟨q, _, rfl⟩ := List.mem_map.1 h
  exact ⟨_, _, rfl, rfl⟩
theorem emap_len (a : MP) : (emap a).length = a.length := by unfold emap; rw [List.length_map]
theorem So_srt (l : AL) : ∀ i, Srt (So l i).1
  | 0 => List.Pairwise.nil
  | i + 1 => by
    have h := So_srt l i
    show Srt (stO _ _).1
    unfold stO
    split
    · split
      · exact ins_srt _ (ers_srt _ h)
      · exact h
    · split
      · exact ers_srt _ h
      · exact h.sublist (List.dropWhile_sublist _)
theorem late_no {l : AL} {i : Nat} {a : MP} (h : AtR (dueR (nwO l i) (So l i).1) a) {x y : Int} (hm : List.Mem (AV.int .i64 x, AV.int .i64 y) (emap a)) : leI y (max (So l i).2 (ak l i).2.2) = false := by
  have := dueR_late (So_srt l i) _ (h.p.mem_iff.1 (emap_mem hm))
  rw [leI_f]; exact this
theorem ers_no3 {n : Int} {s : TL} (h : (tmOf n s).isSome = false) : ers n s = s := by
  refine ers_none fun t ht e => ?_
  unfold tmOf at h
  cases hf : s.find? (fun t => decide (t.1 = n)) with
  | none =>
    have := List.find?_eq_none.1 hf t ht
    simp [e] at this
  | some t => rw [hf] at h; cases h
theorem nC_ok (σ : Nat → Nat) {a b : TL} (h : b = a) : cellsP σ (nC a) (nC b) ∧ True := ⟨cellsP_flat (nC_flat _) (by rw [h]), trivial⟩
theorem AtR.same {s s' : TL} {a : MP} (h : AtR s a) (e : s' = s) : AtR s' a := e ▸ h
theorem lsO_le {l : AL} {i k c : Nat} {h g : TL} {m : MP} (h2 : srt h = (So l i).1) (q : QI 100 c h g m) (hk : k < (So l i).1.length) : ltI (pk (So l i).1 k).2 (lsO l i k) = false := by
  rw [ltI_f]
  have h0 : 0 ≤ (pk (So l i).1 k).2 := by
    rw [← h2] at hk ⊢
    exact (q.inv.tm _ (srt_mem.1 (pk_mem hk))).1
  unfold lsO
  split
  · omega
  · have hs := So_srt l i
    rw [pk_get hk, pk_get (show k - 1 < (So l i).1.length by omega)]
    have := (tle_iff _ _).1 (List.pairwise_iff_getElem.1 hs (k - 1) k (by omega) hk (by omega))
    omega
theorem lens {s h : TL} {a : MP} (e : srt h = s) (at_ : AtR s a) : (!eqI (ic h.length) (ic (emap a).length)) = false := by
  have : (emap a).length = h.length := by rw [emap_len, at_.len, ← e]; exact (srt_perm h).length_eq
  rw [this, (eqI_t _ _).mpr rfl]; rfl
set_option maxHeartbeats 8000000 in
theorem on_vc (l r : AL) (e : Nat) (ro : Bool) (cc : Nat) (ex : Bool) : vOn l r e ro cc ex := by
  rw [vOn_eq]
  refine cond_intro (fun _ => ⟨(), trivial, ⟨T_ok _ _ _ _, trivial⟩, rfl, trivial⟩) fun hl => ?_
  have hl : l.length ≤ 60 := by
    rw [ltI_f] at hl
    have hl : (l.length : Int) ≤ 60 := hl
    omega
  have v60 : ∀ x : Nat, x < l.length → leI (ic x + 1) 9223372036854775807 = true := fun x hx => by rw [leI_t]; show (x : Int) + 1 ≤ _; omega
  have L : ∀ x : Nat, x < l.length → decide (0 + x * 3 + 3 ≤ (actC (l ++ r)).length) = true := fun x hx => decide_eq_true (by rw [actC_len, List.length_append]; omega)
  refine ⟨.inl ⟨0, ⟨Nat.zero_le _, rfl⟩, ?_⟩, fun x hx => ?_, fun x hx => ?_⟩
  · (repeat' (first | exact trivial | exact rfl | exact T_ok _ _ _ _ | exact e_ok _ (put_mput _ _ _) | exact e_ok _ (del_mdel _ _) | exact e_ok _ rfl | exact r2_ok _ rfl | exact nC_ok _ rfl | assumption | apply And.intro))
  · obtain ⟨hx, hs⟩ := hx
    refine cond_intro (fun k => ?_) fun k => ⟨(), trivial, ⟨T_ok _ _ _ _, trivial⟩, rfl, trivial⟩
    have k1 : x < l.length := by rw [ltI_t] at k; exact Int.ofNat_lt.1 k
    refine need_intro k (need_intro (L x k1) ⟨act_take l r x k1, ?_, fun _ h1 => need_intro (v60 x k1) (.inl ⟨x + 1, ⟨k1, h1⟩, ?_, ?_⟩), fun x1 hx1 => ?_⟩)
    · refine cond_intro (fun c0 => ⟨⟨by decide, by decide⟩, cond_intro (fun s => fun x1 h1 => ⟨emap_keys [] _, ?_⟩) fun s => cond_intro (fun s2 => ?_) fun _ => .inl ⟨(), ?_, ?_⟩⟩) fun c0 => cond_intro (fun c1 => ⟨emap_keys [] _, emap_ints [], rfl, emap_keys [] _, emap_ints [], rfl, emap_keys [] _, .inl ⟨(), ?_, ?_⟩⟩) fun c1 => ⟨fun p hp => (by cases hp), fun _ _ hm => (by cases hm), .inl ⟨(), ?_, ?_⟩⟩
      · rw [eqI_t] at c0 s
        have e1 := So_set c0 (by rw [hs]; exact s)
        have hl1 : 1 = List.length x1.1 := h1.2.1.symm
        have e3 : (So l x).2 = (So l (x + 1)).2 := by rw [e1]
        refine .inr ⟨(1, x1.1, [], x1.2, mput (ak l x).2.1 (ak l x).2.2 []), ⟨?_, h1.1, ?_⟩, ?_⟩
        · show srt x1.1 = (So l (x + 1)).1
          rw [h1.2.2, e1, hs]; rfl
        · show AtR (So l (x + 1)).1 (mput (ak l x).2.1 (ak l x).2.2 [])
          rw [e1, hs]; exact AtR.nil.put _ _
        · (repeat' (first | exact trivial | exact rfl | exact T_ok _ _ _ _ | exact e_ok _ (put_mput _ _ _) | exact e_ok _ (del_mdel _ _) | exact e_ok _ rfl | exact r2_ok _ rfl | exact nC_ok _ rfl | assumption | apply And.intro))
      · rw [s2] at s; cases s
      · rw [eqI_t] at c0
        rw [eqI_f] at s
        rw [So_not c0 (by rw [hs]; exact s)]; exact hs
      · rw [eqI_t] at c0
        rw [eqI_f] at s
        have e3 : (So l x).2 = (So l (x + 1)).2 := by rw [So_not c0 (by rw [hs]; exact s)]
        (repeat' (first | exact trivial | exact rfl | exact T_ok _ _ _ _ | exact e_ok _ (put_mput _ _ _) | exact e_ok _ (del_mdel _ _) | exact e_ok _ rfl | exact r2_ok _ rfl | exact nC_ok _ rfl | assumption | apply And.intro))
      · rw [eqI_f] at c0
        rw [eqI_t] at c1
        rw [So_can c0 c1, hs]; rfl
      · rw [eqI_f] at c0
        rw [eqI_t] at c1
        have e3 : (So l x).2 = (So l (x + 1)).2 := by rw [So_can c0 c1]
        (repeat' (first | exact trivial | exact rfl | exact T_ok _ _ _ _ | exact e_ok _ (put_mput _ _ _) | exact e_ok _ (del_mdel _ _) | exact e_ok _ rfl | exact r2_ok _ rfl | exact nC_ok _ rfl | assumption | apply And.intro))
      · rw [eqI_f] at c0 c1
        rw [So_due c0 c1, hs]; rfl
      · rw [eqI_f] at c0 c1
        have e3 : max (So l x).2 (ak l x).2.2 = (So l (x + 1)).2 := by rw [So_due c0 c1]
        (repeat' (first | exact trivial | exact rfl | exact T_ok _ _ _ _ | exact e_ok _ (put_mput _ _ _) | exact e_ok _ (del_mdel _ _) | exact e_ok _ rfl | exact r2_ok _ rfl | exact nC_ok _ rfl | assumption | apply And.intro))
    · omega
    · (repeat' (first | exact trivial | exact rfl | exact T_ok _ _ _ _ | exact e_ok _ (put_mput _ _ _) | exact e_ok _ (del_mdel _ _) | exact e_ok _ rfl | exact r2_ok _ rfl | exact nC_ok _ rfl | assumption | apply And.intro))
    · obtain ⟨c, h, g, m, a⟩ := x1
      obtain ⟨h1, q, at_⟩ := hx1
      dsimp only at h1 q at_ ⊢
      refine ⟨QP.of q _ eD_eq, cond_intro (fun bad => ?_) fun _ => need_intro (v60 x k1) (.inr ⟨(x + 1, c, h, g, m, a), ⟨k1, h1, q, at_⟩, ?_, ?_⟩)⟩
      · exact absurd bad (by rw [lens h1 at_]; decide)
      · show l.length - (x + 1) < l.length - x
        omega
      · (repeat' (first | exact trivial | exact rfl | exact T_ok _ _ _ _ | exact e_ok _ (put_mput _ _ _) | exact e_ok _ (del_mdel _ _) | exact e_ok _ rfl | exact r2_ok _ rfl | exact nC_ok _ rfl | assumption | apply And.intro))
  · obtain ⟨i, c, h, g, m, a⟩ := x
    obtain ⟨hx, h2, q, at_⟩ := hx
    dsimp only at hx h2 q at_ ⊢
    rw [hOf_tC h g, h2]
    refine cond_intro (fun k => ?_) fun k => ⟨(), trivial, ⟨T_ok _ _ _ _, trivial⟩, rfl, trivial⟩
    have k1 : i < l.length := by rw [ltI_t] at k; exact Int.ofNat_lt.1 k
    refine need_intro k (need_intro (L i k1) ⟨act_take l r i k1, ?_, fun x1 hx1 => ?_⟩)
    · refine cond_intro (fun c0 => ⟨QP.of q _ eD_eq, cond_intro (fun s => cond_intro (fun s2 => fun x1 h1 => ⟨emap_keys _ _, ?_⟩) fun s2 => fun x1 h1 => ⟨emap_keys _ _, ?_⟩) fun s => cond_intro (fun s2 => ?_) fun _ => ⟨(c, h, g, m, a), ⟨?_, q, ?_⟩, ?_⟩⟩) fun c0 => cond_intro (fun c1 => ⟨emap_keys _ _, emap_ints _, rfl, QP.of q _ eD_eq, cond_intro (fun t => fun x1 h1 => ?_) fun t => ?_⟩) fun c1 => ⟨⟨QP.of q _ eD_eq, cond_intro (fun d => .inl ⟨(), ?_, ?_⟩) fun d => fun x1 h1 => .inr ⟨(x1.1, x1.2.1, x1.2.2), ⟨h1.1, h1.2⟩, ?_⟩⟩, fun _ d => ⟨fun p hp => emap_all hp, fun x2 y hm => ?_, ⟨(c, h, g, m, a), ⟨?_, q, ?_⟩, ?_⟩⟩, fun x1 h1 => ⟨⟨(0, a), ⟨Nat.zero_le _, at_⟩, ?_⟩, fun x2 hx2 => ?_⟩⟩
      · rw [eqI_t] at c0 s
        have e1 := So_set c0 s
        have e3 : (So l i).2 = (So l (i + 1)).2 := by rw [e1]
        refine ⟨(c, x1.1, x1.2.1, x1.2.2, mput (ak l i).2.1 (ak l i).2.2 a), ⟨?_, h1.1, ?_⟩, ?_⟩
        · show srt x1.1 = (So l (i + 1)).1
          rw [h1.2, e1]
        · show AtR (So l (i + 1)).1 _
          rw [e1]; exact at_.put _ _
        · (repeat' (first | exact trivial | exact rfl | exact T_ok _ _ _ _ | exact e_ok _ (put_mput _ _ _) | exact e_ok _ (del_mdel _ _) | exact e_ok _ rfl | exact r2_ok _ rfl | exact nC_ok _ rfl | assumption | apply And.intro))
      · rw [eqI_t] at c0 s
        have e1 := So_set c0 s
        have e3 : (So l i).2 = (So l (i + 1)).2 := by rw [e1]
        refine ⟨(x1.1.length, x1.1, [], x1.2, mput (ak l i).2.1 (ak l i).2.2 a), ⟨?_, h1.1, ?_⟩, ?_⟩
        · show srt x1.1 = (So l (i + 1)).1
          rw [h1.2, e1]
        · show AtR (So l (i + 1)).1 _
          rw [e1]; exact at_.put _ _
        · (repeat' (first | exact trivial | exact rfl | exact T_ok _ _ _ _ | exact e_ok _ (put_mput _ _ _) | exact e_ok _ (del_mdel _ _) | exact e_ok _ rfl | exact r2_ok _ rfl | exact nC_ok _ rfl | assumption | apply And.intro))
      · rw [s2] at s; cases s
      · rw [eqI_t] at c0
        rw [eqI_f] at s
        show srt h = (So l (i + 1)).1
        rw [So_not c0 s]; exact h2
      · rw [eqI_t] at c0
        rw [eqI_f] at s
        show AtR (So l (i + 1)).1 a
        rw [So_not c0 s]; exact at_
      · rw [eqI_t] at c0
        rw [eqI_f] at s
        have e3 : (So l i).2 = (So l (i + 1)).2 := by rw [So_not c0 s]
        (repeat' (first | exact trivial | exact rfl | exact T_ok _ _ _ _ | exact e_ok _ (put_mput _ _ _) | exact e_ok _ (del_mdel _ _) | exact e_ok _ rfl | exact r2_ok _ rfl | exact nC_ok _ rfl | assumption | apply And.intro))
      · rw [eqI_f] at c0
        rw [eqI_t] at c1
        have e1 := So_can c0 c1
        have e3 : (So l i).2 = (So l (i + 1)).2 := by rw [e1]
        rw [show hasK (AV.int .i64 (ak l i).2.1) (emap a) = true by rw [has_mget, at_.get]; exact t]
        refine ⟨emap_keys _ _, (c, x1.1, x1.2.1, x1.2.2, mdel (ak l i).2.1 a), ⟨?_, h1.1, ?_⟩, ?_⟩
        · show srt x1.1 = (So l (i + 1)).1
          rw [h1.2, e1]
        · show AtR (So l (i + 1)).1 _
          rw [e1]; exact at_.del _
        · (repeat' (first | exact trivial | exact rfl | exact T_ok _ _ _ _ | exact e_ok _ (put_mput _ _ _) | exact e_ok _ (del_mdel _ _) | exact e_ok _ rfl | exact r2_ok _ rfl | exact nC_ok _ rfl | assumption | apply And.intro))
      · rw [eqI_f] at c0
        rw [eqI_t] at c1
        have e1 := So_can c0 c1
        have e3 : (So l i).2 = (So l (i + 1)).2 := by rw [e1]
        rw [show hasK (AV.int .i64 (ak l i).2.1) (emap a) = false by rw [has_mget, at_.get]; exact t]
        refine ⟨emap_keys _ _, (c, h, g, m, mdel (ak l i).2.1 a), ⟨?_, q, ?_⟩, ?_⟩
        · show srt h = (So l (i + 1)).1
          rw [e1]
          show srt h = ers _ _
          rw [ers_no3 t]; exact h2
        · show AtR (So l (i + 1)).1 _
          rw [e1]; exact at_.del _
        · (repeat' (first | exact trivial | exact rfl | exact T_ok _ _ _ _ | exact e_ok _ (put_mput _ _ _) | exact e_ok _ (del_mdel _ _) | exact e_ok _ rfl | exact r2_ok _ rfl | exact nC_ok _ rfl | assumption | apply And.intro))
      · exact List.isEmpty_iff.1 d
      · (repeat' (first | exact trivial | exact rfl | exact T_ok _ _ _ _ | exact e_ok _ (put_mput _ _ _) | exact e_ok _ (del_mdel _ _) | exact e_ok _ rfl | exact r2_ok _ rfl | exact nC_ok _ rfl | assumption | apply And.intro))
      · (repeat' (first | exact trivial | exact rfl | exact T_ok _ _ _ _ | exact e_ok _ (put_mput _ _ _) | exact e_ok _ (del_mdel _ _) | exact e_ok _ rfl | exact r2_ok _ rfl | exact nC_ok _ rfl | assumption | apply And.intro))
      · have d0 : dueL (nwO l i) (So l i).1 = [] := d
        have e0 := dueLR (nwO l i) (So l i).1
        rw [d0, List.nil_append] at e0
        rw [late_no (at_.same e0) hm]
        exact ⟨rfl, trivial⟩
      · rw [eqI_f] at c0 c1
        have d0 : dueL (nwO l i) (So l i).1 = [] := d
        have e0 := dueLR (nwO l i) (So l i).1
        rw [d0, List.nil_append] at e0
        show srt h = (So l (i + 1)).1
        rw [So_due c0 c1]
        exact h2.trans e0.symm
      · rw [eqI_f] at c0 c1
        have d0 : dueL (nwO l i) (So l i).1 = [] := d
        have e0 := dueLR (nwO l i) (So l i).1
        rw [d0, List.nil_append] at e0
        show AtR (So l (i + 1)).1 a
        rw [So_due c0 c1]
        exact at_.same e0
      · rw [eqI_f] at c0 c1
        have e3 : max (So l i).2 (ak l i).2.2 = (So l (i + 1)).2 := by rw [So_due c0 c1]
        (repeat' (first | exact trivial | exact rfl | exact T_ok _ _ _ _ | exact e_ok _ (put_mput _ _ _) | exact e_ok _ (del_mdel _ _) | exact e_ok _ rfl | exact r2_ok _ rfl | exact nC_ok _ rfl | assumption | apply And.intro))
      · (repeat' (first | exact trivial | exact rfl | exact T_ok _ _ _ _ | exact e_ok _ (put_mput _ _ _) | exact e_ok _ (del_mdel _ _) | exact e_ok _ rfl | exact r2_ok _ rfl | exact nC_ok _ rfl | assumption | apply And.intro))
      · obtain ⟨kk, b⟩ := x2
        obtain ⟨hk, hb⟩ := hx2
        dsimp only at hk hb ⊢
        have hdl : (duO l i).length ≤ (So l i).1.length := by
          have := congrArg List.length (dueLR (nwO l i) (So l i).1)
          rw [List.length_append] at this
          show (dueL (nwO l i) (So l i).1).length ≤ _
          omega
        have hsl : (So l i).1.length ≤ 100 := by
          rw [← h2, (srt_perm h).length_eq]
          have := q.mst
          omega
        refine cond_intro (fun kl => ?_) fun kl => ?_
        · have kl0 : kk < (duO l i).length := by rw [ltI_t] at kl; exact Int.ofNat_lt.1 kl
          obtain ⟨p1, p2, p3⟩ := due_pk (now := nwO l i) (s := (So l i).1) kl0
          have hget : mget (pk (duO l i) kk).1 b = some (pk (So l i).1 kk).2 := by
            show mget (pk (dueL (nwO l i) (So l i).1) kk).1 b = _
            rw [p1]; exact hb.here p2
          have hK : hasK (AV.int .i64 (pk (duO l i) kk).1) (emap b) = true := by rw [has_mget, hget]; rfl
          have vK : valK (AV.int .i64 (pk (duO l i) kk).1) (emap b) = (pk (So l i).1 kk).2 := by rw [val_mget, hget]; rfl
          have n1 : ltI (max (So l i).2 (ak l i).2.2) (pk (So l i).1 kk).2 = false := by rw [ltI_f]; exact p3
          have n2 := lsO_le (l := l) (i := i) h2 q p2
          have hb2 : AtR ((So l i).1.drop (kk + 1)) (mdel (pk (duO l i) kk).1 b) := by
            show AtR _ (mdel (pk (dueL (nwO l i) (So l i).1) kk).1 b)
            rw [p1]; exact hb.step p2
          have e4 : (pk (So l i).1 kk).2 = lsO l i (kk + 1) := rfl
          refine need_intro kl ⟨nC_get kl0, emap_keys _ _, emap_ints _, rfl, ?_⟩
          rw [hK, vK, n1, n2]
          refine need_intro kl ⟨nC_get kl0, emap_keys _ _, need_intro (by rw [leI_t]; show (kk : Int) + 1 ≤ _; omega) ⟨(kk + 1, mdel (pk (duO l i) kk).1 b), ⟨kl0, hb2⟩, ?_, ?_⟩⟩
          · show (duO l i).length - (kk + 1) < (duO l i).length - kk
            omega
          · (repeat' (first | exact trivial | exact rfl | exact T_ok _ _ _ _ | exact e_ok _ (put_mput _ _ _) | exact e_ok _ (del_mdel _ _) | exact e_ok _ rfl | exact r2_ok _ rfl | exact nC_ok _ rfl | assumption | apply And.intro))
        · rw [ltI_f] at kl
          have kl : (duO l i).length ≤ kk := Int.ofNat_le.1 kl
          obtain rfl : kk = (duO l i).length := by omega
          have hb2 : AtR (dueR (nwO l i) (So l i).1) b := by rw [← dueR_drop]; exact hb
          rw [eqI_f] at c0 c1
          have e1 := So_due c0 c1
          have e3 : max (So l i).2 (ak l i).2.2 = (So l (i + 1)).2 := by rw [e1]
          refine ⟨fun p hp => emap_all hp, fun x3 y hm => ?_, ⟨(c, x1.1, x1.2.1, x1.2.2, b), ⟨?_, h1.1, ?_⟩, ?_⟩⟩
          · rw [late_no hb2 hm]
            exact ⟨rfl, trivial⟩
          · show srt x1.1 = (So l (i + 1)).1
            rw [h1.2, e1]; rfl
          · show AtR (So l (i + 1)).1 b
            rw [e1]; exact hb2
          · (repeat' (first | exact trivial | exact rfl | exact T_ok _ _ _ _ | exact e_ok _ (put_mput _ _ _) | exact e_ok _ (del_mdel _ _) | exact e_ok _ rfl | exact r2_ok _ rfl | exact nC_ok _ rfl | assumption | apply And.intro))
    · obtain ⟨c', h', g', m', a'⟩ := x1
      obtain ⟨h1, q', at'⟩ := hx1
      dsimp only at h1 q' at' ⊢
      refine ⟨QP.of q' _ eD_eq, cond_intro (fun bad => ?_) fun _ => need_intro (v60 i k1) (.inr ⟨(i + 1, c', h', g', m', a'), ⟨k1, h1, q', at'⟩, ?_, ?_⟩)⟩
      · exact absurd bad (by rw [lens h1 at']; decide)
      · show l.length - (i + 1) < l.length - i
        omega
      · (repeat' (first | exact trivial | exact rfl | exact T_ok _ _ _ _ | exact e_ok _ (put_mput _ _ _) | exact e_ok _ (del_mdel _ _) | exact e_ok _ rfl | exact r2_ok _ rfl | exact nC_ok _ rfl | assumption | apply And.intro))
end Go.Proofs.Ytainjcpocodehaa

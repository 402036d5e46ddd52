/- The law TimerScript's comparison, told for any memory. -/
import Derived.Test.YtainjcpocodehaaRfT
import Derived.Test.YtainjcpocodehaaRfG
set_option linter.unusedSimpArgs false
set_option linter.unusedVariables false
namespace Go.Proofs.Ytainjcpocodehaa
open Go Go.Ve
set_option maxRecDepth 20000
def nd4 (a b c d : Nat) : Bool := Bool.and (nd3 a b c) (Bool.and (!(Nat.beq a d)) (Bool.and (!(Nat.beq b d)) (!(Nat.beq c d))))
theorem nd4_ok {a b c d : Nat} (h : nd4 a b c d = true) : [a, b, c, d].Nodup := by
  have ne : ∀ {x y : Nat}, (!(Nat.beq x y)) = true → x ≠ y := fun h e => by subst e; rw [Nat.beq_refl] at h; cases h
  unfold nd4 at h
  rw [and_t, and_t, and_t] at h
  obtain ⟨h1, h2, h3, h4⟩ := h
  have := nd3_ok h1
  simp only [List.nodup_cons, List.mem_cons, List.mem_nil_iff, or_false, not_or, List.nodup_nil, not_false_eq_true, and_true] at this ⊢
  exact ⟨⟨this.1.1, this.1.2, ne h2⟩, ⟨this.2, ne h3⟩, ne h4⟩
noncomputable def eSmQ : SpecE := fun args H =>
  match args with
  | [.ptr b 0, .sl rb off n c2 ex] =>
    match qOf H b, H[rb]? with
    | some ⟨most, hb, k, c, mb, eq, cs, eh, es⟩, some (.cells rs er false) =>
      match ex with
      | false => some (.need (nd4 b hb mb rb) (.needP (QP ⟨most, hb, k, c, mb, eq, cs, eh, es⟩ ∧ 0 < k ∧ c2 = n ∧ n = k ∧ off = (pO rs off).length * 2 ∧ rs = tC (pO rs off ++ srt (hOf cs k))) (.ok (.bool true) none)))
      | true => some (.need (nd4 b hb mb rb) (.needP (QP ⟨most, hb, k, c, mb, eq, cs, eh, es⟩ ∧ k = 0 ∧ off = 0 ∧ n = 0 ∧ c2 = 0 ∧ rs = [] ∧ er = 0) (.ok (.bool true) none)))
    | _, _ => none
  | [.ptr b 0, .sle rb off adv] =>
    match qOf H b, H[rb]? with
    | some ⟨most, hb, k, c, mb, eq, cs, eh, es⟩, some (.cells rs er false) => some (.need (nd4 b hb mb rb) (.needP (QP ⟨most, hb, k, c, mb, eq, cs, eh, es⟩ ∧ k = 0 ∧ rs = tC (getT rs)) (.ok (.bool true) none)))
    | _, _ => none
  | [.ptr b 0, .nilsl] =>
    match nilQ H b with
    | some (most, mb, eq) => some (.need (!(Nat.beq b mb)) (.ok (.bool true) none))
    | none => none
  | _ => none
theorem SC.four {f : FuncId} {most : Int} {k c eq : Nat} {row : TL} {m : MP} {rs : List AV} {er : Nat} {arg : AV} (hf : AV.flats rs = true) (h : SC Try.prog f [.ptr 0 0, arg] (qH most k c eq row eD m ++ [.cells rs er false]) (fun v H' => v = .bool true ∧ H' = qH most k c eq row eD m ++ [.cells rs er false])) {H : AH} {b hb mb rb : Nat} (hn : [b, hb, mb, rb].Nodup)
    (h1 : H[b]? = some (qB most hb k c mb eq)) (h2 : H[hb]? = some (.cells (tC row) eD false)) (h3 : H[mb]? = some (.map (emap m) false)) (h4 : H[rb]? = some (.cells rs er false)) {K : AV → Option AH → Prop} (hk : K (.bool true) none) :
    SC Try.prog f [.ptr b 0, arg.ren (rn [b, hb, mb, rb] H.length)] H (fun v H' => ∃ ch, K v ch ∧ H' = chN H ch) := by
  have blk : ∀ ρ : Nat → Nat, ρ 1 = hb → ρ 2 = mb → (qH most k c eq row eD m ++ [ABlk.cells rs er false]).map (ABlk.ren ρ) = [qB most hb k c mb eq, ABlk.cells (tC row) eD false, ABlk.map (emap m) false, ABlk.cells rs er false] := fun ρ e1 e2 => by
    rw [List.map_append, qH_ren most b hb mb k c eq row eD m ρ e1 e2]
    have e : List.map (ABlk.ren ρ) [ABlk.cells rs er false] = [ABlk.cells rs er false] := by
      show [ABlk.ren ρ (ABlk.cells rs er false)] = _
      rw [cells_ren hf]
    rw [e]; rfl
  have sel : ∀ (i x : Nat), [b, hb, mb, rb][i]? = some x → H[x]? = [qB most hb k c mb eq, ABlk.cells (tC row) eD false, .map (emap m) false, .cells rs er false][i]? := fun i x hx => by
    match i, hx with
    | 0, hx => cases hx; exact h1
    | 1, hx => cases hx; exact h2
    | 2, hx => cases hx; exact h3
    | 3, hx => cases hx; exact h4
    | n + 4, hx => simp at hx
  refine SC.owns2 (σ := [b, hb, mb, rb]) (args0 := [.ptr 0 0, arg]) h hn rfl (fun i x s hi hs => ?_) ?_
  · have e := congrArg (fun l => l[i]?) (blk (rn [b, hb, mb, rb] H.length) rfl rfl)
    simp only [List.getElem?_map] at e
    rw [hs] at e
    refine ⟨(sel i x hi).trans e.symm, ?_⟩
    rintro rfl
    have e2 : [qB most hb k c mb eq, ABlk.cells (tC row) eD false, .map (emap m) false, .cells rs er false][i]? = some .dead := e.symm
    match i, e2 with
    | 0, e2 => cases e2
    | 1, e2 => cases e2
    | 2, e2 => cases e2
    | 3, e2 => cases e2
    | n + 4, e2 => simp at e2
  · rintro v0 H0' ⟨rfl, rfl⟩
    refine ⟨_, [], (List.append_nil _).symm, rfl, fun i k s hi hs => ?_, (fun k hk => by cases hk), none, hk, ?_⟩
    · rw [hi] at hs; cases hs
      cases ho : k.own
      · exact .inr (.inr rfl)
      · exact .inl rfl
    · have e := blk (upN [b, hb, mb, rb] (qH most k c eq row eD m ++ [ABlk.cells rs er false]).length H.length) rfl rfl
      rw [e, putL_same _ _ _ sel]
      simp [chN]
theorem outT {H0 : AH} {v : AV} {H' : AH} (h : outE [⟨Unit, fun _ => .bool true, fun _ => H0, fun _ => True, gcB⟩] v H') : v = .bool true ∧ H' = H0 := by
  obtain ⟨_, _, h1, h2⟩ := outE_one h
  exact ⟨h1, h2⟩
theorem TSmQ_ok : SpecOk Try.prog (tabS TSmQ noS) := by
  refine tabS_ok (fun p hp => ?_) noS_ok
  simp only [TSmQ, List.mem_cons, List.mem_nil_iff, or_false] at hp
  rcases hp with rfl | rfl | rfl
  · exact eLen_ok
  · exact eCol_ok
  · exact eSortF_ok
theorem eSmQ_ok : EntryOk Try.prog 51 eSmQ := by
  intro args H sr hs K hk
  unfold eSmQ at hs
  split at hs
  · rename_i b rb off n c2 ex
    split at hs
    · rename_i most hb k c mb eq cs eh es rs er hq hr
      obtain ⟨q1, q2, q3⟩ := qOf_ok hq
      cases ex with
      | false =>
        cases hs
        obtain ⟨hn, ⟨qp, h0, rfl, rfl, ho, he⟩, hk2⟩ := cond_need hk
        have hE := qp.e
        obtain ⟨e1, e2, e3⟩ := qp.split
        have qi := qp.i
        dsimp only at q1 q2 q3 e1 e2 e3 hE qi
        clear qp hk
        generalize hOf cs c2 = h at *
        generalize gOf cs c2 = g at *
        generalize getM es = m at *
        generalize pO rs off = p at *
        subst e1; subst e3; subst hE; subst he; subst ho; subst e2
        have ls : (srt h).length = h.length := srt_len h
        have hsc := (SC.ofF (V := VSmQ h) names0 mixed0 TSmQ_ok noO_ok (sm_vc2 h g p m most c eq er qi h0)).mono fun v H' h => outT h
        have := SC.four (arg := .sl 3 (p.length * 2) (srt h).length (srt h).length false) (tC_flat _) hsc (nd4_ok hn) q1 q2 q3 hr hk2
        rw [ls] at this
        exact this
      | true =>
        cases hs
        obtain ⟨hn, ⟨qp, rfl, rfl, rfl, rfl, rfl, rfl⟩, hk2⟩ := cond_need hk
        have hE := qp.e
        obtain ⟨e1, e2, e3⟩ := qp.split
        have qi := qp.i
        dsimp only at q1 q2 q3 e1 e2 e3 hE qi
        clear qp
        have e0 : hOf cs 0 = [] := List.length_eq_zero_iff.1 e2.symm
        rw [e0] at e1 qi
        generalize gOf cs 0 = g at *
        generalize getM es = m at *
        subst e1; subst e3; subst hE
        have hsc := (SC.ofF (V := VSmQ0) names0 mixed0 TSmQ_ok noO_ok (smA_vc g m most c eq qi)).mono fun v H' h => outT h
        exact SC.four (arg := .sl 3 0 0 0 true) rfl hsc (nd4_ok hn) q1 q2 q3 hr hk2
    · cases hs
  · rename_i b rb off adv
    split at hs
    · rename_i most hb k c mb eq cs eh es rs er hq hr
      obtain ⟨q1, q2, q3⟩ := qOf_ok hq
      cases hs
      obtain ⟨hn, ⟨qp, rfl, he⟩, hk2⟩ := cond_need hk
      have hE := qp.e
      obtain ⟨e1, e2, e3⟩ := qp.split
      have qi := qp.i
      dsimp only at q1 q2 q3 e1 e2 e3 hE qi
      clear qp
      have e0 : hOf cs 0 = [] := List.length_eq_zero_iff.1 e2.symm
      rw [e0] at e1 qi
      generalize gOf cs 0 = g at *
      generalize getM es = m at *
      generalize getT rs = row at *
      subst e1; subst e3; subst hE; subst he
      have hsc := (SC.ofF (V := VSmQ0) names0 mixed0 TSmQ_ok noO_ok (smB_vc g m most c eq off adv er row qi)).mono fun v H' h => outT h
      exact SC.four (arg := .sle 3 off adv) (tC_flat _) hsc (nd4_ok hn) q1 q2 q3 hr hk2
    · cases hs
  · rename_i b
    split at hs
    · rename_i most mb eq hnq
      cases hs
      obtain ⟨hn, hk2⟩ := cond_need hk
      have hne : b ≠ mb := fun e => by subst e; rw [Nat.beq_refl] at hn; cases hn
      have hq2 : H[b]? = some (.cells [.int .i64 most, .nilsl, .map mb] eq false) ∧ H[mb]? = some (.map [] false) := by
        unfold nilQ at hnq
        split at hnq
        · rename_i h1
          split at hnq
          · rename_i h2
            cases hnq
            exact ⟨h1, h2⟩
          · cases hnq
        · cases hnq
      have h : HoldsN (vSmQN most eq) := smN_vc most eq
      unfold vSmQN at h
      have hsc := (SC.ofN (V := VSmQ0) names0 mixed0 TSmQ_ok noO_ok h).mono fun v H' h => outT h
      refine SC.owns (σ := [b, mb]) (args0 := [.ptr 0 0, .nilsl]) hsc (by simp [hne]) rfl (fun i x s hi hs => ?_) ?_
      · match i, hi, hs with
        | 0, hi, hs => cases hi; cases hs; exact ⟨hq2.1, rfl⟩
        | 1, hi, hs => cases hi; cases hs; exact ⟨hq2.2, rfl⟩
        | n + 2, hi, _ => simp at hi
      rintro v0 H0' ⟨rfl, rfl⟩
      refine ⟨_, [], (List.append_nil _).symm, rfl, ?_, none, hk2, ?_⟩
      · intro y hy
        simp only [List.append_nil, List.mem_cons, List.mem_nil_iff, or_false] at hy
        rcases hy with rfl | rfl <;> exact .inl rfl
      · show putL [b, mb] [.cells [.int .i64 most, .nilsl, .map mb] eq false, .map [] false] H ++ [] = H
        rw [List.append_nil]
        exact putL_same _ _ _ fun i x hx => by
          match i, hx with
          | 0, hx => cases hx; exact hq2.1
          | 1, hx => cases hx; exact hq2.2
          | n + 2, hx => simp at hx
    · cases hs
  · cases hs
end Go.Proofs.Ytainjcpocodehaa

/- The document's Set, told for any memory. -/
import Derived.Test.YtainjcpocodehaaRfQ
import Derived.Test.YtainjcpocodehaaRfN
set_option linter.unusedSimpArgs false
set_option linter.unusedVariables false
namespace Go.Proofs.Ytainjcpocodehaa
open Go Go.Ve
set_option maxRecDepth 20000
theorem setE_0 {most : Int} {s : TL} {n at_ : Int} (h : setE most s n at_ = 0) : eqI (setE most s n at_) 0 = true := by rw [h]; rfl
theorem setE_1 {most : Int} {s : TL} {n at_ : Int} (h : setE most s n at_ ≠ 0) : eqI (setE most s n at_) 0 = false := by rw [eqI_f]; exact h
theorem tmOf_only {n : Int} {s : TL} (d : Dn s) (h : tmOf n s ≠ none) (he : ers n s = []) : ∃ t : Tm, s = [t] ∧ t.1 = n := by
  have hex : ∃ i, i < s.length ∧ (pk s i).1 = n := by
    by_cases hx : ∃ i, i < s.length ∧ (pk s i).1 = n
    · exact hx
    · exact absurd (tmOf_no fun j hj e => hx ⟨j, hj, e⟩) h
  obtain ⟨i, hi, e⟩ := hex
  have h2 := ers_ne d hi e
  rw [he] at h2
  have hl := congrArg List.length h2
  rw [List.length_append, List.length_take, List.length_drop] at hl
  have hl : (0 : Nat) = min i s.length + (s.length - (i + 1)) := hl
  match s, hi, hl, e with
  | [t], hi, hl, e =>
    have : i = 0 := by simp at hi; exact hi
    subst this
    exact ⟨t, rfl, e⟩
  | t :: u :: r, hi, hl, e => simp only [List.length_cons] at hi hl; omega
theorem rSet_sc (n at_ most : Int) (p s : TL) (eq er : Nat) (h0 : 0 < s.length) (hl : s.length ≤ 1048576) (d : Dn s) (so : Srt s) : SC Try.prog 46 [.ptr 0 0, .int .i64 n, .int .i64 at_] (oH most p s eq er) (outE (oSe n at_ most p s eq er)) := by
  by_cases c : tmOf n s = none
  · match s, h0 with
    | t :: s', _ => exact SC.ofF (V := VRf n (t :: s')) names0 mixed0 noS_ok noO_ok (rSe1_vc n at_ most p t s' eq er hl so c)
  · cases he : ers n s with
    | nil =>
      obtain ⟨t, rfl, rfl⟩ := tmOf_only d c he
      exact SC.ofF (V := VRf t.1 [t]) names0 mixed0 noS_ok noO_ok (rSe3_vc t at_ most p eq er)
    | cons a r => exact SC.ofF (V := VRf n s) names0 mixed0 noS_ok noO_ok (rSe2_vc n at_ most p s eq er d hl so c (by rw [he]; exact fun e => by cases e))
theorem SC.oq2 {f : FuncId} {o0 r0 : ABlk} {extra : List AV} {K0 K : AV → AH → Prop} (h : SC Try.prog f (.ptr 0 0 :: extra) [o0, r0] K0) {b rb : Nat} {H : AH} (hx : ∀ ρ : Nat → Nat, AV.rens ρ extra = extra) (hne : b ≠ rb) (h1 : ∀ ρ : Nat → Nat, ρ 1 = rb → H[b]? = some (o0.ren ρ)) (hd0 : o0 ≠ .dead) (h2 : H[rb]? = some r0) (hr : ∀ ρ : Nat → Nat, r0.ren ρ = r0) (hd : r0 ≠ .dead) (hro : r0.own = true)
    (hK : ∀ v0 H0', K0 v0 H0' → ∃ o T, H0' = [o, r0] ++ T ∧ (∀ k ∈ T, k.own = true ∨ k = .dead) ∧ o.own = true ∧ K (v0.ren (upN [b, rb] 2 H.length)) (H.set b (o.ren (upN [b, rb] 2 H.length)) ++ T.map (ABlk.ren (upN [b, rb] 2 H.length)))) :
    SC Try.prog f (.ptr b 0 :: extra) H K := by
  have h3 := SC.owns2 (σ := [b, rb]) (H := H) (K := K) h (by simp [hne]) rfl (fun i x k hi hk => ?_) ?_
  · have e1 : AV.rens (rn [b, rb] H.length) (.ptr 0 0 :: extra) = .ptr b 0 :: extra := by
      show AV.ptr (rn [b, rb] H.length 0) 0 :: AV.rens (rn [b, rb] H.length) extra = _
      rw [hx]; rfl
    rw [e1] at h3
    exact h3
  · match i, hi, hk with
    | 0, hi, hk => cases hi; cases hk; exact ⟨h1 _ rfl, hd0⟩
    | 1, hi, hk => cases hi; cases hk; exact ⟨by rw [hr]; exact h2, hd⟩
    | n + 2, hi, _ => simp at hi
  · intro v0 H0' h0
    obtain ⟨o, T, rfl, hT, ho, hk⟩ := hK v0 H0' h0
    refine ⟨[o, r0], T, rfl, rfl, fun i k s' hi _ => ?_, hT, ?_⟩
    · match i, hi with
      | 0, hi => cases hi; exact .inl ho
      | 1, hi => cases hi; exact .inl hro
      | n + 2, hi => simp at hi
    · have e : List.map (ABlk.ren (upN [b, rb] 2 H.length)) [o, r0] = [o.ren (upN [b, rb] 2 H.length), r0] := by
        show [_, _] = _
        rw [hr]
      have e2 : putL [b, rb] [o.ren (upN [b, rb] 2 H.length), r0] H = H.set b (o.ren (upN [b, rb] 2 H.length)) := by
        show (H.set b _).set rb r0 = _
        have h : (H.set b (o.ren (upN [b, rb] 2 H.length)))[rb]? = some r0 := by rw [List.getElem?_set_ne hne]; exact h2
        obtain ⟨h1, h2⟩ := List.getElem?_eq_some_iff.1 h
        rw [← h2]; exact List.set_getElem_self h1
      show K _ (putL [b, rb] (List.map (ABlk.ren (upN [b, rb] 2 H.length)) [o, r0]) H ++ _)
      rw [e, e2]
      exact hk
theorem ne_of_beq {b rb : Nat} (h : (!(Nat.beq b rb)) = true) : b ≠ rb := fun e => by subst e; rw [Nat.beq_refl] at h; cases h
theorem seO_sc {b rb eq : Nat} {most n at_ : Int} {H : AH} {q r0 : ABlk} {K : AV → Option AH → Prop} (hne : b ≠ rb) (hsc : SC Try.prog 46 [.ptr 0 0, .int .i64 n, .int .i64 at_] [q, r0] (outE (oSe0 n at_ most [r0] eq q))) (h1 : ∀ ρ : Nat → Nat, ρ 1 = rb → H[b]? = some (q.ren ρ)) (hq : q.own = true) (h2 : H[rb]? = some r0) (hr : ∀ ρ : Nat → Nat, r0.ren ρ = r0) (hro : r0.own = true) (hk : (seO H b most n at_ eq).run noC noR H K) :
    SC Try.prog 46 [.ptr b 0, .int .i64 n, .int .i64 at_] H (fun v H' => ∃ ch, K v ch ∧ H' = chN H ch) := by
  have nd : ∀ k : ABlk, k.own = true → k ≠ .dead := fun k h e => by subst e; cases h
  refine SC.oq2 (extra := [.int .i64 n, .int .i64 at_]) hsc (fun _ => rfl) hne h1 (nd _ hq) h2 hr (nd _ hro) hro fun v0 H0' ho => ?_
  obtain ⟨o, ho, x, hx, rfl, rfl⟩ := ho
  simp only [oSe0, List.mem_cons, List.mem_nil_iff, or_false] at ho
  unfold seO at hk
  rcases ho with rfl | rfl
  · have hx : setE most [] n at_ ≠ 0 := hx
    simp only [SR.run, setE_1 hx, cond_false] at hk
    refine ⟨_, [], rfl, (fun k hk => by cases hk), hq, none, hk, ?_⟩
    have h1 := h1 (upN [b, rb] 2 H.length) rfl
    rw [set_self h1]
    simp [chN]
  · have hx : setE most [] n at_ = 0 := hx
    simp only [SR.run, setE_0 hx, cond_true] at hk
    refine ⟨_, [.cells (tC [(n, at_)]) eR false], rfl, fun k hk => one_own rfl hk, rfl, some _, hk, ?_⟩
    show H.set b (oB most (upN [b, rb] 2 H.length 2) 0 1 eq) ++ _ = _
    rw [(upA b rb H.length).2.2]
    simp only [List.map_cons, List.map_nil, row_ren, chN]
theorem eRSe_ok : EntryOk Try.prog 46 eRSe := by
  intro args H sr hs K hk
  unfold eRSe at hs
  split at hs
  · rename_i b n at_
    split at hs
    · rename_i most sl eq hb
      split at hs
      · cases hs
        refine SC.owns (σ := [b]) (args0 := [.ptr 0 0, .int .i64 n, .int .i64 at_]) (SC.ofF (V := VR0) names0 mixed0 noS_ok noO_ok (seN_vc n at_ most eq)) (by simp) rfl (fun i x k hi hk' => ?_) ?_
        · match i, hi, hk' with
          | 0, hi, hk' => cases hi; cases hk'; exact ⟨hb, rfl⟩
          | j + 1, hi, _ => simp at hi
        intro v0 H0' ho
        obtain ⟨o, ho, x, hx, rfl, rfl⟩ := ho
        simp only [oSe0, List.mem_cons, List.mem_nil_iff, or_false] at ho
        unfold seO at hk
        rcases ho with rfl | rfl
        · have hx : setE most [] n at_ ≠ 0 := hx
          simp only [SR.run, setE_1 hx, cond_false] at hk
          refine ⟨[qN0 most eq], [], rfl, rfl, fun k hk => .inl (by simp only [List.append_nil, List.mem_singleton] at hk; subst hk; rfl), none, hk, ?_⟩
          show H.set b (.cells [.int .i64 most, .nilsl] eq false) ++ [] = _
          rw [List.append_nil, set_self hb]; rfl
        · have hx : setE most [] n at_ = 0 := hx
          simp only [SR.run, setE_0 hx, cond_true] at hk
          refine ⟨[oB most 1 0 1 eq], [.cells (tC [(n, at_)]) eR false], rfl, rfl, fun k hk => ?_, some _, hk, ?_⟩
          · simp only [List.cons_append, List.nil_append, List.mem_cons, List.mem_nil_iff, or_false] at hk
            rcases hk with rfl | rfl <;> exact .inl rfl
          · have e : upN [b] 1 H.length 1 = H.length := by unfold upN; rw [if_neg (Nat.lt_irrefl 1), Nat.sub_self]; rfl
            show H.set b (oB most (upN [b] 1 H.length 1) 0 1 eq) ++ List.map (ABlk.ren _) [.cells (tC [(n, at_)]) eR false] = _
            rw [e]
            simp only [List.map_cons, List.map_nil, row_ren, chN]
      · rename_i rb off k c ex
        split at hs
        · obtain ⟨most, rb, p, s, eq, er, hne, h1, h2, h3, h4, d, so, hk⟩ := oqE_ok hs hk
          rw [sO_tC] at hk
          refine SC.oq (extra := [.int .i64 n, .int .i64 at_]) (rSet_sc n at_ most p s eq er h3 h4 d so) (fun _ => rfl) hne h1 h2 fun v0 H0' ho => ?_
          obtain ⟨o, ho, x, hx, rfl, rfl⟩ := ho
          simp only [oSe, List.mem_cons, List.mem_nil_iff, or_false] at ho
          rcases ho with rfl | rfl
          · have hx : setE most s n at_ ≠ 0 := hx
            simp only [SR.run, setE_1 hx, cond_false] at hk
            refine ⟨_, [], rfl, (fun k hk => by cases hk), rfl, none, hk, ?_⟩
            rw [oB_ren, (upA b rb H.length).2.1, set_self h1]
            simp [chN]
          · have hx : setE most s n at_ = 0 := hx
            simp only [SR.run, setE_0 hx, cond_true] at hk
            refine ⟨_, [.cells (tC (insS n at_ s)) eR false], rfl, fun k hk => one_own rfl hk, rfl, some _, hk, ?_⟩
            rw [oB_ren, (upA b rb H.length).2.2]
            simp only [List.map_cons, List.map_nil, row_ren, chN]
        · split at hs
          · rename_i cs er hrb
            cases hs
            obtain ⟨hn, ⟨rfl, rfl, rfl, rfl, rfl⟩, hk2⟩ := cond_need hk
            exact seO_sc (q := qE0 most eq) (ne_of_beq hn) (SC.ofF (V := VR0) names0 mixed0 noS_ok noO_ok (seE_vc n at_ most eq)) (fun ρ e => by rw [hb, ← e]; rfl) rfl hrb (fun _ => rfl) rfl hk2
          · cases hs
      · rename_i rb off adv
        split at hs
        · rename_i cs er hrb
          cases hs
          obtain ⟨hn, he, hk2⟩ := cond_need hk
          generalize getT cs = row at he
          subst he
          exact seO_sc (q := qD0 most off adv eq) (ne_of_beq hn) (SC.ofF (V := VR0) names0 mixed0 noS_ok noO_ok (seD_vc n at_ most off adv eq er row)) (fun ρ e => by rw [hb, ← e]; rfl) rfl hrb (row_ren _ _) rfl hk2
        · cases hs
      · cases hs
    · cases hs
  · cases hs
end Go.Proofs.Ytainjcpocodehaa

/- How many timers a queue has, told for any memory. -/
import Derived.Test.YtainjcpocodehaaTmD
set_option linter.unusedSimpArgs false
set_option linter.unusedVariables false
namespace Go.Proofs.Ytainjcpocodehaa
open Go Go.Ve
set_option maxRecDepth 20000
noncomputable def eLen : SpecE := fun args H =>
  match args with
  | [.ptr b 0] =>
    match qOf H b with
    | some ⟨most, hb, k, c, mb, eq, cs, eh, es⟩ => some (.need (nd3 b hb mb) (.needP (QP ⟨most, hb, k, c, mb, eq, cs, eh, es⟩) (.ok (.int .i64 (ic k)) none)))
    | none =>
      match nilQ H b with
      | some (most, mb, eq) => some (.need (!(Nat.beq b mb)) (.ok (.int .i64 0) none))
      | none => none
  | _ => none

noncomputable def vLen  (h g : TL) (m : MP) (most : Int) (c eq : Nat) : Prop := vcF VSt [] 60 [] [] 38 [.ptr 0 0] (qH most h.length c eq (h ++ g) eD m) [⟨Unit, fun _ => .int .i64 (ic h.length), fun _ => qH most h.length c eq (h ++ g) eD m, fun _ => True, gcB⟩]
noncomputable def vLenN  (most : Int) (eq : Nat) : Prop := vcF VSt [] 60 [] [] 38 [.ptr 0 0] [.cells [.int .i64 most, .nilsl, .map 1] eq false, .map [] false] [⟨Unit, fun _ => .int .i64 0, fun _ => [.cells [.int .i64 most, .nilsl, .map 1] eq false, .map [] false], fun _ => True, gcB⟩]
theorem vLen_eq  (h g : TL) (m : MP) (most : Int) (c eq : Nat) : vLen h g m most c eq = (∃ (_x : Unit), True ∧ ((bif eq.beq eq && true then (most = most ∧ (0 = 0 ∧ List.length h = List.length h ∧ c = c ∧ false = false) ∧ True ∧ True) ∧ True else False) ∧ (cellsP (fun (b : Nat) => [0, 1, 2].getD b 3) (tC (h ++ g)) (tC (h ++ g)) ∧ True) ∧ (entsP (fun (b : Nat) => [0, 1, 2].getD b 3) (emap m) (emap m) ∧ True) ∧ True) ∧ ic (List.length h) = ic (List.length h) ∧ True) := by kernel_rfl
theorem vLenN_eq  (most : Int) (eq : Nat) : vLenN most eq = (∃ (_x : Unit), True ∧ ((bif eq.beq eq && true then (most = most ∧ True ∧ True ∧ True) ∧ True else False) ∧ (True ∧ True) ∧ True) ∧ (0 : Int) = (0 : Int) ∧ True) := by kernel_rfl
theorem len_vc (h g : TL) (m : MP) (most : Int) (c eq : Nat) : vLen h g m most c eq := by
  rw [vLen_eq]
  refine ⟨(), trivial, ⟨q_ok _ _ _ _, r2_ok _ rfl, e_ok _ rfl, trivial⟩, rfl, trivial⟩
theorem lenN_vc (most : Int) (eq : Nat) : vLenN most eq := by
  rw [vLenN_eq]
  refine ⟨(), trivial, ⟨?_, ⟨trivial, trivial⟩, trivial⟩, rfl, trivial⟩
  rw [Nat.beq_refl]
  exact ⟨⟨rfl, trivial, trivial, trivial⟩, trivial⟩
theorem eLen_ok : EntryOk Try.prog 38 eLen := by
  intro args H sr hs K hk
  unfold eLen at hs
  split at hs
  · rename_i b
    split at hs
    · rename_i most hb k c mb eq cs eh es hq
      cases hs
      obtain ⟨hn, qp, hk2⟩ := cond_need hk
      obtain ⟨q1, q2, q3⟩ := qOf_ok hq
      have he := qp.e
      obtain ⟨e1, e2, e3⟩ := qp.split
      dsimp only at q1 q2 q3 e1 e2 e3 he
      clear qp
      generalize hOf cs k = h at *
      generalize gOf cs k = g at *
      generalize getM es = m at *
      subst e1; subst e2; subst e3; subst he
      have hsc := SC.ofF (V := VSt) names0 mixed0 TSt_ok noO_ok (len_vc h g m most c eq)
      refine SC.queue hsc (nd3_ok hn) q1 q2 q3 ?_
      intro v0 H0' ho
      obtain ⟨x, hx, rfl, rfl⟩ := outE_one ho
      refine ⟨_, [], (List.append_nil _).symm, rfl, q_own, none, hk2, ?_⟩
      rw [qH_ren most b hb mb h.length c eq _ eD _ _ rfl rfl, q_put q1 q2 q3]
      simp [chN]
    · split at hs
      · rename_i hq most mb eq hnq
        cases hs
        obtain ⟨hn, hk2⟩ := cond_need hk
        have hne : b ≠ mb := fun e => by subst e; rw [Nat.beq_refl] at hn; cases hn
        have hq2 : H[b]? = some (.cells [.int .i64 most, .nilsl, .map mb] eq false) ∧ H[mb]? = some (.map [] false) := by
          unfold nilQ at hnq
          split at hnq
          · rename_i h1
            split at hnq
            · rename_i h2
              cases hnq
              exact ⟨h1, h2⟩
            · cases hnq
          · cases hnq
        have hsc := SC.ofF (V := VSt) names0 mixed0 TSt_ok noO_ok (lenN_vc most eq)
        refine SC.owns (σ := [b, mb]) hsc (by simp [hne]) rfl (fun i x s hi hs => ?_) ?_
        · match i, hi, hs with
          | 0, hi, hs => cases hi; cases hs; exact ⟨hq2.1, rfl⟩
          | 1, hi, hs => cases hi; cases hs; exact ⟨hq2.2, rfl⟩
          | n + 2, hi, _ => simp at hi
        intro v0 H0' ho
        obtain ⟨x, hx, rfl, rfl⟩ := outE_one ho
        refine ⟨_, [], (List.append_nil _).symm, rfl, ?_, none, hk2, ?_⟩
        · intro y hy
          simp only [List.append_nil, List.mem_cons, List.mem_nil_iff, or_false] at hy
          rcases hy with rfl | rfl <;> exact .inl rfl
        · show putL [b, mb] [.cells [.int .i64 most, .nilsl, .map mb] eq false, .map [] false] H ++ [] = H
          rw [List.append_nil]
          exact putL_same _ _ _ fun i x hx => by
            match i, hx with
            | 0, hx => cases hx; exact hq2.1
            | 1, hx => cases hx; exact hq2.2
            | n + 2, hx => simp at hx
      · cases hs
  · cases hs

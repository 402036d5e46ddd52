/- The queue of timers, told for any memory; the chapter's example. -/
import Derived.Test.YtainjcpocodehaaTmC
set_option linter.unusedSimpArgs false
set_option linter.unusedVariables false
namespace Go.Proofs.Ytainjcpocodehaa
open Go Go.Ve
set_option maxRecDepth 20000
structure QI (most : Int) (c : Nat) (h g : TL) (m : MP) : Prop where
  inv : Inv h m
  len : h.length + g.length = c
  mst : (h.length : Int) ≤ most
  top : most ≤ 1048576
structure QP (q : QS) : Prop where
  r : QR q.cs q.k q.es
  i : QI q.most q.c (hOf q.cs q.k) (gOf q.cs q.k) (getM q.es)
  e : q.eh = eD
def nilQ (H : AH) (b : Nat) : Option (Int × Nat × Nat) :=
  match H[b]? with
  | some (.cells [.int .i64 most, .nilsl, .map mb] eq false) =>
    match H[mb]? with
    | some (.map [] false) => some (most, mb, eq)
    | _ => none
  | _ => none
noncomputable def eSet : SpecE := fun args H =>
  match args with
  | [.ptr b 0, .int .i64 n, .int .i64 at_] =>
    match qOf H b with
    | some ⟨most, hb, k, c, mb, eq, cs, eh, es⟩ => some (.need (nd3 b hb mb) (.needP (QP ⟨most, hb, k, c, mb, eq, cs, eh, es⟩)
        (.br (eqI (setE most (srt (hOf cs k)) n at_) 0)
          (.br (setIn (hOf cs k) (getM es) n c)
            (.all (TL × TL × MP) (fun x => QI most c x.1 x.2.1 x.2.2 ∧ srt x.1 = ins (n, at_) (ers n (srt (hOf cs k)))) fun x => .ok (.int .i64 0) (some (putL [b, hb, mb] [qB most hb x.1.length c mb eq, .cells (tC (x.1 ++ x.2.1)) eD false, .map (emap x.2.2) false] H)))
            (.all (TL × MP) (fun x => QI most x.1.length x.1 [] x.2 ∧ srt x.1 = ins (n, at_) (ers n (srt (hOf cs k)))) fun x => .ok (.int .i64 0) (some (putL [b, hb, mb] [qB most H.length x.1.length x.1.length mb eq, .dead, .map (emap x.2) false] H ++ [.cells (tC (x.1 ++ [])) eD false]))))
          (.ok (.int .i64 (setE most (srt (hOf cs k)) n at_)) none))))
    | none =>
      match nilQ H b with
      | some (most, mb, eq) => some (.need (!(Nat.beq b mb)) (.needP (0 ≤ most ∧ most ≤ 1048576)
        (.br (eqI (setE most [] n at_) 0)
          (.all (TL × MP) (fun x => QI most 1 x.1 [] x.2 ∧ x.1.length = 1 ∧ srt x.1 = ins (n, at_) []) fun x => .ok (.int .i64 0) (some (putL [b, mb] [qB most H.length 1 1 mb eq, .map (emap x.2) false] H ++ [.cells (tC (x.1 ++ [])) eD false])))
          (.ok (.int .i64 (setE most [] n at_)) none))))
      | none => none
  | _ => none
noncomputable def eCan : SpecE := fun args H =>
  match args with
  | [.ptr b 0, .int .i64 n] =>
    match qOf H b with
    | some ⟨most, hb, k, c, mb, eq, cs, eh, es⟩ => some (.need (nd3 b hb mb) (.needP (QP ⟨most, hb, k, c, mb, eq, cs, eh, es⟩)
        (.br (tmOf n (srt (hOf cs k))).isSome
          (.all (TL × TL × MP) (fun x => QI most c x.1 x.2.1 x.2.2 ∧ srt x.1 = ers n (srt (hOf cs k))) fun x => .ok (.int .i64 0) (some (putL [b, hb, mb] [qB most hb x.1.length c mb eq, .cells (tC (x.1 ++ x.2.1)) eD false, .map (emap x.2.2) false] H)))
          (.ok (.int .i64 5) none))))
    | none => none
  | _ => none
noncomputable def eAt : SpecE := fun args H =>
  match args with
  | [.ptr b 0, .int .i64 n] =>
    match qOf H b with
    | some ⟨most, hb, k, c, mb, eq, cs, eh, es⟩ => some (.need (nd3 b hb mb) (.needP (QP ⟨most, hb, k, c, mb, eq, cs, eh, es⟩) (.ok (.tuple [.int .i64 (atV n (srt (hOf cs k))), .int .i64 (atE n (srt (hOf cs k)))]) none)))
    | none => none
  | _ => none
noncomputable def eNx : SpecE := fun args H =>
  match args with
  | [.ptr b 0] =>
    match qOf H b with
    | some ⟨most, hb, k, c, mb, eq, cs, eh, es⟩ => some (.need (nd3 b hb mb) (.needP (QP ⟨most, hb, k, c, mb, eq, cs, eh, es⟩) (.ok (.tuple [.int .i64 (nxN (srt (hOf cs k))), .int .i64 (nxT (srt (hOf cs k))), .int .i64 (nxE (srt (hOf cs k)))]) none)))
    | none => none
  | _ => none
noncomputable def eDue : SpecE := fun args H =>
  match args with
  | [.ptr b 0, .int .i64 now] =>
    match qOf H b with
    | some ⟨most, hb, k, c, mb, eq, cs, eh, es⟩ => some (.need (nd3 b hb mb) (.needP (QP ⟨most, hb, k, c, mb, eq, cs, eh, es⟩)
        (.br (dueL now (srt (hOf cs k))).isEmpty (.ok .nilsl none)
          (.all (TL × TL × MP) (fun x => QI most c x.1 x.2.1 x.2.2 ∧ srt x.1 = dueR now (srt (hOf cs k))) fun x => .ok (.sl H.length 0 (dueL now (srt (hOf cs k))).length (dueL now (srt (hOf cs k))).length false) (some (putL [b, hb, mb] [qB most hb x.1.length c mb eq, .cells (tC (x.1 ++ x.2.1)) eD false, .map (emap x.2.2) false] H ++ [.cells (nC (dueL now (srt (hOf cs k)))) eI false]))))))
    | none => none
  | _ => none
noncomputable def faLv (f : FuncId) : Option FA := match Nat.beq f 73 with | true => some ⟨[(1, .tail 7), (2, .tail 7)], [], []⟩ | false => match Nat.beq f 60 with | true => some ⟨[(2, .tail 6), (9, .tail 8)], [], []⟩ | false => some ⟨[], [], []⟩
noncomputable def VLv : VE := ⟨Try.prog, tabS TOr noS, noO, faLv⟩

noncomputable def vLiv  : Prop := vcF VLv [] 60 [] [] 34 [] [] (Go.Ve.one (.bool true))
theorem vLiv_eq  : vLiv  = (keysK (AV.int IntKind.i64 (7 : Int)) [] ∧ intsK IntKind.i64 [] ∧ AV.int IntKind.i64 (0 : Int) = AV.int IntKind.i64 (0 : Int) ∧ keysK (AV.int IntKind.i64 (7 : Int)) [] ∧ keysK (AV.int IntKind.i64 (3 : Int)) [(AV.int IntKind.i64 (7 : Int), AV.int IntKind.i64 (0 : Int))] ∧ intsK IntKind.i64 [(AV.int IntKind.i64 (7 : Int), AV.int IntKind.i64 (0 : Int))] ∧ AV.int IntKind.i64 (0 : Int) = AV.int IntKind.i64 (0 : Int) ∧ keysK (AV.int IntKind.i64 (7 : Int)) [(AV.int IntKind.i64 (7 : Int), AV.int IntKind.i64 (0 : Int))] ∧ keysK (AV.int IntKind.i64 (3 : Int)) [(AV.int IntKind.i64 (7 : Int), AV.int IntKind.i64 (1 : Int))] ∧ keysK (AV.int IntKind.i64 (9 : Int)) [(AV.int IntKind.i64 (7 : Int), AV.int IntKind.i64 (1 : Int)), (AV.int IntKind.i64 (3 : Int), AV.int IntKind.i64 (0 : Int))] ∧ intsK IntKind.i64 [(AV.int IntKind.i64 (7 : Int), AV.int IntKind.i64 (1 : Int)), (AV.int IntKind.i64 (3 : Int), AV.int IntKind.i64 (0 : Int))] ∧ AV.int IntKind.i64 (0 : Int) = AV.int IntKind.i64 (0 : Int) ∧ keysK (AV.int IntKind.i64 (3 : Int)) [(AV.int IntKind.i64 (7 : Int), AV.int IntKind.i64 (1 : Int)), (AV.int IntKind.i64 (3 : Int), AV.int IntKind.i64 (0 : Int))] ∧ keysK (AV.int IntKind.i64 (9 : Int)) [(AV.int IntKind.i64 (7 : Int), AV.int IntKind.i64 (1 : Int)), (AV.int IntKind.i64 (3 : Int), AV.int IntKind.i64 (2 : Int))] ∧ keysK (AV.int IntKind.i64 (9 : Int)) [(AV.int IntKind.i64 (7 : Int), AV.int IntKind.i64 (1 : Int)), (AV.int IntKind.i64 (3 : Int), AV.int IntKind.i64 (2 : Int)), (AV.int IntKind.i64 (9 : Int), AV.int IntKind.i64 (0 : Int))] ∧ keysK (AV.int IntKind.i64 (3 : Int)) [(AV.int IntKind.i64 (7 : Int), AV.int IntKind.i64 (1 : Int)), (AV.int IntKind.i64 (3 : Int), AV.int IntKind.i64 (2 : Int))] ∧ keysK (AV.int IntKind.i64 (3 : Int)) [(AV.int IntKind.i64 (7 : Int), AV.int IntKind.i64 (1 : Int)), (AV.int IntKind.i64 (3 : Int), AV.int IntKind.i64 (0 : Int))] ∧ keysK (AV.int IntKind.i64 (3 : Int)) [(AV.int IntKind.i64 (7 : Int), AV.int IntKind.i64 (1 : Int)), (AV.int IntKind.i64 (3 : Int), AV.int IntKind.i64 (0 : Int))] ∧ intsK IntKind.i64 [(AV.int IntKind.i64 (7 : Int), AV.int IntKind.i64 (1 : Int)), (AV.int IntKind.i64 (3 : Int), AV.int IntKind.i64 (0 : Int))] ∧ AV.int IntKind.i64 (0 : Int) = AV.int IntKind.i64 (0 : Int) ∧ keysK (AV.int IntKind.i64 (3 : Int)) [(AV.int IntKind.i64 (7 : Int), AV.int IntKind.i64 (1 : Int)), (AV.int IntKind.i64 (3 : Int), AV.int IntKind.i64 (0 : Int))] ∧ keysK (AV.int IntKind.i64 (3 : Int)) [(AV.int IntKind.i64 (7 : Int), AV.int IntKind.i64 (1 : Int)), (AV.int IntKind.i64 (3 : Int), AV.int IntKind.i64 (0 : Int))] ∧ keysK (AV.int IntKind.i64 (7 : Int)) [(AV.int IntKind.i64 (7 : Int), AV.int IntKind.i64 (1 : Int))] ∧ keysK (AV.int IntKind.i64 (7 : Int)) [(AV.int IntKind.i64 (7 : Int), AV.int IntKind.i64 (0 : Int))] ∧ keysK (AV.int IntKind.i64 (7 : Int)) [(AV.int IntKind.i64 (7 : Int), AV.int IntKind.i64 (0 : Int))] ∧ intsK IntKind.i64 [(AV.int IntKind.i64 (7 : Int), AV.int IntKind.i64 (0 : Int))] ∧ AV.int IntKind.i64 (0 : Int) = AV.int IntKind.i64 (0 : Int) ∧ keysK (AV.int IntKind.i64 (7 : Int)) [(AV.int IntKind.i64 (7 : Int), AV.int IntKind.i64 (0 : Int))] ∧ keysK (AV.int IntKind.i64 (7 : Int)) [(AV.int IntKind.i64 (7 : Int), AV.int IntKind.i64 (0 : Int))] ∧ ∃ (_x : Unit), True ∧ True ∧ true = true ∧ True) := by kernel_rfl
theorem keysL {n : Int} {es : List (AV × AV)} (h : (es.all fun e => likeK (.int .i64 n) e.1) = true) : keysK (.int .i64 n) es := fun e he => List.all_eq_true.1 h e he
theorem intsL {m : MP} {es : List (AV × AV)} (h : es = emap m) : intsK .i64 es := by rw [h]; exact emap_ints m
structure HoldsL (p : Prop) : Prop where
  h : p
theorem liv_vc : HoldsL vLiv := by
  refine ⟨?_⟩
  rw [vLiv_eq]
  repeat' (first | exact keysL rfl | exact intsL (m := [(7, 0)]) rfl | exact intsL (m := []) rfl | exact intsL (m := [(7, 1), (3, 0)]) rfl | exact intsL (m := [(7, 0), (3, 1)]) rfl | exact intsL (m := [(3, 0)]) rfl | exact rfl | exact trivial | exact () | apply And.intro | refine ⟨(), ?_⟩)
theorem gLiv_sc : SC Try.prog 34 [] [] (fun v' H' => v' = .bool true ∧ H' = []) := oneS (SC.ofF (V := VLv) names0 mixed0 TOr_ok noO_ok liv_vc.h)
theorem putL_same : ∀ (σ : List Nat) (L : List ABlk) (H : AH), (∀ (i b : Nat), σ[i]? = some b → H[b]? = L[i]?) → putL σ L H = H
  | [], _, _, _ => rfl
  | _ :: _, [], _, _ => rfl
  | b :: σ, k :: L, H, h => by
    have h0 := h 0 b rfl
    simp only [List.getElem?_cons_zero] at h0
    have e : H.set b k = H := by
      obtain ⟨hb, hk⟩ := List.getElem?_eq_some_iff.1 h0
      rw [← hk]; exact List.set_getElem_self hb
    rw [putL, e]
    exact putL_same σ L H fun i x hx => by simpa using h (i + 1) x (by simpa using hx)
theorem QP.split {q : QS} (p : QP q) : q.cs = tC (hOf q.cs q.k ++ gOf q.cs q.k) ∧ q.k = (hOf q.cs q.k).length ∧ q.es = emap (getM q.es) := by
  refine ⟨by unfold hOf gOf; rw [List.take_append_drop]; exact p.r.c1, ?_, p.r.e1⟩
  unfold hOf; rw [List.length_take]; have := p.r.k1; omega
theorem q_own {most : Int} {k c eq : Nat} {row : TL} {eh : Nat} {m : MP} : ∀ x ∈ qH most k c eq row eh m ++ ([] : List ABlk), x.own = true ∨ x = .dead := by
  intro x hx
  simp only [qH, List.append_nil, List.mem_cons, List.mem_nil_iff, or_false] at hx
  rcases hx with rfl | rfl | rfl <;> exact .inl rfl
theorem q_put {most : Int} {b hb mb k c eq : Nat} {row : TL} {eh : Nat} {m : MP} {H : AH} (q1 : H[b]? = some (qB most hb k c mb eq)) (q2 : H[hb]? = some (.cells (tC row) eh false)) (q3 : H[mb]? = some (.map (emap m) false)) : putL [b, hb, mb] [qB most hb k c mb eq, .cells (tC row) eh false, .map (emap m) false] H = H :=
  putL_same _ _ _ fun i x hx => by
    match i, hx with
    | 0, hx => cases hx; exact q1
    | 1, hx => cases hx; exact q2
    | 2, hx => cases hx; exact q3
    | n + 3, hx => simp at hx
theorem upB {b hb mb N : Nat} : upN [b, hb, mb] 3 N 3 = N := by
  unfold upN
  rw [if_neg (by omega)]; omega
theorem eSet_ok : EntryOk Try.prog 36 eSet := by
  intro args H sr hs K hk
  unfold eSet at hs
  split at hs
  · rename_i b n at_
    split at hs
    · rename_i most hb k c mb eq cs eh es hq
      cases hs
      obtain ⟨hn, qp, hk2⟩ := cond_need hk
      obtain ⟨q1, q2, q3⟩ := qOf_ok hq
      have hi := qp.i
      have he := qp.e
      obtain ⟨e1, e2, e3⟩ := qp.split
      dsimp only at q1 q2 q3 e1 e2 e3 hi he
      clear qp
      generalize hOf cs k = h at *
      generalize gOf cs k = g at *
      generalize getM es = m at *
      subst e1; subst e2; subst e3; subst he
      have hsc := SC.ofF (V := VSt) names0 mixed0 TSt_ok noO_ok (st_vc h g m n at_ most c eq hi.inv hi.len hi.mst hi.top)
      refine SC.queue hsc (nd3_ok hn) q1 q2 q3 ?_
      rintro v0 H0' ⟨o, ho, x, hx, rfl, rfl⟩
      simp only [List.mem_cons, List.mem_nil_iff, or_false] at ho
      rcases ho with rfl | rfl | rfl
      · refine ⟨_, [], (List.append_nil _).symm, rfl, q_own, none, ?_, ?_⟩
        · have e : eqI (setE most (srt h) n at_) 0 = false := by rw [eqI_f]; exact hx
          have := hk2
          simp only [SR.run, e, cond_false] at this
          exact this
        · dsimp only
          rw [qH_ren most b hb mb h.length c eq _ eD _ _ rfl rfl, q_put q1 q2 q3]
          simp [chN]
      · obtain ⟨z1, z2, z3, z4, z5⟩ := hx
        have e : eqI (setE most (srt h) n at_) 0 = true := by rw [eqI_t]; exact z1
        simp only [SR.run, e, z2, cond_true] at hk2
        have key := hk2 x ⟨⟨z3.inv, z4, z5, hi.top⟩, z3.srt⟩
        refine ⟨_, [], (List.append_nil _).symm, rfl, q_own, some _, key, ?_⟩
        · dsimp only
          rw [qH_ren most b hb mb _ c eq _ eD _ _ rfl rfl]
          simp [chN]
      · obtain ⟨z1, z2, z3, z4⟩ := hx
        have e : eqI (setE most (srt h) n at_) 0 = true := by rw [eqI_t]; exact z1
        simp only [SR.run, e, z2, cond_true, cond_false] at hk2
        have key := hk2 x ⟨⟨z3.inv, rfl, z4, hi.top⟩, z3.srt⟩
        refine ⟨[qB most 3 x.1.length x.1.length 2 eq, .dead, .map (emap x.2) false], [.cells (tC (x.1 ++ [])) eD false], rfl, rfl, ?_, some _, key, ?_⟩
        · intro y hy
          simp only [List.cons_append, List.nil_append, List.mem_cons, List.mem_nil_iff, or_false] at hy
          rcases hy with rfl | rfl | rfl | rfl
          · exact .inl rfl
          · exact .inr rfl
          · exact .inl rfl
          · exact .inl rfl
        · have ec : (ABlk.cells (tC (x.1 ++ [])) eD false).ren (upN [b, hb, mb] 3 H.length) = .cells (tC (x.1 ++ [])) eD false := cells_ren (tC_flat _) _ _ _
          have eq' : (qB most 3 x.1.length x.1.length 2 eq).ren (upN [b, hb, mb] 3 H.length) = qB most H.length x.1.length x.1.length mb eq := by
            show ABlk.cells [.int .i64 most, .sl (upN [b, hb, mb] 3 H.length 3) 0 x.1.length x.1.length false, .map mb] eq false = _
            rw [upB]; rfl
          simp only [List.map_cons, List.map_nil, emap_ren, ec, eq', chN]
          rfl
    · split at hs
      · rename_i hq most mb eq hnq
        cases hs
        obtain ⟨hn, ⟨m0, m1⟩, hk2⟩ := cond_need hk
        have hne : b ≠ mb := fun e => by subst e; rw [Nat.beq_refl] at hn; cases hn
        have hq2 : H[b]? = some (.cells [.int .i64 most, .nilsl, .map mb] eq false) ∧ H[mb]? = some (.map [] false) := by
          unfold nilQ at hnq
          split at hnq
          · rename_i h1
            split at hnq
            · rename_i h2
              cases hnq
              exact ⟨h1, h2⟩
            · cases hnq
          · cases hnq
        have hsc := SC.ofF (V := VSt) names0 mixed0 TSt_ok noO_ok (stN_vc n at_ most eq m0 m1)
        refine SC.owns (σ := [b, mb]) hsc (by simp [hne]) rfl (fun i x s hi hs => ?_) ?_
        · match i, hi, hs with
          | 0, hi, hs => cases hi; cases hs; exact ⟨hq2.1, rfl⟩
          | 1, hi, hs => cases hi; cases hs; exact ⟨hq2.2, rfl⟩
          | n + 2, hi, _ => simp at hi
        rintro v0 H0' ⟨o, ho, x, hx, rfl, rfl⟩
        simp only [List.mem_cons, List.mem_nil_iff, or_false] at ho
        rcases ho with rfl | rfl
        · refine ⟨_, [], (List.append_nil _).symm, rfl, ?_, none, ?_, ?_⟩
          · intro y hy
            simp only [List.append_nil, List.mem_cons, List.mem_nil_iff, or_false] at hy
            rcases hy with rfl | rfl <;> exact .inl rfl
          · have e : eqI (setE most [] n at_) 0 = false := by rw [eqI_f]; exact hx
            have := hk2
            simp only [SR.run, e, cond_false] at this
            exact this
          · show putL [b, mb] [.cells [.int .i64 most, .nilsl, .map mb] eq false, .map [] false] H ++ [] = H
            rw [List.append_nil]
            exact putL_same _ _ _ fun i x hx => by
              match i, hx with
              | 0, hx => cases hx; exact hq2.1
              | 1, hx => cases hx; exact hq2.2
              | n + 2, hx => simp at hx
        · obtain ⟨z1, z2, z3, z4⟩ := hx
          have e : eqI (setE most [] n at_) 0 = true := by rw [eqI_t]; exact z1
          simp only [SR.run, e, cond_true] at hk2
          have key := hk2 x ⟨⟨z2.inv, by rw [z3]; rfl, by rw [z3]; exact z4, m1⟩, z3, z2.srt⟩
          refine ⟨[qB most 2 1 1 1 eq, .map (emap x.2) false], [.cells (tC (x.1 ++ [])) eD false], rfl, rfl, ?_, some _, key, ?_⟩
          · intro y hy
            simp only [List.cons_append, List.nil_append, List.mem_cons, List.mem_nil_iff, or_false] at hy
            rcases hy with rfl | rfl | rfl <;> exact .inl rfl
          · have up2 : upN [b, mb] 2 H.length 2 = H.length := by
              unfold upN
              rw [if_neg (by omega)]; omega
            have ec : (ABlk.cells (tC (x.1 ++ [])) eD false).ren (upN [b, mb] 2 H.length) = .cells (tC (x.1 ++ [])) eD false := cells_ren (tC_flat _) _ _ _
            have eq' : (qB most 2 1 1 1 eq).ren (upN [b, mb] 2 H.length) = qB most H.length 1 1 mb eq := by
              show ABlk.cells [.int .i64 most, .sl (upN [b, mb] 2 H.length 2) 0 1 1 false, .map mb] eq false = _
              rw [up2]; rfl
            show putL [b, mb] (List.map (ABlk.ren (upN [b, mb] 2 H.length)) [qB most 2 1 1 1 eq, .map (emap x.2) false]) H ++ List.map (ABlk.ren (upN [b, mb] 2 H.length)) [.cells (tC (x.1 ++ [])) eD false] = _
            simp only [List.map_cons, List.map_nil, emap_ren, ec, eq', chN]
      · cases hs
  · cases hs
theorem eCan_ok : EntryOk Try.prog 42 eCan := by
  intro args H sr hs K hk
  unfold eCan at hs
  split at hs
  · rename_i b n
    split at hs
    · rename_i most hb k c mb eq cs eh es hq
      cases hs
      obtain ⟨hn, qp, hk2⟩ := cond_need hk
      obtain ⟨q1, q2, q3⟩ := qOf_ok hq
      have hi := qp.i
      have he := qp.e
      obtain ⟨e1, e2, e3⟩ := qp.split
      dsimp only at q1 q2 q3 e1 e2 e3 hi he
      clear qp
      generalize hOf cs k = h at *
      generalize gOf cs k = g at *
      generalize getM es = m at *
      subst e1; subst e2; subst e3; subst he
      have hsc := SC.ofF (V := VSt) names0 mixed0 TSt_ok noO_ok (ca_vc h g m n most c eq hi.inv hi.len)
      refine SC.queue hsc (nd3_ok hn) q1 q2 q3 ?_
      rintro v0 H0' ⟨o, ho, x, hx, rfl, rfl⟩
      simp only [List.mem_cons, List.mem_nil_iff, or_false] at ho
      rcases ho with rfl | rfl
      · refine ⟨_, [], (List.append_nil _).symm, rfl, q_own, none, ?_, ?_⟩
        · have e : (tmOf n (srt h)).isSome = false := by
            have hx : tmOf n (srt h) = none := hx
            rw [hx]; rfl
          have := hk2
          simp only [SR.run, e, cond_false] at this
          exact this
        · dsimp only
          rw [qH_ren most b hb mb h.length c eq _ eD _ _ rfl rfl, q_put q1 q2 q3]
          simp [chN]
      · obtain ⟨z1, z2, z3, z4⟩ := hx
        simp only [SR.run, z1, cond_true] at hk2
        have key := hk2 x ⟨⟨z2.inv, z4, by have := hi.mst; omega, hi.top⟩, z2.srt⟩
        refine ⟨_, [], (List.append_nil _).symm, rfl, q_own, some _, key, ?_⟩
        · dsimp only
          rw [← z3, qH_ren most b hb mb _ c eq _ eD _ _ rfl rfl]
          simp [chN]
    · cases hs
  · cases hs
theorem eAt_ok : EntryOk Try.prog 40 eAt := by
  intro args H sr hs K hk
  unfold eAt at hs
  split at hs
  · rename_i b n
    split at hs
    · rename_i most hb k c mb eq cs eh es hq
      cases hs
      obtain ⟨hn, qp, hk2⟩ := cond_need hk
      obtain ⟨q1, q2, q3⟩ := qOf_ok hq
      have hi := qp.i
      have he := qp.e
      obtain ⟨e1, e2, e3⟩ := qp.split
      dsimp only at q1 q2 q3 e1 e2 e3 hi he
      clear qp
      generalize hOf cs k = h at *
      generalize gOf cs k = g at *
      generalize getM es = m at *
      subst e1; subst e2; subst e3; subst he
      have hsc := SC.ofF (V := VSt) names0 mixed0 TSt_ok noO_ok (at_vc h g m n most c eq hi.inv)
      refine SC.queue hsc (nd3_ok hn) q1 q2 q3 ?_
      intro v0 H0' ho
      obtain ⟨x, hx, rfl, rfl⟩ := outE_one ho
      refine ⟨_, [], (List.append_nil _).symm, rfl, q_own, none, hk2, ?_⟩
      rw [qH_ren most b hb mb h.length c eq _ eD _ _ rfl rfl, q_put q1 q2 q3]
      simp [chN]
    · cases hs
  · cases hs
theorem eNx_ok : EntryOk Try.prog 37 eNx := by
  intro args H sr hs K hk
  unfold eNx at hs
  split at hs
  · rename_i b
    split at hs
    · rename_i most hb k c mb eq cs eh es hq
      cases hs
      obtain ⟨hn, qp, hk2⟩ := cond_need hk
      obtain ⟨q1, q2, q3⟩ := qOf_ok hq
      have hi := qp.i
      have he := qp.e
      obtain ⟨e1, e2, e3⟩ := qp.split
      dsimp only at q1 q2 q3 e1 e2 e3 hi he
      clear qp
      generalize hOf cs k = h at *
      generalize gOf cs k = g at *
      generalize getM es = m at *
      subst e1; subst e2; subst e3; subst he
      have hsc := SC.ofF (V := VSt) names0 mixed0 TSt_ok noO_ok (nx_vc h g m most c eq hi.inv)
      refine SC.queue hsc (nd3_ok hn) q1 q2 q3 ?_
      intro v0 H0' ho
      obtain ⟨x, hx, rfl, rfl⟩ := outE_one ho
      refine ⟨_, [], (List.append_nil _).symm, rfl, q_own, none, hk2, ?_⟩
      rw [qH_ren most b hb mb h.length c eq _ eD _ _ rfl rfl, q_put q1 q2 q3]
      simp [chN]
    · cases hs
  · cases hs
theorem eDue_ok : EntryOk Try.prog 39 eDue := by
  intro args H sr hs K hk
  unfold eDue at hs
  split at hs
  · rename_i b now
    split at hs
    · rename_i most hb k c mb eq cs eh es hq
      cases hs
      obtain ⟨hn, qp, hk2⟩ := cond_need hk
      obtain ⟨q1, q2, q3⟩ := qOf_ok hq
      have hi := qp.i
      have he := qp.e
      obtain ⟨e1, e2, e3⟩ := qp.split
      dsimp only at q1 q2 q3 e1 e2 e3 hi he
      clear qp
      generalize hOf cs k = h at *
      generalize gOf cs k = g at *
      generalize getM es = m at *
      subst e1; subst e2; subst e3; subst he
      have hsc := SC.ofF (V := VSt) names0 mixed0 TSt_ok noO_ok (du_vc h g m now most c eq hi.inv hi.len)
      refine SC.queue hsc (nd3_ok hn) q1 q2 q3 ?_
      rintro v0 H0' ⟨o, ho, x, hx, rfl, rfl⟩
      simp only [List.mem_cons, List.mem_nil_iff, or_false] at ho
      rcases ho with rfl | rfl
      · refine ⟨_, [], (List.append_nil _).symm, rfl, q_own, none, ?_, ?_⟩
        · have e : (dueL now (srt h)).isEmpty = true := by
            have hx : dueL now (srt h) = [] := hx
            rw [hx]; rfl
          have := hk2
          simp only [SR.run, e, cond_true] at this
          exact this
        · dsimp only
          rw [qH_ren most b hb mb h.length c eq _ eD _ _ rfl rfl, q_put q1 q2 q3]
          simp [chN]
      · obtain ⟨z1, z2, z3⟩ := hx
        have e : (dueL now (srt h)).isEmpty = false := by
          cases hd : dueL now (srt h) with
          | nil => exact absurd hd z1
          | cons a r => rfl
        simp only [SR.run, e, cond_false] at hk2
        have hle : (x.1.length : Int) ≤ most := by
          have h1 := congrArg List.length z2.srt
          rw [srt_len] at h1
          have h2 := (List.dropWhile_suffix (fun t : Tm => decide (t.2 ≤ now)) (l := srt h)).length_le
          rw [srt_len] at h2
          have h3 := hi.mst
          have h4 : (dueR now (srt h)).length ≤ h.length := h2
          omega
        have key := hk2 x ⟨⟨z2.inv, z3, hle, hi.top⟩, z2.srt⟩
        have ev : (AV.sl 3 0 (dueL now (srt h)).length (dueL now (srt h)).length false).ren (upN [b, hb, mb] 3 H.length) = .sl H.length 0 (dueL now (srt h)).length (dueL now (srt h)).length false := by
          show AV.sl (upN [b, hb, mb] 3 H.length 3) 0 _ _ false = _
          rw [upB]
        rw [← ev] at key
        refine ⟨[qB most 1 x.1.length c 2 eq, .cells (tC (x.1 ++ x.2.1)) eD false, .map (emap x.2.2) false], [.cells (nC (dueL now (srt h))) eI false], rfl, rfl, ?_, some _, key, ?_⟩
        · intro y hy
          simp only [List.cons_append, List.nil_append, List.mem_cons, List.mem_nil_iff, or_false] at hy
          rcases hy with rfl | rfl | rfl | rfl <;> exact .inl rfl
        · have ec : (ABlk.cells (nC (dueL now (srt h))) eI false).ren (upN [b, hb, mb] 3 H.length) = .cells (nC (dueL now (srt h))) eI false := cells_ren (nC_flat _) _ _ _
          have e0 : [qB most 1 x.1.length c 2 eq, .cells (tC (x.1 ++ x.2.1)) eD false, .map (emap x.2.2) false] = qH most x.1.length c eq (x.1 ++ x.2.1) eD x.2.2 := rfl
          rw [e0, qH_ren most b hb mb _ c eq _ eD _ _ rfl rfl]
          simp only [List.map_cons, List.map_nil, ec, chN]
    · cases hs
  · cases hs

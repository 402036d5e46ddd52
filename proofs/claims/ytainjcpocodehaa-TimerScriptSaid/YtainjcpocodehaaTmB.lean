/- What the queue of timers does: remove. -/
import Derived.Test.YtainjcpocodehaaTmA
import Derived.Test.YtainjcpocodehaaTmF
set_option linter.unusedSimpArgs false
set_option linter.unusedVariables false
namespace Go.Proofs.Ytainjcpocodehaa
open Go Go.Ve
set_option maxRecDepth 20000
def nd3 (a b c : Nat) : Bool := Bool.and (!(Nat.beq a b)) (Bool.and (!(Nat.beq a c)) (!(Nat.beq b c)))
structure QR (cs : List AV) (k : Nat) (es : List (AV × AV)) : Prop where
  c1 : cs = tC (getT cs)
  k1 : k ≤ (getT cs).length
  e1 : es = emap (getM es)
structure QS where
  most : Int
  hb : Nat
  k : Nat
  c : Nat
  mb : Nat
  eq : Nat
  cs : List AV
  eh : Nat
  es : List (AV × AV)
def qOf (H : AH) (b : Nat) : Option QS :=
  match H[b]? with
  | some (.cells [.int .i64 most, .sl hb 0 k c false, .map mb] eq false) =>
    match H[hb]?, H[mb]? with
    | some (.cells cs eh false), some (.map es false) => some ⟨most, hb, k, c, mb, eq, cs, eh, es⟩
    | _, _ => none
  | _ => none
def eUp : SpecE := fun args H =>
  match args with
  | [.ptr b 0, .int .i64 i] =>
    match qOf H b with
    | some ⟨most, hb, k, c, mb, eq, cs, eh, es⟩ => some (.need (nd3 b hb mb) (.needP (QR cs k es ∧ 0 ≤ i ∧ UpPre (hOf cs k) (getM es) i.toNat)
        (.all (TL × MP × Nat) (fun x => UpPost (hOf cs k) i.toNat x.1 x.2.1 x.2.2) fun x => .ok (.tuple []) (some (putL [b, hb, mb] [qB most hb k c mb eq, .cells (tC (x.1 ++ gOf cs k)) eh false, .map (emap x.2.1) false] H)))))
    | none => none
  | _ => none
def eDown : SpecE := fun args H =>
  match args with
  | [.ptr b 0, .int .i64 i] =>
    match qOf H b with
    | some ⟨most, hb, k, c, mb, eq, cs, eh, es⟩ => some (.need (nd3 b hb mb) (.needP (QR cs k es ∧ 0 ≤ i ∧ DownPre (hOf cs k) (getM es) i.toNat)
        (.all (TL × MP) (fun x => DownPost (hOf cs k) x.1 x.2) fun x => .ok (.tuple []) (some (putL [b, hb, mb] [qB most hb k c mb eq, .cells (tC (x.1 ++ gOf cs k)) eh false, .map (emap x.2) false] H)))))
    | none => none
  | _ => none
noncomputable def TRm : List (Nat × SpecE) := [(65, flatE gOrd), (61, eUp), (74, eDown)]
noncomputable def VRm : VE := ⟨Try.prog, tabS TRm noS, noO, faU⟩
def rmH (h : TL) (i : Nat) : TL := (h.take (h.length - 1)).set i (pk h (h.length - 1))
def rmM (h : TL) (m : MP) (i : Nat) : MP := mput (pk h (h.length - 1)).1 i (mdel (pk h i).1 m)
noncomputable def aRm (h g : TL) (m : MP) (i eh : Nat) : Anns := [
  (7000004, [.mk Unit (fun _ => [(6, .int .i64 (ic (h.length - 1)))]) (fun _ => none) (fun _ => True) (fun _ => 0) gcB gcB (fun _ => []) (fun _ => [])]),
  (7000008, [.mk Unit (fun _ => []) (fun _ => some [keepB, .cells (tC (rmH h i ++ (pk h (h.length - 1) :: g))) eh false, .map (emap (rmM h m i)) false, keepB, keepB, keepB]) (fun _ => True) (fun _ => 0) gcB gcB (fun _ => []) (fun _ => [])])]

noncomputable def vRm  (h g : TL) (m : MP) (i : Nat) (most : Int) (c eq eh : Nat) : Prop := vcF VRm [(2, .tail 6), (9, .tail 8)] 60 (aRm h g m i eh) [(14, tmA (pk h i)), (33, tmA (pk h (h.length - 1)))] 60 [.ptr 0 0, .int .i64 i] (qH most h.length c eq (h ++ g) eh m) [⟨TL × MP, fun _ => tmA (pk h i), fun x => qH most (h.length - 1) c eq (x.1 ++ (pk h (h.length - 1) :: g)) eh x.2, fun x => RmPost h i x.1 x.2, gcB⟩]
def gqTmB0 : Nat → Nat := (fun (b : Nat) => [0, 1, 2].getD b 6)
theorem vRm_eq  (h g : TL) (m : MP) (i : Nat) (most : Int) (c eq eh : Nat) : vRm h g m i most c eq eh = (bif ltI (ic i) (ic (List.length h)) then bif decide (0 + i * 2 + 2 ≤ (tC (h ++ g)).length) then List.take 2 (List.drop (0 + i * 2) (tC (h ++ g))) = [AV.int IntKind.i64 (pk h i).fst, AV.int IntKind.i64 (pk h i).snd] ∧ keysK (AV.int IntKind.i64 (pk h i).fst) (emap m) ∧ (bif leI (-9223372036854775808 : Int) (ic (List.length h) - (1 : Int)) && leI (ic (List.length h) - (1 : Int)) (9223372036854775807 : Int) then ∃ (_x : Unit), True ∧ ((bif eq.beq eq && true then (most = most ∧ (0 = 0 ∧ List.length h = List.length h ∧ c = c ∧ false = false) ∧ True ∧ True) ∧ True else False) ∧ (bif eh.beq eh && true then cellsP (fun (b : Nat) => [0, 1, 2, 3, 4].getD b 5) (tC (h ++ g)) (tC (h ++ g)) ∧ True else False) ∧ (entsP (fun (b : Nat) => [0, 1, 2, 3, 4].getD b 5) (delK (AV.int IntKind.i64 (pk h i).fst) (emap m)) (delK (AV.int IntKind.i64 (pk h i).fst) (emap m)) ∧ True) ∧ (((0 : Int) = (0 : Int) ∧ (0 : Int) = (0 : Int) ∧ True) ∧ True) ∧ (((pk h i).fst = (pk h i).fst ∧ (pk h i).snd = (pk h i).snd ∧ True) ∧ True) ∧ True) ∧ ic (List.length h) - (1 : Int) = ic (List.length h - 1) ∧ True else False) ∧ ∀ (x : Unit), True → bif ltI (ic (List.length h - 1)) (ic (List.length h)) then bif decide (0 + (List.length h - 1) * 2 + 2 ≤ (tC (h ++ g)).length) then List.take 2 (List.drop (0 + (List.length h - 1) * 2) (tC (h ++ g))) = [AV.int IntKind.i64 (pk h (List.length h - 1)).fst, AV.int IntKind.i64 (pk h (List.length h - 1)).snd] ∧ bif decide (List.length h ≤ c) then bif leI (ic (List.length h - 1)) (ic c) then bif decide (0 = c) then bif ltI (ic i) (ic (List.length h - 1)) then Stuck 1 12 ∧ ∀ (x : Unit), True → Stuck 1000000 61 else ∃ (x : TL × MP), RmPost h i x.fst x.snd ∧ ((bif eq.beq eq && true then (most = most ∧ False ∧ True ∧ True) ∧ True else False) ∧ (bif eh.beq eh && true then cellsP gqTmB0 (tC (x.fst ++ pk h (List.length h - 1) :: g)) (tC (h ++ g)) ∧ True else False) ∧ (entsP gqTmB0 (emap x.snd) (delK (AV.int IntKind.i64 (pk h i).fst) (emap m)) ∧ True) ∧ True) ∧ (((pk h i).fst = (pk h i).fst ∧ (pk h i).snd = (pk h i).snd ∧ True) ∧ True) ∧ True else bif ltI (ic i) (ic (List.length h - 1)) then (bif ltI (ic i) (ic (List.length h - 1)) then bif decide (0 + i * 2 + 2 ≤ (tC (h ++ g)).length) then keysK (AV.int IntKind.i64 (pk h (List.length h - 1)).fst) (delK (AV.int IntKind.i64 (pk h i).fst) (emap m)) ∧ ∃ (_x : Unit), True ∧ ((bif eq.beq eq && true then (most = most ∧ (0 = 0 ∧ List.length h - 1 = List.length h - 1 ∧ c = c ∧ false = false) ∧ True ∧ True) ∧ True else False) ∧ (bif eh.beq eh && true then cellsP (fun (b : Nat) => [0, 1, 2, 3, 4, 5].getD b 7) (tC (rmH h i ++ pk h (List.length h - 1) :: g)) (setManyF (tC (h ++ g)) (0 + i * 2) [AV.int IntKind.i64 (pk h (List.length h - 1)).fst, AV.int IntKind.i64 (pk h (List.length h - 1)).snd]) ∧ True else False) ∧ (entsP (fun (b : Nat) => [0, 1, 2, 3, 4, 5].getD b 7) (emap (rmM h m i)) (putK (AV.int IntKind.i64 (pk h (List.length h - 1)).fst) (AV.int IntKind.i64 (ic i)) (delK (AV.int IntKind.i64 (pk h i).fst) (emap m))) ∧ True) ∧ (((0 : Int) = (0 : Int) ∧ (0 : Int) = (0 : Int) ∧ True) ∧ True) ∧ (((pk h i).fst = (pk h i).fst ∧ (pk h i).snd = (pk h i).snd ∧ True) ∧ True) ∧ (((pk h (List.length h - 1)).fst = (pk h (List.length h - 1)).fst ∧ (pk h (List.length h - 1)).snd = (pk h (List.length h - 1)).snd ∧ True) ∧ True) ∧ True) ∧ True else False else False) ∧ ∀ (x : Unit), True → (QR (tC (rmH h i ++ pk h (List.length h - 1) :: g)) (List.length h - 1) (emap (rmM h m i)) ∧ (0 : Int) ≤ ic i ∧ UpPre (hOf (tC (rmH h i ++ pk h (List.length h - 1) :: g)) (List.length h - 1)) (getM (emap (rmM h m i))) i) ∧ ∀ (x : TL × MP × Nat), UpPost (hOf (tC (rmH h i ++ pk h (List.length h - 1) :: g)) (List.length h - 1)) i x.fst x.snd.fst x.snd.snd → keysK (AV.int IntKind.i64 (pk h (List.length h - 1)).fst) (emap x.snd.fst) ∧ intsK IntKind.i64 (emap x.snd.fst) ∧ AV.int IntKind.i64 (0 : Int) = AV.int IntKind.i64 (0 : Int) ∧ (QR (tC (x.fst ++ gOf (tC (rmH h i ++ pk h (List.length h - 1) :: g)) (List.length h - 1))) (List.length h - 1) (emap x.snd.fst) ∧ (0 : Int) ≤ valK (AV.int IntKind.i64 (pk h (List.length h - 1)).fst) (emap x.snd.fst) ∧ DownPre (hOf (tC (x.fst ++ gOf (tC (rmH h i ++ pk h (List.length h - 1) :: g)) (List.length h - 1))) (List.length h - 1)) (getM (emap x.snd.fst)) (valK (AV.int IntKind.i64 (pk h (List.length h - 1)).fst) (emap x.snd.fst)).toNat) ∧ ∀ (x_1 : TL × MP), DownPost (hOf (tC (x.fst ++ gOf (tC (rmH h i ++ pk h (List.length h - 1) :: g)) (List.length h - 1))) (List.length h - 1)) x_1.fst x_1.snd → ∃ (x_2 : TL × MP), RmPost h i x_2.fst x_2.snd ∧ ((bif eq.beq eq && true then (most = most ∧ (0 = 0 ∧ List.length h - 1 = List.length h - 1 ∧ c = c ∧ false = false) ∧ True ∧ True) ∧ True else False) ∧ (bif eh.beq eh && true then cellsP gqTmB0 (tC (x_2.fst ++ pk h (List.length h - 1) :: g)) (tC (x_1.fst ++ gOf (tC (x.fst ++ gOf (tC (rmH h i ++ pk h (List.length h - 1) :: g)) (List.length h - 1))) (List.length h - 1))) ∧ True else False) ∧ (entsP gqTmB0 (emap x_2.snd) (emap x_1.snd) ∧ True) ∧ True) ∧ (((pk h i).fst = (pk h i).fst ∧ (pk h i).snd = (pk h i).snd ∧ True) ∧ True) ∧ True else ∃ (x : TL × MP), RmPost h i x.fst x.snd ∧ ((bif eq.beq eq && true then (most = most ∧ (0 = 0 ∧ List.length h - 1 = List.length h - 1 ∧ c = c ∧ false = false) ∧ True ∧ True) ∧ True else False) ∧ (bif eh.beq eh && true then cellsP gqTmB0 (tC (x.fst ++ pk h (List.length h - 1) :: g)) (tC (h ++ g)) ∧ True else False) ∧ (entsP gqTmB0 (emap x.snd) (delK (AV.int IntKind.i64 (pk h i).fst) (emap m)) ∧ True) ∧ True) ∧ (((pk h i).fst = (pk h i).fst ∧ (pk h i).snd = (pk h i).snd ∧ True) ∧ True) ∧ True else False else False else False else False else False else False) := by kernel_rfl
theorem hOf_k {h g : TL} {k : Nat} (hk : h.length = k) : hOf (tC (h ++ g)) k = h := by subst hk; exact hOf_tC h g
theorem gOf_k {h g : TL} {k : Nat} (hk : h.length = k) : gOf (tC (h ++ g)) k = g := by subst hk; exact gOf_tC h g
theorem QR.mk' {h g : TL} {k : Nat} {m : MP} (hk : h.length = k) : QR (tC (h ++ g)) k (emap m) := ⟨by rw [getT_tC], by rw [getT_tC, List.length_append]; omega, by rw [getM_emap]⟩
theorem qOf_ok {H : AH} {b : Nat} {q : QS} (h : qOf H b = some q) : H[b]? = some (qB q.most q.hb q.k q.c q.mb q.eq) ∧ H[q.hb]? = some (.cells q.cs q.eh false) ∧ H[q.mb]? = some (.map q.es false) := by
  unfold qOf at h
  split at h
  · rename_i h1
    split at h
    · rename_i h2 h3
      cases h
      exact ⟨h1, h2, h3⟩
    · cases h
  · cases h
theorem nd3_ok {a b c : Nat} (h : nd3 a b c = true) : [a, b, c].Nodup := by
  have ne : ∀ {x y : Nat}, (!(Nat.beq x y)) = true → x ≠ y := fun h e => by subst e; rw [Nat.beq_refl] at h; cases h
  unfold nd3 at h
  rw [and_t, and_t] at h
  have h1 := ne h.1
  have h2 := ne h.2.1
  have h3 := ne h.2.2
  simp [h1, h2, h3]
theorem emap_ren (m : MP) (ro : Bool) (ρ : Nat → Nat) : (ABlk.map (emap m) ro).ren ρ = .map (emap m) ro := by
  show ABlk.map _ ro = _
  congr 1
  unfold emap
  rw [List.map_map]
  rfl
theorem qH_ren (most : Int) (b hb mb k c eq : Nat) (row : TL) (eh : Nat) (m : MP) (ρ : Nat → Nat) (h1 : ρ 1 = hb) (h2 : ρ 2 = mb) : (qH most k c eq row eh m).map (ABlk.ren ρ) = [qB most hb k c mb eq, .cells (tC row) eh false, .map (emap m) false] := by
  subst h1; subst h2
  show [_, _, _] = _
  rw [emap_ren, cells_ren (tC_flat _)]
  rfl
theorem SC.queue {f : FuncId} {args0 : List AV} {K0 K : AV → AH → Prop} {most : Int} {k c eq eh : Nat} {row : TL} {m : MP} (h : SC Try.prog f args0 (qH most k c eq row eh m) K0) {H : AH} {b hb mb : Nat} (hn : [b, hb, mb].Nodup)
    (h1 : H[b]? = some (qB most hb k c mb eq)) (h2 : H[hb]? = some (.cells (tC row) eh false)) (h3 : H[mb]? = some (.map (emap m) false))
    (hK : ∀ v0 H0', K0 v0 H0' → ∃ L T, H0' = L ++ T ∧ L.length = 3 ∧ (∀ k ∈ L ++ T, k.own = true ∨ k = .dead) ∧ K (v0.ren (upN [b, hb, mb] 3 H.length)) (putL [b, hb, mb] (L.map (ABlk.ren (upN [b, hb, mb] 3 H.length))) H ++ T.map (ABlk.ren (upN [b, hb, mb] 3 H.length)))) :
    SC Try.prog f (AV.rens (rn [b, hb, mb] H.length) args0) H K := by
  refine SC.owns h hn rfl (fun i x s hi hs => ?_) hK
  match i, hi, hs with
  | 0, hi, hs => cases hi; cases hs; exact ⟨h1, rfl⟩
  | 1, hi, hs => cases hi; cases hs; exact ⟨by rw [cells_ren (tC_flat _)]; exact h2, rfl⟩
  | 2, hi, hs => cases hi; cases hs; exact ⟨by rw [emap_ren]; exact h3, rfl⟩
  | n + 3, hi, _ => simp at hi
theorem up_len {h : TL} {i : Nat} {h' : TL} {m' : MP} {p : Nat} (u : UpPost h i h' m' p) : h'.length = h.length := u.perm.length_eq
theorem eUp_ok : EntryOk Try.prog 61 eUp := by
  intro args H sr hs K hk
  unfold eUp at hs
  split at hs
  · rename_i b i
    split at hs
    · rename_i most hb k c mb eq cs eh es hq
      cases hs
      obtain ⟨hn, hk1⟩ := cond_need hk
      obtain ⟨⟨qr, h0, hp⟩, hk2⟩ := hk1
      obtain ⟨q1, q2, q3⟩ := qOf_ok hq
      dsimp only at q1 q2 q3
      have e1 : cs = tC (hOf cs k ++ gOf cs k) := by unfold hOf gOf; rw [List.take_append_drop]; exact qr.c1
      have e2 : k = (hOf cs k).length := by unfold hOf; rw [List.length_take]; have := qr.k1; omega
      obtain ⟨j, rfl⟩ : ∃ j : Nat, i = j := ⟨i.toNat, by omega⟩
      generalize hOf cs k = h at *
      generalize gOf cs k = g at *
      have e3 := qr.e1
      generalize getM es = m at *
      subst e1; subst e2; subst e3
      have hsc := SC.ofF (V := VU) names0 mixed0 TOr_ok noO_ok (up_vc h g m j most c eq eh hp)
      refine SC.queue hsc (nd3_ok hn) q1 q2 q3 ?_
      intro v0 H0' ho
      obtain ⟨x, hx, rfl, rfl⟩ := outE_one ho
      refine ⟨qH most h.length c eq (x.1 ++ g) eh x.2.1, [], by simp, rfl, ?_, some _, hk2 x hx, ?_⟩
      · intro k hk'
        simp only [qH, List.append_nil, List.mem_cons, List.mem_nil_iff, or_false] at hk'
        rcases hk' with rfl | rfl | rfl <;> exact .inl rfl
      · rw [qH_ren most b hb mb h.length c eq _ eh _ _ rfl rfl]
        simp [chN]
    · cases hs
  · cases hs
theorem eDown_ok : EntryOk Try.prog 74 eDown := by
  intro args H sr hs K hk
  unfold eDown at hs
  split at hs
  · rename_i b i
    split at hs
    · rename_i most hb k c mb eq cs eh es hq
      cases hs
      obtain ⟨hn, hk1⟩ := cond_need hk
      obtain ⟨⟨qr, h0, hp⟩, hk2⟩ := hk1
      obtain ⟨q1, q2, q3⟩ := qOf_ok hq
      dsimp only at q1 q2 q3
      have e1 : cs = tC (hOf cs k ++ gOf cs k) := by unfold hOf gOf; rw [List.take_append_drop]; exact qr.c1
      have e2 : k = (hOf cs k).length := by unfold hOf; rw [List.length_take]; have := qr.k1; omega
      obtain ⟨j, rfl⟩ : ∃ j : Nat, i = j := ⟨i.toNat, by omega⟩
      generalize hOf cs k = h at *
      generalize gOf cs k = g at *
      have e3 := qr.e1
      generalize getM es = m at *
      subst e1; subst e2; subst e3
      have hsc := SC.ofF (V := VU) names0 mixed0 TOr_ok noO_ok (down_vc h g m j most c eq eh hp)
      refine SC.queue hsc (nd3_ok hn) q1 q2 q3 ?_
      intro v0 H0' ho
      obtain ⟨x, hx, rfl, rfl⟩ := outE_one ho
      refine ⟨qH most h.length c eq (x.1 ++ g) eh x.2, [], by simp, rfl, ?_, some _, hk2 x hx, ?_⟩
      · intro k hk'
        simp only [qH, List.append_nil, List.mem_cons, List.mem_nil_iff, or_false] at hk'
        rcases hk' with rfl | rfl | rfl <;> exact .inl rfl
      · rw [qH_ren most b hb mb h.length c eq _ eh _ _ rfl rfl]
        simp [chN]
    · cases hs
  · cases hs
theorem TRm_ok : SpecOk Try.prog (tabS TRm noS) := by
  refine tabS_ok (fun p hp => ?_) noS_ok
  simp only [TRm, List.mem_cons, List.mem_nil_iff, or_false] at hp
  rcases hp with rfl | rfl | rfl
  · exact gOrd_ok
  · exact eUp_ok
  · exact eDown_ok
theorem e_del (σ : Nat → Nat) (n : Int) (m : MP) : entsP σ (delK (.int .i64 n) (emap m)) (delK (.int .i64 n) (emap m)) ∧ True := by rw [del_mdel]; exact e_ok _ rfl
theorem zz_ok : ((0 : Int) = 0 ∧ (0 : Int) = 0 ∧ True) ∧ True := ⟨⟨rfl, rfl, trivial⟩, trivial⟩
theorem rm_vc (h g : TL) (m : MP) (i : Nat) (most : Int) (c eq eh : Nat) (v : Inv h m) (hi : i < h.length) (hc : h.length ≤ c) : vRm h g m i most c eq eh := by
  rw [vRm_eq]
  have hs := v.sz
  have el : ic h.length - 1 = ic (h.length - 1) := by show (h.length : Int) - 1 = ((h.length - 1 : Nat) : Int); omega
  have k1 : decide (h.length ≤ c) = true := decide_eq_true hc
  have k2 : leI (ic (h.length - 1)) (ic c) = true := by rw [leI_t]; show ((h.length - 1 : Nat) : Int) ≤ (c : Int); omega
  have k3 : decide (0 = c) = false := decide_eq_false (by omega)
  have k4 : (leI (-9223372036854775808) (ic (h.length - 1)) && leI (ic (h.length - 1)) 9223372036854775807) = true := rng_ok (show -9223372036854775808 ≤ ((h.length - 1 : Nat) : Int) by omega) (show ((h.length - 1 : Nat) : Int) ≤ 9223372036854775807 by omega)
  have hl : h.length - 1 < h.length := by omega
  rw [el, k1, k2, k3, k4]
  dsimp only [cond_true, cond_false]
  refine need_intro (lt_ok hi) (need_intro (len_ok rfl hi) ⟨drop_ok rfl hi, emap_keys _ _, ⟨(), trivial, ⟨q_ok _ _ _ _, r_ok _ _ rfl, e_del _ _ _, zz_ok, t_ok _, trivial⟩, rfl, trivial⟩, fun _ _ => need_intro (lt_ok hl) (need_intro (len_ok rfl hl) ⟨drop_ok rfl hl, ?_⟩)⟩)
  refine cond_intro (fun hlt => ?_) fun hlt => ?_
  · rw [hlt]
    rw [ltI_t] at hlt
    have hlt : i < h.length - 1 := Int.ofNat_lt.1 hlt
    have hlen : (rmH h i).length = h.length - 1 := by unfold rmH; rw [List.length_set, List.length_take]; omega
    have hu := rm_mid v hlt
    refine ⟨need_intro rfl (need_intro (len_ok rfl hi) ⟨by rw [del_mdel]; exact emap_keys _ _, (), trivial, ⟨q_ok _ _ _ _, r_ok _ _ ?_, e_ok _ ?_, zz_ok, t_ok _, t_ok _, trivial⟩, trivial⟩), fun _ _ => ⟨⟨QR.mk' hlen, (show (0 : Int) ≤ (i : Int) by omega), ?_⟩, ?_⟩⟩
    · rw [put_ok rfl hi]
      congr 1
      have hll : h.length - 1 < h.length := by omega
      have p2 : h = h.take (h.length - 1) ++ [pk h (h.length - 1)] := by
        rw [pk_get hll, ← List.take_succ_eq_append_getElem hll, show h.length - 1 + 1 = h.length by omega, List.take_length]
      unfold rmH
      generalize pk h (h.length - 1) = t at *
      have hil : i < (h.take (h.length - 1)).length := by rw [List.length_take]; omega
      generalize h.take (h.length - 1) = a at *
      rw [p2, List.set_append_left _ _ hil, List.append_assoc]
      rfl
    · rw [del_mdel, put_mput]; rfl
    · rw [hOf_k hlen, getM_emap]; exact hu
    · rw [hOf_k hlen, gOf_k hlen]
      intro x u
      obtain ⟨h1, m1, p⟩ := x
      dsimp only at u ⊢
      have hl1 : h1.length = h.length - 1 := (up_len u).trans hlen
      have ep : pk h1 p = pk h (h.length - 1) := by
        rw [u.at_]
        unfold rmH
        rw [pk_set _ (by rw [List.length_take]; omega), if_pos rfl]
      have em : mget (pk h (h.length - 1)).1 m1 = some (p : Int) := (u.pl.at_ _ _).2 ⟨p, rfl, by rw [up_len u]; exact u.lt, by rw [ep]⟩
      rw [hOf_k hl1, gOf_k hl1, getM_emap, val_mget, em]
      refine ⟨emap_keys _ _, emap_ints _, rfl, ⟨QR.mk' hl1, (show (0 : Int) ≤ (p : Int) by omega), (show DownPre h1 m1 p from ⟨by rw [up_len u]; exact u.lt, by omega, u.he, u.uu, hu.dn.perm u.perm, u.pl.x _⟩)⟩, fun y d => ?_⟩
      exact ⟨y, RmPost.mk' v (d.perm.trans (u.perm.trans (rm_perm hlt))) d.heap d.pl, ⟨q_ok _ _ _ _, r_ok _ _ rfl, e_ok _ rfl, trivial⟩, t_ok _, trivial⟩
  · rw [ltI_f] at hlt
    have hlt : h.length - 1 ≤ i := Int.ofNat_le.1 hlt
    have e : i = h.length - 1 := by omega
    have hr := rm_last v (i := i) (by omega)
    refine ⟨(_, _), hr, ⟨q_ok _ _ _ _, r_ok _ _ ?_, e_ok _ (del_mdel _ _), trivial⟩, t_ok _, trivial⟩
    subst e
    congr 1
    have p2 : h = h.take (h.length - 1) ++ [pk h (h.length - 1)] := by
      rw [pk_get hl, ← List.take_succ_eq_append_getElem hl, show h.length - 1 + 1 = h.length by omega, List.take_length]
    dsimp only
    generalize pk h (h.length - 1) = t at *
    generalize h.take (h.length - 1) = a at *
    rw [p2, List.append_assoc]; rfl

/- The document's queue, told for any memory: Next, At, Cancel, Due. -/
import Derived.Test.YtainjcpocodehaaRfE
import Derived.Test.YtainjcpocodehaaTmT
set_option linter.unusedSimpArgs false
set_option linter.unusedVariables false
namespace Go.Proofs.Ytainjcpocodehaa
open Go Go.Ve
set_option maxRecDepth 20000
def pO (cs : List AV) (off : Nat) : TL := (getT cs).take (off / 2)
def sO (cs : List AV) (off : Nat) : TL := (getT cs).drop (off / 2)
structure RQ (cs : List AV) (off n : Nat) : Prop where
  e : cs = tC (getT cs)
  o : off = (pO cs off).length * 2
  cnt : n = (sO cs off).length
  pos : 0 < n
  l : n ≤ 1048576
  d : Dn (sO cs off)
  s : Srt (sO cs off)
theorem pO_tC (p s : TL) : pO (tC (p ++ s)) (p.length * 2) = p := by
  unfold pO; rw [getT_tC, Nat.mul_div_cancel _ (by decide), List.take_left]
theorem sO_tC (p s : TL) : sO (tC (p ++ s)) (p.length * 2) = s := by
  unfold sO; rw [getT_tC, Nat.mul_div_cancel _ (by decide), List.drop_left]
theorem RQ.of {p s : TL} (h0 : 0 < s.length) (hl : s.length ≤ 1048576) (d : Dn s) (hs : Srt s) : RQ (tC (p ++ s)) (p.length * 2) s.length :=
  ⟨by rw [getT_tC], by rw [pO_tC], by rw [sO_tC], h0, hl, by rw [sO_tC]; exact d, by rw [sO_tC]; exact hs⟩
theorem RQ.split {cs : List AV} {off n : Nat} (q : RQ cs off n) : cs = tC (pO cs off ++ sO cs off) := by
  unfold pO sO; rw [List.take_append_drop]; exact q.e
theorem oB_ren (most : Int) (rb off n eq : Nat) (ρ : Nat → Nat) : (oB most rb off n eq).ren ρ = oB most (ρ rb) off n eq := rfl
theorem row_ren (l : TL) (er : Nat) (ρ : Nat → Nat) : (ABlk.cells (tC l) er false).ren ρ = .cells (tC l) er false := cells_ren (tC_flat _) _ _ _
theorem nrow_ren (l : TL) (er : Nat) (ρ : Nat → Nat) : (ABlk.cells (nC l) er false).ren ρ = .cells (nC l) er false := cells_ren (nC_flat _) _ _ _
theorem upA (b rb N : Nat) : upN [b, rb] 2 N 0 = b ∧ upN [b, rb] 2 N 1 = rb ∧ upN [b, rb] 2 N 2 = N := by
  refine ⟨rfl, rfl, ?_⟩
  unfold upN
  rw [if_neg (by omega)]; omega
theorem putO {b rb : Nat} {H : AH} {o : ABlk} {l : TL} {er : Nat} (hne : b ≠ rb) (hr : H[rb]? = some (.cells (tC l) er false)) : putL [b, rb] [o, .cells (tC l) er false] H = H.set b o := by
  show (H.set b o).set rb (.cells (tC l) er false) = _
  have h : (H.set b o)[rb]? = some (.cells (tC l) er false) := by rw [List.getElem?_set_ne hne]; exact hr
  obtain ⟨h1, h2⟩ := List.getElem?_eq_some_iff.1 h
  rw [← h2]; exact List.set_getElem_self h1
theorem set_self {H : AH} {b : Nat} {o : ABlk} (h : H[b]? = some o) : H.set b o = H := by
  obtain ⟨h1, h2⟩ := List.getElem?_eq_some_iff.1 h
  rw [← h2]; exact List.set_getElem_self h1
theorem SC.oq {f : FuncId} {most : Int} {p s : TL} {eq er : Nat} {extra : List AV} {K0 K : AV → AH → Prop} (h : SC Try.prog f (.ptr 0 0 :: extra) (oH most p s eq er) K0) {b rb : Nat} {H : AH} (hx : ∀ ρ : Nat → Nat, AV.rens ρ extra = extra) (hne : b ≠ rb) (h1 : H[b]? = some (oB most rb (p.length * 2) s.length eq)) (h2 : H[rb]? = some (.cells (tC (p ++ s)) er false))
    (hK : ∀ v0 H0', K0 v0 H0' → ∃ o T, H0' = [o, .cells (tC (p ++ s)) er false] ++ T ∧ (∀ k ∈ T, k.own = true ∨ k = .dead) ∧ o.own = true ∧ K (v0.ren (upN [b, rb] 2 H.length)) (H.set b (o.ren (upN [b, rb] 2 H.length)) ++ T.map (ABlk.ren (upN [b, rb] 2 H.length)))) :
    SC Try.prog f (.ptr b 0 :: extra) H K := by
  have h3 := SC.owns2 (σ := [b, rb]) (H := H) (K := K) h (by simp [hne]) rfl (fun i x k hi hk => ?_) ?_
  · have e1 : AV.rens (rn [b, rb] H.length) (.ptr 0 0 :: extra) = .ptr b 0 :: extra := by
      show AV.ptr (rn [b, rb] H.length 0) 0 :: AV.rens (rn [b, rb] H.length) extra = _
      rw [hx]; rfl
    rw [e1] at h3
    exact h3
  · match i, hi, hk with
    | 0, hi, hk => cases hi; cases hk; exact ⟨h1, by unfold oB; simp⟩
    | 1, hi, hk => cases hi; cases hk; exact ⟨by rw [row_ren]; exact h2, by simp⟩
    | n + 2, hi, _ => simp at hi
  · intro v0 H0' h0
    obtain ⟨o, T, rfl, hT, ho, hk⟩ := hK v0 H0' h0
    refine ⟨[o, .cells (tC (p ++ s)) er false], T, rfl, rfl, fun i k s' hi _ => ?_, hT, ?_⟩
    · match i, hi with
      | 0, hi => cases hi; exact .inl ho
      | 1, hi => cases hi; exact .inl rfl
      | n + 2, hi => simp at hi
    · have e : List.map (ABlk.ren (upN [b, rb] 2 H.length)) [o, .cells (tC (p ++ s)) er false] = [o.ren (upN [b, rb] 2 H.length), .cells (tC (p ++ s)) er false] := by
        show [_, _] = _
        rw [row_ren]
      show K _ (putL [b, rb] (List.map (ABlk.ren (upN [b, rb] 2 H.length)) [o, .cells (tC (p ++ s)) er false]) H ++ _)
      rw [e, putO hne h2]
      exact hk
def oqE (H : AH) (b : Nat) (f : Int → Nat → Nat → Nat → Nat → List AV → Nat → SR) : Option SR :=
  match H[b]? with
  | some (.cells [.int .i64 most, .sl rb off n c false] eq false) =>
    match H[rb]? with
    | some (.cells cs er false) => some (.need (!(Nat.beq b rb)) (.needP (RQ cs off n ∧ c = n) (f most rb off n eq cs er)))
    | _ => none
  | _ => none
noncomputable def eRNx : SpecE := fun args H =>
  match args with
  | [.ptr b 0] => oqE H b fun _ _ off _ _ cs _ => .ok (.tuple [.int .i64 (nxN (sO cs off)), .int .i64 (nxT (sO cs off)), .int .i64 0]) none
  | _ => none
noncomputable def eRAt : SpecE := fun args H =>
  match args with
  | [.ptr b 0, .int .i64 n] => oqE H b fun _ _ off _ _ cs _ => .ok (.tuple [.int .i64 (atV n (sO cs off)), .int .i64 (atE n (sO cs off))]) none
  | _ => none
noncomputable def eRCan : SpecE := fun args H =>
  match args with
  | [.ptr b 0, .int .i64 n] => oqE H b fun most _ off _ eq cs _ => .br (tmOf n (sO cs off)).isSome
      (.br (ers n (sO cs off)).isEmpty
        (.ok (.int .i64 0) (some (H.set b (.cells [.int .i64 most, .sl H.length 0 0 0 true] eq false) ++ [.cells [] 0 false])))
        (.ok (.int .i64 0) (some (H.set b (oB most H.length 0 (ers n (sO cs off)).length eq) ++ [.cells (tC (ers n (sO cs off))) eR false]))))
      (.ok (.int .i64 5) none)
  | _ => none
noncomputable def eRDu : SpecE := fun args H =>
  match args with
  | [.ptr b 0, .int .i64 now] => oqE H b fun most rb off n eq cs _ => .br (dueL now (sO cs off)).isEmpty (.ok .nilsl none)
      (.br (dueR now (sO cs off)).isEmpty
        (.ok (.sl H.length 0 (dueL now (sO cs off)).length (dueL now (sO cs off)).length false) (some (H.set b (oS most rb (((pO cs off).length + (n - 1)) * 2) eq) ++ [.cells (nC (dueL now (sO cs off))) eI false])))
        (.ok (.sl H.length 0 (dueL now (sO cs off)).length (dueL now (sO cs off)).length false) (some (H.set b (oB most rb (((pO cs off).length + (dueL now (sO cs off)).length) * 2) (dueR now (sO cs off)).length eq) ++ [.cells (nC (dueL now (sO cs off))) eI false]))))
  | _ => none
theorem oqE_ok {H : AH} {b : Nat} {f : Int → Nat → Nat → Nat → Nat → List AV → Nat → SR} {sr : SR} (h : oqE H b f = some sr) {K : AV → Option AH → Prop} (hk : sr.run noC noR H K) :
    ∃ most rb p s eq er, b ≠ rb ∧ H[b]? = some (oB most rb (p.length * 2) s.length eq) ∧ H[rb]? = some (.cells (tC (p ++ s)) er false) ∧ 0 < s.length ∧ s.length ≤ 1048576 ∧ Dn s ∧ Srt s ∧ (f most rb (p.length * 2) s.length eq (tC (p ++ s)) er).run noC noR H K := by
  unfold oqE at h
  split at h
  · rename_i most rb off n c eq hb
    split at h
    · rename_i cs er hrb
      cases h
      obtain ⟨h1, ⟨q, rfl⟩, h2⟩ := cond_need hk
      have hne : b ≠ rb := fun e => by subst e; rw [Nat.beq_refl] at h1; cases h1
      have e1 := q.split
      have e2 := q.o
      have e3 := q.cnt
      refine ⟨most, rb, pO cs off, sO cs off, eq, er, hne, ?_, ?_, by rw [← e3]; exact q.pos, by rw [← e3]; exact q.l, q.d, q.s, ?_⟩
      · rw [hb, ← e2, ← e3]; rfl
      · rw [hrb, ← e1]
      · rw [← e2, ← e3, ← e1]; exact h2
    · cases h
  · cases h
theorem eRNx_ok : EntryOk Try.prog 49 eRNx := by
  intro args H sr hs K hk
  unfold eRNx at hs
  split at hs
  · rename_i b
    obtain ⟨most, rb, p, s, eq, er, hne, h1, h2, h3, h4, d, so, hk⟩ := oqE_ok hs hk
    rw [sO_tC] at hk
    refine SC.oq (extra := []) (SC.ofF (V := VRf 0 s) names0 mixed0 noS_ok noO_ok (rNx_vc most p s eq er h3)) (fun _ => rfl) hne h1 h2 fun v0 H0' ho => ?_
    obtain ⟨_, _, rfl, rfl⟩ := outE_one ho
    refine ⟨_, [], rfl, (fun k hk => by cases hk), rfl, none, hk, ?_⟩
    rw [oB_ren, (upA b rb H.length).2.1, set_self h1]
    simp [chN]
  · cases hs
theorem eRAt_ok : EntryOk Try.prog 50 eRAt := by
  intro args H sr hs K hk
  unfold eRAt at hs
  split at hs
  · rename_i b n
    obtain ⟨most, rb, p, s, eq, er, hne, h1, h2, h3, h4, d, so, hk⟩ := oqE_ok hs hk
    rw [sO_tC] at hk
    refine SC.oq (extra := [.int .i64 n]) (SC.ofF (V := VRf n s) names0 mixed0 noS_ok noO_ok (rAt_vc n most p s eq er d h4)) (fun _ => rfl) hne h1 h2 fun v0 H0' ho => ?_
    obtain ⟨_, _, rfl, rfl⟩ := outE_one ho
    refine ⟨_, [], rfl, (fun k hk => by cases hk), rfl, none, hk, ?_⟩
    rw [oB_ren, (upA b rb H.length).2.1, set_self h1]
    simp [chN]
  · cases hs
theorem one_own {k x : ABlk} (hx : x.own = true) (h : k ∈ [x]) : k.own = true ∨ k = .dead := by
  rw [List.mem_singleton] at h; subst h; exact .inl hx
theorem eRCan_ok : EntryOk Try.prog 47 eRCan := by
  intro args H sr hs K hk
  unfold eRCan at hs
  split at hs
  · rename_i b n
    obtain ⟨most, rb, p, s, eq, er, hne, h1, h2, h3, h4, d, so, hk⟩ := oqE_ok hs hk
    rw [sO_tC] at hk
    refine SC.oq (extra := [.int .i64 n]) (SC.ofF (V := VRf n s) names0 mixed0 noS_ok noO_ok (rCan_vc n most p s eq er d h4)) (fun _ => rfl) hne h1 h2 fun v0 H0' ho => ?_
    obtain ⟨o, ho, x, hx, rfl, rfl⟩ := ho
    simp only [List.mem_cons, List.mem_nil_iff, or_false] at ho
    rcases ho with rfl | rfl | rfl
    · have hx : tmOf n s = none := hx
      rw [hx] at hk
      refine ⟨_, [], rfl, (fun k hk => by cases hk), rfl, none, hk, ?_⟩
      rw [oB_ren, (upA b rb H.length).2.1, set_self h1]
      simp [chN]
    · have hx : tmOf n s ≠ none ∧ ers n s ≠ [] := hx
      have t1 : (tmOf n s).isSome = true := by cases h : tmOf n s with | none => exact absurd h hx.1 | some v => rfl
      have t2 : (ers n s).isEmpty = false := by cases h : ers n s with | nil => exact absurd h hx.2 | cons a t => rfl
      simp only [SR.run, t1, t2, cond_true, cond_false] at hk
      refine ⟨_, [.cells (tC (ers n s)) eR false], rfl, fun k hk => one_own rfl hk, rfl, some _, hk, ?_⟩
      rw [oB_ren, (upA b rb H.length).2.2]
      simp only [List.map_cons, List.map_nil, row_ren, chN]
    · have hx : tmOf n s ≠ none ∧ ers n s = [] := hx
      have t1 : (tmOf n s).isSome = true := by cases h : tmOf n s with | none => exact absurd h hx.1 | some v => rfl
      have t2 : (ers n s).isEmpty = true := by rw [hx.2]; rfl
      simp only [SR.run, t1, t2, cond_true, cond_false] at hk
      refine ⟨_, [.cells [] 0 false], rfl, fun k hk => one_own rfl hk, rfl, some _, hk, ?_⟩
      show H.set b (.cells [.int .i64 most, .sl (upN [b, rb] 2 H.length 2) 0 0 0 true] eq false) ++ [.cells [] 0 false] = _
      rw [(upA b rb H.length).2.2]
      rfl
  · cases hs
theorem eRDu_ok : EntryOk Try.prog 48 eRDu := by
  intro args H sr hs K hk
  unfold eRDu at hs
  split at hs
  · rename_i b now
    obtain ⟨most, rb, p, s, eq, er, hne, h1, h2, h3, h4, d, so, hk⟩ := oqE_ok hs hk
    rw [sO_tC, pO_tC] at hk
    refine SC.oq (extra := [.int .i64 now]) (SC.ofF (V := VRf 0 s) names0 mixed0 noS_ok noO_ok (rDu_vc now most p s eq er h3 h4)) (fun _ => rfl) hne h1 h2 fun v0 H0' ho => ?_
    obtain ⟨o, ho, x, hx, rfl, rfl⟩ := ho
    simp only [List.mem_cons, List.mem_nil_iff, or_false] at ho
    rcases ho with rfl | rfl | rfl
    · have hx : dueL now s = [] := hx
      have t1 : (dueL now s).isEmpty = true := by rw [hx]; rfl
      simp only [SR.run, t1, cond_true] at hk
      refine ⟨_, [], rfl, (fun k hk => by cases hk), rfl, none, hk, ?_⟩
      rw [oB_ren, (upA b rb H.length).2.1, set_self h1]
      simp [chN]
    · have hx : dueL now s ≠ [] ∧ dueR now s ≠ [] := hx
      have t1 : (dueL now s).isEmpty = false := by cases h : dueL now s with | nil => exact absurd h hx.1 | cons a t => rfl
      have t2 : (dueR now s).isEmpty = false := by cases h : dueR now s with | nil => exact absurd h hx.2 | cons a t => rfl
      simp only [SR.run, t1, t2, cond_false] at hk
      have ev : AV.ren (upN [b, rb] 2 H.length) (.sl 2 0 (dueL now s).length (dueL now s).length false) = .sl H.length 0 (dueL now s).length (dueL now s).length false := by
        show AV.sl (upN [b, rb] 2 H.length 2) 0 _ _ false = _
        rw [(upA b rb H.length).2.2]
      rw [← ev] at hk
      refine ⟨_, [.cells (nC (dueL now s)) eI false], rfl, fun k hk => one_own rfl hk, rfl, some _, hk, ?_⟩
      rw [oB_ren, (upA b rb H.length).2.1]
      simp only [List.map_cons, List.map_nil, nrow_ren, chN]
    · have hx : dueL now s ≠ [] ∧ dueR now s = [] := hx
      have t1 : (dueL now s).isEmpty = false := by cases h : dueL now s with | nil => exact absurd h hx.1 | cons a t => rfl
      have t2 : (dueR now s).isEmpty = true := by rw [hx.2]; rfl
      simp only [SR.run, t1, t2, cond_false, cond_true] at hk
      have ev : AV.ren (upN [b, rb] 2 H.length) (.sl 2 0 (dueL now s).length (dueL now s).length false) = .sl H.length 0 (dueL now s).length (dueL now s).length false := by
        show AV.sl (upN [b, rb] 2 H.length 2) 0 _ _ false = _
        rw [(upA b rb H.length).2.2]
      rw [← ev] at hk
      refine ⟨_, [.cells (nC (dueL now s)) eI false], rfl, fun k hk => one_own rfl hk, rfl, some _, hk, ?_⟩
      show H.set b (oS most (upN [b, rb] 2 H.length 1) _ eq) ++ _ = _
      rw [(upA b rb H.length).2.1]
      simp only [List.map_cons, List.map_nil, nrow_ren, chN]
  · cases hs
end Go.Proofs.Ytainjcpocodehaa

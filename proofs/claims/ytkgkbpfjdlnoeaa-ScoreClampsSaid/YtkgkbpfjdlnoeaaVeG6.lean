/- Regions that draw their order, sixth: the whole region. -/
import Derived.Test.YtkgkbpfjdlnoeaaVeG5
namespace Go.Ve
open Go Go.RowKit

/-! ### How many are left -/
def cnt (d : Array Bool) : Nat → Nat
  | 0 => 0
  | n + 1 => cnt d n + if d.getD n false then 0 else 1
theorem cnt_same {d d' : Array Bool} : ∀ {n : Nat}, (∀ k, k < n → d'.getD k false = d.getD k false) → cnt d' n = cnt d n
  | 0, _ => rfl
  | n + 1, h => by rw [cnt, cnt, cnt_same fun k hk => h k (by omega), h n (by omega)]
theorem cnt_set {d : Array Bool} {i : Nat} (hs : i < d.size) (hf : d.getD i false = false) : ∀ {n : Nat}, i < n → cnt (d.setIfInBounds i true) n + 1 = cnt d n
  | 0, h => by omega
  | n + 1, h => by
    by_cases hin : i = n
    · subst hin
      rw [cnt, cnt, cnt_same fun k hk => getD_set_ne false (by omega), hf]
      have := Dof_self hs
      unfold Dof at this
      rw [this]
      simp
    · have ih := cnt_set hs hf (n := n) (by omega)
      rw [cnt, cnt, getD_set_ne false hin]
      omega
theorem cnt_zero {d : Array Bool} : ∀ {n : Nat}, cnt d n = 0 → ∀ k, k < n → d.getD k false = true
  | 0, _, k, hk => by omega
  | n + 1, h, k, hk => by
    rw [cnt] at h
    by_cases hkn : k = n
    · subst hkn
      cases hd : d.getD k false with
      | true => rfl
      | false => rw [hd] at h; simp at h
    · exact cnt_zero (n := n) (by omega) k (by omega)
theorem cnt_pos {d : Array Bool} : ∀ {n : Nat}, cnt d n ≠ 0 → ∃ k, k < n ∧ d.getD k false = false ∧ ∀ j, j < k → d.getD j false = true
  | 0, h => absurd rfl h
  | n + 1, h => by
    by_cases h0 : cnt d n = 0
    · refine ⟨n, by omega, ?_, fun j hj => cnt_zero h0 j hj⟩
      rw [cnt, h0] at h
      cases hd : d.getD n false with
      | false => rfl
      | true => rw [hd] at h; simp at h
    · obtain ⟨k, h1, h2, h3⟩ := cnt_pos h0
      exact ⟨k, by omega, h2, h3⟩

/-- Where the operations that follow one another begin. -/
def doneArr (ops : Array Oper) (n : Nat) : Array Bool := (List.replicate n true ++ List.replicate (ops.size - n) false).toArray
def tailB (ops : Array Oper) (n : Nat) : Bool := Region.sinkB .any ops n && Region.chainB .any ops n && Region.seqB .any ops (ops.size - n) n (doneArr ops n)
def genAt (ops : Array Oper) : Nat := ((List.range ops.size).find? fun n => tailB ops n).getD ops.size

section
variable {P : Program} {call : CallF} {ops : Array Oper} {n : Nat} {fr0 : List AV} {H0 : AH} {recs : List Rec} {w0 : Base} {φ0 : List Loc} {Q : Exit → Act → World → Prop}
theorem doneArr_eq {d : Array Bool} (inv : HeadInv .any ops n d) (hn : n ≤ ops.size) (hd : ∀ k, k < n → d.getD k false = true) : d = doneArr ops n := by
  apply Array.ext
  · unfold doneArr; simp [inv.size]; omega
  · intro k h1 h2
    have h1' : k < ops.size := by rw [← inv.size]; exact h1
    by_cases hk : k < n
    · have := hd k hk
      simp [h1] at this
      rw [this]
      simp [doneArr, hk]
    · have := inv.tail k (by omega) h1'
      simp [h1] at this
      rw [this]
      simp [doneArr, List.getElem_append, hk]
theorem Gen.run (g : Gen P call ops n fr0 H0 recs) (hP : P.funcs.all (fun fn => !(fn.name == "runtime.NumGoroutine")) = true) (hC : CallOk P call) (ht : n < ops.size → tailB ops n = true)
    (hQ : ∀ φ a w, (∀ b, b < H0.length → φ[b]? = φ0[b]?) → VRs φ (frD ops n recs fr0 allD) a.tmps.toList → a.defers = [] → Rel w0 φ (HD ops n recs H0 allD) w → wpList P ops Q (ops.toList.drop n) a w) :
    ∀ (f : Nat) (d : Array Bool) (a : Act) (w : World), cnt d n = f → Inv ops n fr0 H0 recs w0 φ0 d a w → wpAny P .any ops Q (f + (ops.size - n)) d a w := by
  intro f
  induction f with
  | zero =>
    intro d a w hc inv
    have hall := cnt_zero hc
    have hD : ∀ {α : Type} (us : List (Option (Nat × α))) (l : List α), us.length ≤ n → foldD (Dof d) 0 us l = foldD allD 0 us l := by
      intro α us l hl
      apply List.ext_getElem?
      intro b
      refine foldD_get us 0 _ _ (fun j u hu _ => ?_) rfl rfl
      rw [Nat.zero_add]
      exact hall j (Nat.lt_of_lt_of_le (lt_of_some hu) hl)
    obtain ⟨hinv, hdef, φ, hφ, hrel, hfr, _, _⟩ := inv
    have e1 : frD ops n recs fr0 (Dof d) = frD ops n recs fr0 allD := hD _ _ (by simp [updZ, g.len]; omega)
    have e2 : HD ops n recs H0 (Dof d) = HD ops n recs H0 allD := hD _ _ (by simp [g.len])
    rw [e1] at hfr
    rw [e2] at hrel
    have hfin := hQ φ a w hφ hfr hdef hrel
    rw [Nat.zero_add]
    by_cases hlt : n < ops.size
    · have htb := ht hlt
      simp only [tailB, Bool.and_eq_true] at htb
      have hseq := htb.2
      rw [← doneArr_eq hinv g.le hall] at hseq
      have hl : (ops.toList.drop n).length = ops.size - n := by simp
      have := wpAny_of_seq (md := .any) (Q' := Q) (ops.toList.drop n) n d a w (fun j => by simp [List.getElem?_drop]) (by rw [hl]; exact hseq) hfin
      rwa [hl] at this
    · have hn : ops.size - n = 0 := by omega
      rw [hn]
      refine ⟨?_, ?_⟩
      · apply List.eq_nil_iff_forall_not_mem.2
        intro j hj
        obtain ⟨h1, o, h2, _⟩ := mem_ready.1 hj
        have hj' := (Array.getElem?_eq_some_iff.1 h2).1
        have := hall j (by have := g.le; omega)
        rw [getD_both h1] at this
        cases this
      · have : ops.toList.drop n = [] := List.drop_eq_nil_of_le (by simp; omega)
        rw [this] at hfin
        exact hfin
  | succ f ih =>
    intro d a w hc inv
    obtain ⟨k, hkn, hkf, hkb⟩ := cnt_pos (d := d) (n := n) (by omega)
    obtain ⟨ok, hok, _⟩ := g.op hkn
    have hsz := inv.head.size
    have hks : k < d.size := by rw [hsz]; exact Nat.lt_of_lt_of_le hkn g.le
    have hkr : k ∈ Region.ready .any ops d := mem_ready.2 ⟨getD_in hks hkf, ok, hok, fun e he hb => hkb e.on (fwdB_ok g.fwd hok e he hb)⟩
    rw [show f + 1 + (ops.size - n) = (f + (ops.size - n)) + 1 by omega]
    refine ⟨fun h0 => (by rw [h0] at hkr; cases hkr), fun i hi => ?_⟩
    have hin : i < n := by
      by_cases hlt : n < ops.size
      · have htb := ht hlt
        simp only [tailB, Bool.and_eq_true] at htb
        exact Nat.lt_of_not_le fun hj' => tail_waits htb.1.1 htb.1.2 hlt inv.head _ k rfl hkn (getD_in hks hkf) i hj' hi
      · obtain ⟨_, o, h2, _⟩ := mem_ready.1 hi
        have := (Array.getElem?_eq_some_iff.1 h2).1
        omega
    have his : i < d.size := by rw [hsz]; exact Nat.lt_of_lt_of_le hin g.le
    refine g.next hP hC inv hi hin fun a' w' inv' => ih _ a' w' ?_ inv'
    have := cnt_set his (getD_both (mem_ready.1 hi).1) hin
    omega
end

def lows : List Rec → Nat → Nat
  | [], lo => lo
  | r :: rs, lo => lows rs (match r.ch with | some c => min lo c.1 | none => lo)
noncomputable def evGen (P : Program) (call : CallF) (ops : Array Oper) (n : Nat) (fr : List AV) (H : AH) (lo : Nat) : Option (List AV × AH × Nat) :=
  if fwdB ops && decide (n ≤ ops.size) && nodupD (ops.toList.take n) && (decide (n = ops.size) || tailB ops n) then
    match genLex P call ops (ops.toList.take n) (bsOf ops) (allocs 0 (ops.toList.take n)) H.length 0 (ops.toList.take n) fr (H ++ List.replicate (allocs 0 (ops.toList.take n)).length .dead) [] with
    | none => none
    | some recs =>
      if genChk ops (ops.toList.take n) (bsOf ops) (allocs 0 (ops.toList.take n)) H.length recs 0 (ops.toList.take n) recs fr (H ++ List.replicate (allocs 0 (ops.toList.take n)).length .dead) then
        evOps P call ops (ops.toList.drop n) (frD ops n recs fr allD) (HD ops n recs H allD) (lows recs lo)
      else none
  else none
section
variable {P : Program} {call : CallF} {ops : Array Oper} {n : Nat}
theorem Gen.mk' {fr0 : List AV} {H0 : AH} {recs : List Rec} (h1 : fwdB ops = true) (h2 : n ≤ ops.size) (h3 : nodupD (ops.toList.take n) = true)
    (hl : genLex P call ops (ops.toList.take n) (bsOf ops) (allocs 0 (ops.toList.take n)) H0.length 0 (ops.toList.take n) fr0 (H0 ++ List.replicate (allocs 0 (ops.toList.take n)).length .dead) [] = some recs)
    (hk : genChk ops (ops.toList.take n) (bsOf ops) (allocs 0 (ops.toList.take n)) H0.length recs 0 (ops.toList.take n) recs fr0 (H0 ++ List.replicate (allocs 0 (ops.toList.take n)).length .dead) = true) : Gen P call ops n fr0 H0 recs := by
  obtain ⟨rs, e1, e2, e3⟩ := genLex_ok _ _ _ _ _ _ hl
  rw [List.nil_append] at e1
  subst e1
  refine ⟨h1, h2, h3, ?_, ?_, ?_⟩
  · rw [e2]; simp; omega
  · intro j o hj
    obtain ⟨r, h4, h5⟩ := e3 j o hj
    rw [Nat.zero_add, List.nil_append] at h5
    exact ⟨r, h4, h5⟩
  · intro j o rc hj hr
    have := genChk_ok _ _ _ _ _ hk j o rc hj hr
    simpa only [Nat.zero_add] using this
theorem evGen_split {fr : List AV} {H : AH} {lo : Nat} {r : List AV × AH × Nat} (h : evGen P call ops n fr H lo = some r) : ∃ recs, Gen P call ops n fr H recs ∧ (n < ops.size → tailB ops n = true) ∧
    evOps P call ops (ops.toList.drop n) (frD ops n recs fr allD) (HD ops n recs H allD) (lows recs lo) = some r := by
  unfold evGen at h
  split at h
  · rename_i hg
    simp only [Bool.and_eq_true, Bool.or_eq_true, decide_eq_true_eq] at hg
    split at h
    · cases h
    · rename_i recs hl
      split at h
      · rename_i hk
        exact ⟨recs, Gen.mk' hg.1.1.1 hg.1.1.2 hg.1.2 hl hk, fun hlt => hg.2.resolve_left (by omega), h⟩
      · cases h
  · cases h
theorem lows_le : ∀ (recs : List Rec) (lo : Nat), lows recs lo ≤ lo ∧ ∀ (r : Rec) (c : Nat × ABlk), r ∈ recs → r.ch = some c → lows recs lo ≤ c.1
  | [], lo => ⟨Nat.le_refl _, fun r c h => by simp at h⟩
  | x :: recs, lo => by
    obtain ⟨h1, h2⟩ := lows_le recs (match x.ch with | some c => min lo c.1 | none => lo)
    refine ⟨?_, fun r c hr hc => ?_⟩
    · rw [lows]
      refine Nat.le_trans h1 ?_
      split <;> omega
    · rcases List.mem_cons.1 hr with rfl | hr
      · rw [lows]
        refine Nat.le_trans h1 ?_
        rw [hc]
        exact Nat.min_le_right _ _
      · exact h2 r c hr hc
theorem evGen_keeps (hC : CallOk P call) {fr : List AV} {H : AH} {lo : Nat} {fr' : List AV} {H' : AH} {lo' : Nat} (h : evGen P call ops n fr H lo = some (fr', H', lo')) : lo' ≤ lo ∧ Keeps lo' H H' := by
  obtain ⟨recs, g, _, h1⟩ := evGen_split h
  obtain ⟨h2, h3⟩ := evOps_keeps hC _ h1
  have h4 := lows_le recs lo
  refine ⟨Nat.le_trans h2 h4.1, Keeps.trans (b := HD ops n recs H allD) ⟨?_, fun j hj hjl => ?_⟩ h3⟩
  · rw [HD, foldD_length]; simp
  · have e1 : (HD ops n recs H allD)[j]? = (foldD (fun _ => false) 0 (recs.map (·.ch)) (H ++ List.replicate (allocs 0 (ops.toList.take n)).length .dead))[j]? := by
      refine foldD_get _ 0 _ _ (fun k u hu hub => ?_) rfl rfl
      rw [List.getElem?_map] at hu
      cases hrk : recs[k]? with
      | none => rw [hrk] at hu; cases hu
      | some r =>
        rw [hrk] at hu
        have := h4.2 r u (List.mem_of_getElem? hrk) (by simpa using hu)
        omega
    have e2 : ∀ (us : List (Option (Nat × ABlk))) (k : Nat) (l : AH), foldD (fun _ => false) k us l = l := by
      intro us
      induction us with
      | nil => intro _ _; rfl
      | cons u us ih => intro k l; cases u <;> exact ih _ _
    rw [e1, e2, List.getElem?_append_left hjl]
theorem evGen_ok (hP : P.funcs.all (fun fn => !(fn.name == "runtime.NumGoroutine")) = true) (hm : P.follows .mixedOrders = true) (hC : CallOk P call) {id : Nat} {Q : Exit → Act → World → Prop} {fr fr' : List AV} {H H' : AH} {lo lo' : Nat} {w0 : Base} {φ : List Loc} {a : Act} {w : World}
    (h : evGen P call ops n fr H lo = some (fr', H', lo')) (ha : VRs φ fr a.tmps.toList) (hd : a.defers = []) (hr : Rel w0 φ H w)
    (hQ : ∀ φ' a' w', Ext φ φ' → VRs φ' fr' a'.tmps.toList → a'.defers = [] → Rel w0 φ' H' w' → Q .normal a' w') : (Code.region id ops true).wp P Q a w := by
  obtain ⟨recs, g, ht, h1⟩ := evGen_split h
  refine wp_region_any hm ?_
  have hcnt : cnt (Array.replicate ops.size false) n + (ops.size - n) = ops.size := by
    have : ∀ m, m ≤ n → cnt (Array.replicate ops.size false) m = m := by
      intro m
      induction m with
      | zero => intro _; rfl
      | succ m ih => intro hm; rw [cnt, ih (by omega), getD_replicate_false]; simp
    rw [this n (Nat.le_refl _)]
    have := g.le
    omega
  have hext : ∀ {φ' : List Loc}, (∀ b, b < H.length → φ'[b]? = φ[b]?) → Ext φ φ' := fun {φ'} hb => by
    refine ⟨φ'.drop φ.length, ?_⟩
    apply List.ext_getElem?
    intro b
    by_cases hlt : b < φ.length
    · rw [List.getElem?_append_left hlt]; exact hb b (by rw [← hr.len]; exact hlt)
    · rw [List.getElem?_append_right (by omega), List.getElem?_drop]
      congr 1; omega
  have e3 : ∀ {α : Type} (us : List (Option (Nat × α))) (k : Nat) (l : List α), foldD (Dof (Array.replicate ops.size false)) k us l = l := by
    intro α us
    induction us with
    | nil => intro _ _; rfl
    | cons u us ih =>
      intro k l
      cases u with
      | none => exact ih _ _
      | some u =>
        rw [foldD, show Dof (Array.replicate ops.size false) k = false from getD_replicate_false _ _]
        exact ih _ _
  have hrel : Rel w0 (φ ++ List.replicate (allocs 0 (ops.toList.take n)).length ⟨0, 0, 0⟩) (H ++ List.replicate (allocs 0 (ops.toList.take n)).length .dead) { w with drawn := w.drawn + 1 } := by
    have key : ∀ m, Rel w0 (φ ++ List.replicate m ⟨0, 0, 0⟩) (H ++ List.replicate m .dead) { w with drawn := w.drawn + 1 } := by
      intro m
      have hr' := hr.drew
      have sp : ∀ (b : Nat) (k : ABlk) (l : Loc), (H ++ List.replicate m ABlk.dead)[b]? = some k → (φ ++ List.replicate m (⟨0, 0, 0⟩ : Loc))[b]? = some l → k = .dead ∨ (H[b]? = some k ∧ φ[b]? = some l) := fun b k l hb hl => by
        by_cases hlt : b < H.length
        · right
          rw [List.getElem?_append_left hlt] at hb
          rw [List.getElem?_append_left (by rw [hr.len]; exact hlt)] at hl
          exact ⟨hb, hl⟩
        · left
          rw [List.getElem?_append_right (by omega)] at hb
          have := List.eq_of_mem_replicate (List.mem_of_getElem? hb)
          exact this
      refine ⟨by simp [hr.len], hr'.below, fun b k l hb hl => ?_, fun b b' k k' l l' hb hb' hl hl' o o' he => ?_⟩
      · rcases sp b k l hb hl with rfl | ⟨h1, h2⟩
        · trivial
        · exact (hr'.blocks b k l h1 h2).mono ⟨_, rfl⟩
      · rcases sp b k l hb hl with rfl | ⟨h1, h2⟩
        · simp [ABlk.own] at o
        · rcases sp b' k' l' hb' hl' with rfl | ⟨h3, h4⟩
          · simp [ABlk.own] at o'
          · exact hr'.inj b b' k k' l l' h1 h3 h2 h4 o o' he
    exact key _
  have hlen : φ.length = H.length := hr.len
  have inv0 : Inv ops n fr H recs w0 φ (Array.replicate ops.size false) a { w with drawn := w.drawn + 1 } := by
    refine ⟨⟨by simp, fun j oj _ hl => (by rw [getD_replicate_false] at hl; cases hl), fun t _ ht => getD_in (by simpa using ht) (getD_replicate_false _ _)⟩, hd, φ ++ List.replicate (allocs 0 (ops.toList.take n)).length ⟨0, 0, 0⟩, fun b hb => List.getElem?_append_left (by omega), ?_, ?_, ?_, ?_⟩
    · rw [HD, e3]; exact hrel
    · rw [frD, e3]; exact ha.mono ⟨_, rfl⟩
    · rw [frD, e3]; exact AV.Ons.mono (fun b hb => .inl (by omega)) ha.on
    · intro b k hb
      rw [HD, e3] at hb
      by_cases hlt : b < H.length
      · rw [List.getElem?_append_left hlt] at hb
        have : b < φ.length := by omega
        exact (hr.blocks b k _ hb (List.getElem?_eq_getElem this)).on.mono fun b hb => .inl (by omega)
      · rw [List.getElem?_append_right (by omega)] at hb
        have := List.eq_of_mem_replicate (List.mem_of_getElem? hb)
        subst this
        trivial
  have key := g.run (Q := Q) hP hC ht (fun φ1 a1 w1 hφ1 ha1 hd1 hr1 => evOps_ok hP hC _ h1 ha1 hd1 hr1 fun φ' a' w' hx => hQ φ' a' w' ((hext hφ1).trans hx)) _ _ a _ rfl inv0
  rw [hcnt] at key
  exact key
end
end Go.Ve

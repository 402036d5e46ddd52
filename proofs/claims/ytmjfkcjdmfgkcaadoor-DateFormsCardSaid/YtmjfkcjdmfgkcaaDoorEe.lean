/- The evaluator with ranges over functions, over trees: what it answers the other one answers. -/
import Derived.Test.YtmjfkcjdmfgkcaaDoorEd
namespace Go.Ve
open Go Go.RowKit

/-! ### One operation, reckoned -/
def StGrows (a b : StF) : Prop := ∀ o ρ H r, a o ρ H = some r → b o ρ H = some r
def RGrows (a b : RndF) : Prop := ∀ i fr as bd H r, a i fr as bd H = some r → b i fr as bd H = some r
noncomputable def sStep (P : Program) (call : CallF) (rnd : RndF) : StF := fun o ρ H =>
  match fop P o ρ H with
  | some (.val v ch) => some (v, ch)
  | _ =>
    match aop P o ρ H with
    | none => none
    | some (.val v none) => some (v, none)
    | some (.val v (some (H', wr))) => natK wr fun wr => heapK wr (lenR H) H' 0 fun H' => some (v, some (H', wr))
    | some (.call f args) => listK leafK args fun args => call f args H
    | some (.round b fr as bd) => listK avK fr fun fr => rnd b fr as bd H
theorem sStep_le {P : Program} {call call' : CallF} {rnd rnd' : RndF} (hc : Grows call call') (hr : RGrows rnd rnd') : StGrows (sStep P call rnd) (opStep P call' rnd') := by
  intro o ρ H r h
  unfold sStep at h
  unfold opStep
  split at h
  · rename_i v ch hf
    rw [fop_eq hf]
    exact h
  · split at h
    · cases h
    · rename_i v ha; rw [ha]; exact h
    · rename_i v H' wr ha
      rw [ha]
      simp only [natK_eq, heapK_eq] at h
      exact h
    · rename_i f args ha
      rw [ha]
      rw [listK_eq (e := leafK) leafK_eq] at h
      exact hc _ _ _ _ h
    · rename_i b fr as bd ha
      rw [ha]
      rw [listK_eq (e := avK) avK_eq] at h
      exact hr _ _ _ _ _ _ h

/-! ### A list of operations -/
noncomputable def sOpsI (st : StF) (ops : Array Oper) (l : List Oper) : Tr AV → AH → Nat → Option (Tr AV × AH × Nat) :=
  List.rec (motive := fun _ => Tr AV → AH → Nat → Option (Tr AV × AH × Nat)) (fun t H lo => some (t, H, lo)) (fun o _ ih t H lo =>
    match awantedT ops o t with
    | none => none
    | some false => putT t o.dst (.tuple []) fun t => ih t H lo
    | some true =>
      match st o (aevalT t) H with
      | none => none
      | some (v, none) => putT t o.dst v fun t => ih t H lo
      | some (v, some (H', wr)) => putT t o.dst v fun t => natK (min lo wr) fun lo => ih t H' lo) l
theorem sOpsI_ok {st st' : StF} (hs : StGrows st st') {ops : Array Oper} : ∀ (l : List Oper) {t t' : Tr AV} {fr : List AV} {H H' : AH} {lo lo' : Nat}, Rep t fr → sOpsI st ops l t H lo = some (t', H', lo') →
    ∃ fr', evOpsI st' ops l fr H lo = some (fr', H', lo') ∧ Rep t' fr' ∧ Shr t t' := by
  intro l
  induction l with
  | nil => intro t t' fr H H' lo lo' hr h; cases h; exact ⟨fr, rfl, hr, Shr.refl t⟩
  | cons o l ih =>
    intro t t' fr H H' lo lo' hr h
    have e : sOpsI st ops (o :: l) t H lo = (match awantedT ops o t with
      | none => none
      | some false => putT t o.dst (.tuple []) fun t => sOpsI st ops l t H lo
      | some true =>
        match st o (aevalT t) H with
        | none => none
        | some (v, none) => putT t o.dst v fun t => sOpsI st ops l t H lo
        | some (v, some (H', wr)) => putT t o.dst v fun t => natK (min lo wr) fun lo => sOpsI st ops l t H' lo) := rfl
    rw [e, awantedT_eq hr, aevalT_eq hr] at h
    simp only [evOpsI]
    split at h
    · cases h
    · rename_i hw
      obtain ⟨t1, h1, h2, hsh⟩ := putT_rep hr o.dst (.tuple [])
      rw [h1] at h
      rw [hw]
      obtain ⟨fr2, g1, g2, g3⟩ := ih h2 h
      exact ⟨fr2, g1, g2, hsh.trans g3⟩
    · rename_i hw
      rw [hw]
      simp only
      split at h
      · cases h
      · rename_i v hst
        rw [hs _ _ _ _ hst]
        obtain ⟨t1, h1, h2, hsh⟩ := putT_rep hr o.dst v
        rw [h1] at h
        obtain ⟨fr2, g1, g2, g3⟩ := ih h2 h
        exact ⟨fr2, g1, g2, hsh.trans g3⟩
      · rename_i v H1 wr hst
        rw [hs _ _ _ _ hst]
        obtain ⟨t1, h1, h2, hsh⟩ := putT_rep hr o.dst v
        rw [h1, natK_eq] at h
        obtain ⟨fr2, g1, g2, g3⟩ := ih h2 h
        exact ⟨fr2, g1, g2, hsh.trans g3⟩

/-! ### The chain over trees -/
noncomputable def ρM (hm : Nat) (t : Tr AV) : Operand → AV
  | .tmp s => Bool.rec (motive := fun _ => AV) (Option.rec (motive := fun _ => AV) (.tuple []) (fun v => v) (t.get s)) .bad (tstB hm s)
  | x => aeval [] x
theorem ρM_eq {bs : List Nat} {i : Nat} {all : List Oper} {t : Tr AV} {fr : List AV} (h : Rep t fr) : ρM (hidM bs i 0 all) t = gρ all bs i fr := by
  funext x
  cases x with
  | tmp s =>
    show Bool.rec (motive := fun _ => AV) (Option.rec (motive := fun _ => AV) (.tuple []) (fun v => v) (t.get s)) .bad (tstB (hidM bs i 0 all) s) = _
    unfold gρ
    rw [tstB_eq, hidM_bit]
    cases hh : hidB bs i s 0 all with
    | true => simp only [hh, if_true]
    | false =>
      simp only [hh, Bool.false_eq_true, if_false]
      exact congrFun (aevalT_eq h) (.tmp s)
  | _ => rfl
noncomputable def wantM (ops : Array Oper) (o : Oper) (hm : Nat) (t : Tr AV) : Option Bool :=
  match o.guard with
  | none => some true
  | some (j, want) =>
    match (getR ops.toList j).bind (·.dst) with
    | none => some false
    | some s =>
      match tstB hm s with
      | true => none
      | false =>
        match t.get s with
        | none => some false
        | some (.bool b) => some (b == want)
        | some .bad => none
        | some .opq => none
        | some _ => some false
theorem wantM_eq {ops : Array Oper} {bs : List Nat} {i : Nat} {o : Oper} {t : Tr AV} {fr : List AV} (h : Rep t fr) : wantM ops o (hidM bs i 0 ops.toList) t = gwant ops ops.toList bs i o fr := by
  unfold wantM gwant
  cases hg : o.guard with
  | none => rfl
  | some q =>
    obtain ⟨j, want⟩ := q
    simp only [getR_eq, Array.getElem?_toList]
    cases hd : (ops[j]?).bind (·.dst) with
    | none => rfl
    | some s =>
      simp only [tstB_eq, hidM_bit]
      cases hh : hidB bs i s 0 ops.toList with
      | true => rfl
      | false =>
        simp only [Bool.false_eq_true, if_false]
        unfold awanted
        simp only [hg, hd, h s]
        rfl
def setB (m i : Nat) : Nat := Nat.lor m (Nat.shiftLeft 1 i)
theorem setB_bit (m i k : Nat) : (setB m i).testBit k = (m.testBit k || decide (k = i)) := by
  show (m ||| (1 <<< i)).testBit k = _
  rw [Nat.testBit_or, Nat.one_shiftLeft, Nat.testBit_two_pow]
  congr 1
  exact decide_eq_decide.2 eq_comm
noncomputable def sLexI (st : StF) (ops : Array Oper) (l : List Oper) : List Nat → Nat → Tr AV → AH → Nat → Nat → Option (Tr AV × AH × Nat × Nat) :=
  List.rec (motive := fun _ => List Nat → Nat → Tr AV → AH → Nat → Nat → Option (Tr AV × AH × Nat × Nat)) (fun _ _ t H lo em => some (t, H, lo, em)) (fun o _ ih hms i t H lo em =>
    match hms with
    | [] => none
    | hm :: hms =>
      match wantM ops o hm t with
      | none => none
      | some false => putT t o.dst (.tuple []) fun t => ih hms (Nat.succ i) t H lo em
      | some true =>
        match st o (ρM hm t) H with
        | none => none
        | some (v, none) => putT t o.dst v fun t => ih hms (Nat.succ i) t H lo em
        | some (v, some (H', wr)) => putT t o.dst v fun t => natK (min lo wr) fun lo => natK (setB em i) fun em => ih hms (Nat.succ i) t H' lo em) l
noncomputable def allCalm (em : Nat) (ums : List Nat) : Bool := List.rec (motive := fun _ => Bool) true (fun um _ ih => Bool.rec (motive := fun _ => Bool) false ih (Nat.beq (Nat.land em um) 0)) ums
noncomputable def sFastI (st : StF) (ops : Array Oper) (hms ums : List Nat) (t : Tr AV) (H : AH) (lo : Nat) : Option (Tr AV × AH × Nat) :=
  match sLexI st ops ops.toList hms 0 t H lo 0 with
  | some (t', H', lo', em) => Bool.rec (motive := fun _ => Option (Tr AV × AH × Nat)) none (some (t', H', lo')) (allCalm em ums)
  | none => none
theorem updZ_cons (o : Oper) (l : List Oper) (r : Rec) (rs : List Rec) (fr : List AV) : foldD allD 0 (updZ (o :: l) (r :: rs)) fr = foldD allD 0 (updZ l rs) (aput fr o.dst r.v) := by
  simp only [updZ, List.zip_cons_cons, List.map_cons]
  cases hd : o.dst with
  | none => rw [Option.map_none, foldD, foldD_shift]; rfl
  | some s => rw [Option.map_some, foldD, foldD_shift]; rfl
theorem sLexI_ok {st st' : StF} (hs0 : StGrows st st') {ops : Array Oper} {bs : List Nat} : ∀ (l : List Oper) {hms : List Nat} {i : Nat} {t t' : Tr AV} {fr : List AV} {H H' : AH} {lo lo' em em' : Nat},
    hms = hidMs bs ops.toList i l → Rep t fr → sLexI st ops l hms i t H lo em = some (t', H', lo', em') →
    ∃ recs es Hs, cLexI st' ops bs i l fr H lo = some (recs, es, Hs, lo') ∧ Rep t' (foldD allD 0 (updZ l recs) fr) ∧ Shr t t' ∧ (H :: Hs)[Hs.length]? = some H' ∧
      ∀ k, em'.testBit k = (em.testBit k || (decide (i ≤ k) && es.getD (k - i) false)) := by
  intro l
  induction l with
  | nil =>
    intro hms i t t' fr H H' lo lo' em em' hh hr h
    cases h
    exact ⟨[], [], [], rfl, hr, Shr.refl t, rfl, fun k => by simp⟩
  | cons o l ih =>
    intro hms i t t' fr H H' lo lo' em em' hh hr h
    subst hh
    have e : sLexI st ops (o :: l) (hidM bs i 0 ops.toList :: hidMs bs ops.toList (i + 1) l) i t H lo em = (match wantM ops o (hidM bs i 0 ops.toList) t with
      | none => none
      | some false => putT t o.dst (.tuple []) fun t => sLexI st ops l (hidMs bs ops.toList (i + 1) l) (i + 1) t H lo em
      | some true =>
        match st o (ρM (hidM bs i 0 ops.toList) t) H with
        | none => none
        | some (v, none) => putT t o.dst v fun t => sLexI st ops l (hidMs bs ops.toList (i + 1) l) (i + 1) t H lo em
        | some (v, some (H', wr)) => putT t o.dst v fun t => natK (min lo wr) fun lo => natK (setB em i) fun em => sLexI st ops l (hidMs bs ops.toList (i + 1) l) (i + 1) t H' lo em) := rfl
    rw [show hidMs bs ops.toList i (o :: l) = hidM bs i 0 ops.toList :: hidMs bs ops.toList (i + 1) l from rfl, e, wantM_eq hr, ρM_eq hr] at h
    have q0 : ∀ v, cStepI st' ops bs i o fr H = some (v, none) → (putT t o.dst v fun t => sLexI st ops l (hidMs bs ops.toList (i + 1) l) (i + 1) t H lo em) = some (t', H', lo', em') →
        ∃ recs es Hs, cLexI st' ops bs i (o :: l) fr H lo = some (recs, es, Hs, lo') ∧ Rep t' (foldD allD 0 (updZ (o :: l) recs) fr) ∧ Shr t t' ∧ (H :: Hs)[Hs.length]? = some H' ∧
          ∀ k, em'.testBit k = (em.testBit k || (decide (i ≤ k) && es.getD (k - i) false)) := by
      intro v hst h
      obtain ⟨t1, h1, h2, hs⟩ := putT_rep hr o.dst v
      rw [h1] at h
      obtain ⟨recs, es, Hs, g1, g2, g3, g4, g5⟩ := ih rfl h2 h
      refine ⟨⟨v, none⟩ :: recs, false :: es, Hs, by simp only [cLexI, hst, g1], by rw [updZ_cons]; exact g2, hs.trans g3, g4, fun k => ?_⟩
      rw [g5 k]
      congr 1
      by_cases hk : i + 1 ≤ k
      · rw [decide_eq_true hk, decide_eq_true (show i ≤ k by omega), show k - i = (k - (i + 1)) + 1 by omega, List.getD_cons_succ]
      · rw [decide_eq_false hk]
        by_cases hk2 : i ≤ k
        · obtain rfl : k = i := by omega
          rw [Nat.sub_self]; simp
        · rw [decide_eq_false hk2]; simp
    have q1 : ∀ v H1 wr, cStepI st' ops bs i o fr H = some (v, some (H1, wr)) → (putT t o.dst v fun t => sLexI st ops l (hidMs bs ops.toList (i + 1) l) (i + 1) t H1 (min lo wr) (setB em i)) = some (t', H', lo', em') →
        ∃ recs es Hs, cLexI st' ops bs i (o :: l) fr H lo = some (recs, es, Hs, lo') ∧ Rep t' (foldD allD 0 (updZ (o :: l) recs) fr) ∧ Shr t t' ∧ (H :: Hs)[Hs.length]? = some H' ∧
          ∀ k, em'.testBit k = (em.testBit k || (decide (i ≤ k) && es.getD (k - i) false)) := by
      intro v H1 wr hst h
      obtain ⟨t1, h1, h2, hs⟩ := putT_rep hr o.dst v
      rw [h1] at h
      obtain ⟨recs, es, Hs, g1, g2, g3, g4, g5⟩ := ih rfl h2 h
      refine ⟨⟨v, none⟩ :: recs, true :: es, H1 :: Hs, by simp only [cLexI, hst, g1], by rw [updZ_cons]; exact g2, hs.trans g3, by rw [List.length_cons, List.getElem?_cons_succ]; exact g4, fun k => ?_⟩
      rw [g5 k, setB_bit, Bool.or_assoc]
      congr 1
      by_cases hk : i + 1 ≤ k
      · rw [decide_eq_true hk, decide_eq_true (show i ≤ k by omega), show k - i = (k - (i + 1)) + 1 by omega, List.getD_cons_succ, decide_eq_false (by omega)]
        simp
      · rw [decide_eq_false hk]
        by_cases hk2 : i ≤ k
        · obtain rfl : k = i := by omega
          rw [Nat.sub_self]; simp
        · rw [decide_eq_false hk2, decide_eq_false (by omega)]; simp
    have sw : gwant ops ops.toList bs i o fr = some true → ∀ r, st o (gρ ops.toList bs i fr) H = some r → cStepI st' ops bs i o fr H = some r := fun hw r ha => by
      unfold cStepI
      rw [hw]
      exact hs0 _ _ _ _ ha
    split at h
    · cases h
    · rename_i hw
      exact q0 (.tuple []) (by unfold cStepI; rw [hw]) h
    · rename_i hw
      split at h
      · cases h
      · rename_i v hst
        exact q0 v (sw hw _ hst) h
      · rename_i v H1 wr hst
        simp only [natK_eq] at h
        exact q1 v H1 wr (sw hw _ hst) h
theorem allCalm_ok {em : Nat} : ∀ {ums : List Nat}, allCalm em ums = true → ∀ (j um : Nat), ums[j]? = some um → em &&& um = 0
  | [], _, j, um, hj => by simp at hj
  | u :: ums, h, j, um, hj => by
    have h' : Bool.rec (motive := fun _ => Bool) false (allCalm em ums) (Nat.beq (Nat.land em u) 0) = true := h
    cases hb : Nat.beq (Nat.land em u) 0 with
    | false => rw [hb] at h'; cases h'
    | true =>
      rw [hb] at h'
      cases j with
      | zero => simp at hj; subst hj; exact Nat.eq_of_beq_eq_true hb
      | succ j => exact allCalm_ok h' j um (by simpa using hj)
theorem calm_of {bs : List Nat} {es : List Bool} {i : Nat} : ∀ {n : Nat}, (∀ k, k < n → es.getD k false = true → unord bs i k = false) → calm bs es i n = true
  | 0, _ => rfl
  | n + 1, h => by
    rw [calm, calm_of fun k hk => h k (by omega), Bool.and_true]
    cases he : es.getD n false with
    | false => rfl
    | true => rw [h n (by omega) he]; rfl
theorem cChkI_of {st : StF} {ops : Array Oper} {bs : List Nat} {es : List Bool} {Hs : List AH} {n : Nat} : ∀ (rest : List Oper) (i : Nat) (rs : List Rec) (fr : List AV), rs.length = rest.length →
    (∀ (j : Nat) (o : Oper), rest[j]? = some o → (calm bs es (i + j) n || (freeOp o.op && !(es.getD (i + j) false))) = true) → cChkI st ops bs es Hs n i rest rs fr = true
  | [], _, _, _, _, _ => by simp [cChkI]
  | _ :: _, _, [], _, h, _ => by simp at h
  | o :: rest, i, rc :: rs, fr, hl, h => by
    simp only [cChkI, Bool.and_eq_true]
    refine ⟨?_, cChkI_of rest (i + 1) rs _ (by simpa using hl) fun j o' hj => ?_⟩
    · rw [if_pos (by simpa using h 0 o rfl)]
    · have := h (j + 1) o' (by simpa using hj)
      rwa [show i + (j + 1) = i + 1 + j by omega] at this
theorem sFastI_ok {st st' : StF} (hs0 : StGrows st st') {ops : Array Oper} {hms ums : List Nat} (hg : okM ops (.chain hms ums) = true) {nt : Nat} {t t' : Tr AV} {fr : List AV} {H H' : AH} {lo lo' : Nat} (hr : Rep t fr) (hn : Bound t nt) (h : sFastI st ops hms ums t H lo = some (t', H', lo')) :
    ∃ fr', evChainI st' ops fr H lo = some (fr', H', lo') ∧ Rep t' fr' ∧ Bound t' nt := by
  simp only [okM, Bool.and_eq_true] at hg
  obtain ⟨⟨hf, hnd⟩, hmk⟩ := hg
  unfold masksB at hmk
  rw [listK_eq (e := natK) natK_eq] at hmk
  have hbl : ops.toList.length = (bsOf ops).length := by
    have key : ∀ (l : List Oper) (acc : List Nat), (befAll l acc).length = acc.length + l.length := by
      intro l
      induction l with
      | nil => intro acc; rfl
      | cons o l ih => intro acc; rw [befAll, ih]; simp; omega
    unfold bsOf
    rw [key]; simp
  have hrow : ∀ j, j < (bsOf ops).length → (bsOf ops)[j]? = some ((bsOf ops).getD (0 + j) 0) := fun j hj => by
    rw [Nat.zero_add, List.getD_eq_getElem?_getD, List.getElem?_eq_getElem hj]; rfl
  obtain ⟨hh, hu⟩ := rowsB_ok hbl _ _ _ _ _ hrow hmk
  have hul : ∀ (l : List Oper) (i : Nat) (r hms ums : List Nat), rowsB ops.toList (bsOf ops) l i r hms ums = true → ums.length = l.length := by
    intro l
    induction l with
    | nil =>
      intro i r hms ums h
      have h' : (Nat.beq (lenR hms) 0 && Nat.beq (lenR ums) 0) = true := h
      rw [Bool.and_eq_true, lenR_eq, lenR_eq] at h'
      exact Nat.eq_of_beq_eq_true h'.2
    | cons o l ih =>
      intro i r hms ums h
      cases r with
      | nil => cases h
      | cons b r =>
        cases hms with
        | nil => cases h
        | cons hm hms =>
          cases ums with
          | nil => cases h
          | cons um ums =>
            have h' : (Nat.beq hm (rowH i b ops.toList 0 (bsOf ops)) && (Nat.beq um (Bool.rec (motive := fun _ => Nat) (rowU i b (bsOf ops) 0) (Nat.shiftLeft 1 i) (freeOp o.op)) && rowsB ops.toList (bsOf ops) l (i + 1) r hms ums)) = true := h
            rw [Bool.and_eq_true, Bool.and_eq_true] at h'
            rw [List.length_cons, List.length_cons, ih _ _ _ _ h'.2.2]
  have humlen := hul _ _ _ _ _ hmk
  unfold sFastI at h
  split at h
  · rename_i t1 H1 lo1 em hl
    cases hcalm : allCalm em ums with
    | false => rw [hcalm] at h; cases h
    | true =>
      rw [hcalm] at h
      cases h
      obtain ⟨recs, es, Hs, g1, g2, g3, g4, g5⟩ := sLexI_ok (bs := bsOf ops) hs0 ops.toList hh hr hl
      obtain ⟨k1, k2, k3, k4⟩ := cLexI_ok _ _ _ _ _ _ _ _ _ g1
      refine ⟨_, ?_, g2, hn.shr g3⟩
      unfold evChainI
      rw [g1]
      simp only
      rw [if_pos, g4]
      · rfl
      · refine cChkI_of _ _ _ _ k1 fun j o hj => ?_
        rw [Nat.zero_add]
        cases hfo : freeOp o.op with
        | false =>
          rw [Bool.false_and, Bool.or_false]
          have hjl : j < ums.length := by rw [humlen]; exact lt_of_some hj
          have hue := hu j _ o hj (List.getElem?_eq_getElem hjl)
          have hum := allCalm_ok hcalm j _ (List.getElem?_eq_getElem hjl)
          rw [hue, hfo, Nat.zero_add] at hum
          simp only [Bool.false_eq_true, if_false] at hum
          refine calm_of fun k hk he => ?_
          cases hun : unord (bsOf ops) j k with
          | false => rfl
          | true =>
            have hb := rowU_bit (bs := bsOf ops) (i := j) (m := k) (bsOf ops) 0 hrow (by omega) (by rw [← hbl]; simpa using hk) hun
            have he' : em.testBit k = true := by
              rw [g5 k, Nat.sub_zero, he]
              simp
            have hz : (em &&& rowU j ((bsOf ops).getD j 0) (bsOf ops) 0).testBit k = false := by rw [hum, Nat.zero_testBit]
            rw [Nat.testBit_and, he', hb] at hz
            cases hz
        | true =>
          have hjl : j < ums.length := by rw [humlen]; exact lt_of_some hj
          have hue := hu j _ o hj (List.getElem?_eq_getElem hjl)
          have hum := allCalm_ok hcalm j _ (List.getElem?_eq_getElem hjl)
          rw [hue, hfo, Nat.zero_add] at hum
          simp only [if_true] at hum
          cases hej : es.getD j false with
          | false => simp
          | true =>
            exfalso
            have he' : em.testBit j = true := by
              rw [g5 j, Nat.sub_zero, hej]
              simp
            have := congrArg (fun m => m.testBit j) hum
            simp [Nat.testBit_and, he'] at this
  · cases h
theorem cStepI_grows {a b : StF} (hg : StGrows a b) {ops : Array Oper} {bs : List Nat} {i : Nat} {o : Oper} {fr : List AV} {H : AH} {r : AV × Option (AH × Nat)} (h : cStepI a ops bs i o fr H = some r) : cStepI b ops bs i o fr H = some r := by
  unfold cStepI at h ⊢
  split at h
  · cases h
  · exact h
  · exact hg _ _ _ _ h
theorem cLexI_grows {a b : StF} (hg : StGrows a b) {ops : Array Oper} {bs : List Nat} : ∀ (l : List Oper) {i : Nat} {fr : List AV} {H : AH} {lo : Nat} {r : List Rec × List Bool × List AH × Nat}, cLexI a ops bs i l fr H lo = some r → cLexI b ops bs i l fr H lo = some r := by
  intro l
  induction l with
  | nil => intro i fr H lo r h; exact h
  | cons o l ih =>
    intro i fr H lo r h
    simp only [cLexI] at h ⊢
    split at h
    · cases h
    · rename_i v hst
      rw [cStepI_grows hg hst]
      simp only
      split at h
      · rename_i hl
        rw [ih hl]
        exact h
      · cases h
    · rename_i v H' wr hst
      rw [cStepI_grows hg hst]
      simp only
      split at h
      · rename_i hl
        rw [ih hl]
        exact h
      · cases h
theorem cSameI_grows {a b : StF} (hg : StGrows a b) {ops : Array Oper} {bs : List Nat} {i : Nat} {o : Oper} {fr : List AV} {v : AV} {Hs : List AH} {k : Nat} : ∀ {m : Nat}, cSameI a ops bs i o fr v Hs k m = true → cSameI b ops bs i o fr v Hs k m = true
  | 0, _ => rfl
  | m + 1, h => by
    simp only [cSameI, Bool.and_eq_true] at h ⊢
    refine ⟨?_, cSameI_grows hg h.2⟩
    have h1 := h.1
    split at h1
    · rename_i Hk hk
      split at h1
      · rename_i v' hst
        rw [cStepI_grows hg hst]
        exact h1
      · cases h1
    · cases h1
theorem cChkI_grows {a b : StF} (hg : StGrows a b) {ops : Array Oper} {bs : List Nat} {es : List Bool} {Hs : List AH} {n : Nat} : ∀ (l : List Oper) {i : Nat} {rs : List Rec} {fr : List AV}, cChkI a ops bs es Hs n i l rs fr = true → cChkI b ops bs es Hs n i l rs fr = true := by
  intro l
  induction l with
  | nil => intro i rs fr h; exact h
  | cons o l ih =>
    intro i rs fr h
    cases rs with
    | nil => simp [cChkI] at h
    | cons rc rs =>
      simp only [cChkI, Bool.and_eq_true] at h ⊢
      refine ⟨?_, ih h.2⟩
      have h1 := h.1
      split at h1
      · rename_i hc; rw [if_pos hc]
      · rename_i hc
        rw [if_neg hc]
        rw [Bool.and_eq_true] at h1 ⊢
        exact ⟨h1.1, cSameI_grows hg h1.2⟩
theorem evChainI_grows {a b : StF} (hg : StGrows a b) {ops : Array Oper} {fr : List AV} {H : AH} {lo : Nat} {r : List AV × AH × Nat} (h : evChainI a ops fr H lo = some r) : evChainI b ops fr H lo = some r := by
  unfold evChainI at h ⊢
  split at h
  · cases h
  · rename_i recs es Hs lo' hl
    rw [cLexI_grows hg _ hl]
    simp only
    split at h
    · rename_i hk
      rw [if_pos (cChkI_grows hg _ hk)]
      exact h
    · cases h
noncomputable def sChainI (st : StF) (ops : Array Oper) (nt : Nat) (t : Tr AV) (H : AH) (lo : Nat) : Option (Tr AV × AH × Nat) :=
  listK idK (t.list nt 0) fun fr =>
  match evChainI st ops fr H lo with
  | some (fr', H', lo') => listK avK fr' fun fr' => if Nat.ble 65536 (lenR fr') || Nat.ble (Nat.succ nt) (lenR fr') then none else natK lo' fun lo' => heapK lo' lo' H' 0 fun H' => some (Tr.ofL fr', H', lo')
  | none => none
theorem sChainI_ok {st st' : StF} (grows : StGrows st st') {ops : Array Oper} {nt : Nat} {t t' : Tr AV} {fr : List AV} {H H' : AH} {lo lo' : Nat} (hr : Rep t fr) (hn : Bound t nt) (h : sChainI st ops nt t H lo = some (t', H', lo')) :
    ∃ fr', evChainI st' ops fr H lo = some (fr', H', lo') ∧ Rep t' fr' ∧ Bound t' nt := by
  unfold sChainI at h
  rw [listK_eq (e := idK) (fun _ _ => rfl), Tr.list_eq hr nt 0 (by have := hn.le hr; omega), List.drop_zero] at h
  split at h
  · rename_i fr1 H1 lo1 hg
    rw [listK_eq (e := avK) avK_eq] at h
    split at h
    · cases h
    · rename_i hl
      rw [natK_eq, heapK_eq] at h
      cases h
      have hl' : lenR fr1 < 65536 ∧ lenR fr1 ≤ nt := by
        constructor
        · exact Nat.lt_of_not_le fun hh => hl (by rw [Nat.ble_eq_true_of_le hh]; rfl)
        · exact Nat.le_of_not_lt fun hh => hl (by rw [Nat.ble_eq_true_of_le (show nt.succ ≤ lenR fr1 from hh), Bool.or_true])
      rw [lenR_eq] at hl'
      exact ⟨fr1, evChainI_grows grows hg, ofL_rep hl'.1, (ofL_rep hl'.1).bound hl'.2⟩
  · cases h
noncomputable def sGen (P : Program) (call : CallF) (ops : Array Oper) (n : Nat) (nt : Nat) (t : Tr AV) (H : AH) (lo : Nat) : Option (Tr AV × AH × Nat) :=
  listK idK (t.list nt 0) fun fr =>
  match evGenS P call ops n fr H lo with
  | some (fr', H', lo') => listK avK fr' fun fr' => if Nat.ble 65536 (lenR fr') || Nat.ble (Nat.succ nt) (lenR fr') then none else natK lo' fun lo' => heapK lo' lo' H' 0 fun H' => some (Tr.ofL fr', H', lo')
  | none => none
theorem evGenS_grows {P : Program} {a b : CallF} (hg : Grows a b) {ops : Array Oper} {n : Nat} {fr : List AV} {H : AH} {lo : Nat} {r : List AV × AH × Nat} (h : evGenS P a ops n fr H lo = some r) : evGenS P b ops n fr H lo = some r := by
  unfold evGenS at h ⊢
  split at h
  · cases h
  · rename_i recs hl
    rw [genLex_grows hg _ hl]
    simp only
    split at h
    · rename_i hk
      rw [if_pos hk]
      exact evOps_grows hg _ h
    · cases h
theorem sGen_ok {P : Program} {call call' : CallF} (grows : Grows call call') {ops : Array Oper} {n : Nat} {nt : Nat} {t t' : Tr AV} {fr : List AV} {H H' : AH} {lo lo' : Nat} (hr : Rep t fr) (hn : Bound t nt) (h : sGen P call ops n nt t H lo = some (t', H', lo')) :
    ∃ fr', evGenS P call' ops n fr H lo = some (fr', H', lo') ∧ Rep t' fr' ∧ Bound t' nt := by
  unfold sGen at h
  rw [listK_eq (e := idK) (fun _ _ => rfl), Tr.list_eq hr nt 0 (by have := hn.le hr; omega), List.drop_zero] at h
  split at h
  · rename_i fr1 H1 lo1 hg
    rw [listK_eq (e := avK) avK_eq] at h
    split at h
    · cases h
    · rename_i hl
      rw [natK_eq, heapK_eq] at h
      cases h
      have hl' : lenR fr1 < 65536 ∧ lenR fr1 ≤ nt := by
        constructor
        · exact Nat.lt_of_not_le fun hh => hl (by rw [Nat.ble_eq_true_of_le hh]; rfl)
        · exact Nat.le_of_not_lt fun hh => hl (by rw [Nat.ble_eq_true_of_le (show nt.succ ≤ lenR fr1 from hh), Bool.or_true])
      rw [lenR_eq] at hl'
      exact ⟨fr1, evGenS_grows grows hg, ofL_rep hl'.1, (ofL_rep hl'.1).bound hl'.2⟩
  · cases h

noncomputable def sDrawI (P : Program) (call : CallF) (st : StF) (ops : Array Oper) (ar : Option Nat) (ds : List Nat) (m : Mode) (nt : Nat) (t : Tr AV) (H : AH) (lo : Nat) : Option (Tr AV × AH × Nat) :=
  match m with
  | .dyn => if (fwdB ops && nodupD ops.toList) = true then sChainI st ops nt t H lo else none
  | .chain hms ums =>
    match sFastI st ops hms ums t H lo with
    | some r => some r
    | none => sChainI st ops nt t H lo
  | .gen n => match ar, ds with | none, [] => sGen P call ops n nt t H lo | _, _ => none
theorem sDrawI_ok {P : Program} {call call' : CallF} {st st' : StF} (hc : Grows call call') (hs : StGrows st st') {ops : Array Oper} {ar : Option Nat} {ds : List Nat} {m : Mode} (hg : okM ops m = true) {nt : Nat} {t t' : Tr AV} {fr : List AV} {H H' : AH} {lo lo' : Nat} (hr : Rep t fr) (hn : Bound t nt) (h : sDrawI P call st ops ar ds m nt t H lo = some (t', H', lo')) :
    ∃ fr', evDrawI P call' st' ops ar ds m fr H lo = some (fr', H', lo') ∧ Rep t' fr' ∧ Bound t' nt := by
  cases m with
  | dyn =>
    simp only [sDrawI] at h
    split at h
    · rename_i hst
      obtain ⟨fr', h1, h2, h3⟩ := sChainI_ok hs hr hn h
      exact ⟨fr', by simp only [evDrawI]; rw [if_pos hst]; exact h1, h2, h3⟩
    · cases h
  | chain hms ums =>
    simp only [sDrawI] at h
    split at h
    · rename_i r hf
      cases h
      exact sFastI_ok hs hg hr hn hf
    · exact sChainI_ok hs hr hn h
  | gen k =>
    simp only [sDrawI] at h
    split at h
    · exact sGen_ok hc hr hn h
    · cases h

/-! ### Code, rounds and calls -/
abbrev RecT := Nat → Option Nat → RM → Code → Tr AV → AH → Nat → List Nat → Option (AEx × Tr AV × AH × Nat × List Nat)
noncomputable def rndS (rec : RecT) : RndF := fun b fr as bd H =>
  if Nat.ble 65536 (lenR fr) = true then none else
  natK (lenR H) fun n0 =>
  match rec (lenR fr) (some b) [] as (Tr.ofL fr) H n0 [] with
  | some (.normal, t1, H1, lo1, []) =>
    match getR H1 b with
    | some (.loop f0 ps a0 b0 .ready pd db) =>
      setR H1 b (.loop f0 ps a0 b0 .busy pd db) (fun H2 =>
      natK (min lo1 b) fun lo1 =>
      match rec (lenR fr) (some b) [] bd t1 H2 lo1 [] with
      | some (ex, _, H3, lo3, []) =>
        match getR H3 b with
        | some (.loop f3 ps3 a3 b3 _ _ db3) => setR H3 b (.loop f3 ps3 a3 b3 (if (pendOf ex).isNone = true then .ready else .done) (pendOf ex) db3) (fun H4 => natK (min lo3 b) fun lo => some (.bool (pendOf ex).isNone, some (H4, lo))) none
        | _ => none
      | _ => none) none
    | _ => none
  | _ => none
noncomputable def callS (E : Env) (V : VM) (rec : RecT) : CallF := fun f args H =>
  match E.orc f args H with
  | some r => some r
  | none =>
    match E.P.funcs[f]? with
    | none => none
    | some fn =>
      match fn.body with
      | none => none
      | some c =>
        if Nat.ble (lenR args) fn.ntmps && Nat.ble fn.ntmps 65535 then
          (Tr.mk (.tuple []) 16 fn.ntmps).sets args 0 fun t =>
          natK (lenR H) fun n =>
          match rec fn.ntmps none (assoc [] V f) c t H n [] with
          | some (.exit _, _, _, _, _) => none
          | some (_, t, H', lo, ds) =>
            if allDefr lo ds H' = true then
              match ds with
              | [] =>
                (match aresultsT E.P t H' fn.results.toList with
                | some vs => avK (oneOf vs) fun v => if Nat.beq lo n = true ∧ v.flat = true then some (v, none) else some (v, some (H', lo))
                | none => none)
              | _ =>
                heapK lo lo (killAll ds H') 0 fun H' =>
                match aresultsT E.P t H' fn.results.toList with
                | some vs => avK (oneOf vs) fun v => if Nat.beq lo n = true ∧ v.flat = true then some (v, none) else some (v, some (H', lo))
                | none => none
            else none
          | none => none
        else none
noncomputable def rfS (P : Program) (call : CallF) (ar : Option Nat) (g : AV) (ps : Array Tmp) (as bd : Code) (nt : Nat) (t : Tr AV) (H : AH) (lo : Nat) (ds : List Nat) : Option (AEx × Tr AV × AH × Nat × List Nat) :=
  listK idK (t.list nt 0) fun fr =>
  match rfI P call ar g ps as bd fr H lo ds with
  | some (ex, _, H', lo', ds') => natK lo' fun lo' => listK natK ds' fun ds' => heapK lo' lo' H' 0 fun H' => some (ex, t, H', lo', ds')
  | none => none
noncomputable def sevI (E : Env) (V : VM) : Nat → RecT
  | 0, _, _, _, _, _, _, _, _ => none
  | n + 1, nt, ar, m, c, t, H, lo, ds =>
    match c with
    | .skip => some (.normal, t, H, lo, ds)
    | .label _ => some (.normal, t, H, lo, ds)
    | .region _ ops false =>
      match sOpsI (sStep E.P (callS E V (sevI E V n)) (rndS (sevI E V n))) ops ops.toList t H lo with
      | some (t', H', lo') => some (.normal, t', H', lo', ds)
      | none => none
    | .region id ops true =>
      match sDrawI E.P (callS E V (sevI E V n)) (sStep E.P (callS E V (sevI E V n)) (rndS (sevI E V n))) ops ar ds (assoc .dyn m id) nt t H lo with
      | some (t', H', lo') => some (.normal, t', H', lo', ds)
      | none => none
    | .seq a b =>
      match sevI E V n nt ar m a t H lo ds with
      | some (.normal, t', H', lo', ds') => sevI E V n nt ar m b t' H' lo' ds'
      | r => r
    | .cond c x y =>
      match aevalT t c with
      | .bool true => sevI E V n nt ar m x t H lo ds
      | .bool false => sevI E V n nt ar m y t H lo ds
      | _ => none
    | .block id b =>
      match sevI E V n nt ar m b t H lo ds with
      | some (.exit i, t', H', lo', ds') => if Nat.beq i id = true then some (.normal, t', H', lo', ds') else some (.exit i, t', H', lo', ds')
      | r => r
    | .loop b =>
      match sevI E V n nt ar m b t H lo ds with
      | some (.normal, t', H', lo', ds') => sevI E V n nt ar m (.loop b) t' H' lo' ds'
      | r => r
    | .exit id => some (.exit id, t, H, lo, ds)
    | .scope b => sevI E V n nt ar m b t H lo ds
    | .ret => some (.ret, t, H, lo, ds)
    | .rangeFunc g ps as bd => rfS E.P (callS E V (sevI E V n)) ar (aevalT t g) ps as bd nt t H lo ds
    | _ => none
def SevOkI (a : RecT) (b : RecF) : Prop :=
  ∀ nt ar m c t fr H lo ds ex t' H' lo' ds', goodC m c = true → Rep t fr → Bound t nt → a nt ar m c t H lo ds = some (ex, t', H', lo', ds') → ∃ fr', b ar m c fr H lo ds = some (ex, fr', H', lo', ds') ∧ Rep t' fr' ∧ Bound t' nt
theorem rndS_le {a : RecT} {b : RecF} (hab : SevOkI a b) : RGrows (rndS a) (rndI b) := by
  intro i fr as bd H r h
  unfold rndS at h
  split at h
  · cases h
  · rename_i hlen
    have hl : fr.length < 65536 := by
      rw [lenR_eq] at hlen
      exact Nat.lt_of_not_le fun hh => hlen (Nat.ble_eq_true_of_le hh)
    rw [natK_eq, lenR_eq, lenR_eq] at h
    have hr0 := ofL_rep hl
    have hb0 := hr0.bound (Nat.le_refl _)
    unfold rndI
    split at h
    · rename_i t1 H1 lo1 h1
      obtain ⟨fr1, e1, e2, e3⟩ := hab _ _ _ _ _ _ _ _ _ _ _ _ _ _ (goodC_nil as) hr0 hb0 h1
      rw [e1]
      simp only
      rw [getR_eq] at h
      split at h
      · rename_i f0 ps a0 b0 pd db hb
        rw [hb]
        simp only
        rw [setR_eq, if_pos (lt_of_some hb), natK_eq] at h
        split at h
        · rename_i ex t3 H3 lo3 h3
          obtain ⟨fr3, g1, g2, g3⟩ := hab _ _ _ _ _ _ _ _ _ _ _ _ _ _ (goodC_nil bd) e2 e3 h3
          rw [g1]
          simp only
          rw [getR_eq] at h
          split at h
          · rename_i f3 ps3 a3 b3 st3 pd3 db3 hb3
            rw [hb3]
            simp only
            rw [setR_eq, if_pos (lt_of_some hb3), natK_eq] at h
            exact h
          · cases h
        · cases h
      · cases h
    · cases h
theorem callS_le {E : Env} {V : VM} (hV : ∀ p ∈ V, goodF E.P p = true) {a : RecT} {b : RecF} (hab : SevOkI a b) : Grows (callS E V a) (callI E V b) := by
  intro f args H r h
  unfold callS at h
  unfold callI
  cases ho : E.orc f args H with
  | some r0 => rw [ho] at h; exact h
  | none =>
    rw [ho] at h
    simp only at h ⊢
    cases hf : E.P.funcs[f]? with
    | none => rw [hf] at h; cases h
    | some fn =>
      rw [hf] at h
      simp only at h ⊢
      cases hb : fn.body with
      | none => rw [hb] at h; cases h
      | some c =>
        rw [hb] at h
        simp only at h ⊢
        split at h
        · rename_i hle
          simp only [Bool.and_eq_true, Nat.ble_eq, lenR_eq] at hle
          have h0 : Rep (Tr.mk (.tuple [] : AV) 16 fn.ntmps) ([] ++ List.replicate fn.ntmps (.tuple [])) := by
            intro i
            rw [Tr.get_mk _ _ _ _ (by omega), List.nil_append, List.getElem?_replicate]
          obtain ⟨t0, h1, h2⟩ := Tr.sets_rep args fn.ntmps [] _ h0 hle.1
          have h1' := h1 (β := Option (AV × Option (AH × Nat)))
          simp only [List.length_nil] at h1'
          rw [h1', natK_eq, lenR_eq] at h
          rw [List.nil_append] at h2
          cases hrec : a fn.ntmps none (assoc [] V f) c t0 H H.length [] with
          | none => rw [hrec] at h; cases h
          | some q =>
            obtain ⟨ex, t1, H1, lo1, ds1⟩ := q
            rw [hrec] at h
            obtain ⟨fr1, h3, h4, _⟩ := hab _ _ _ _ _ _ _ _ _ _ _ _ _ _ (good_get hV hf hb) h2 (h2.bound (by simp; omega)) hrec
            rw [h3]
            have fin : (if allDefr lo1 ds1 H1 = true then
                match ds1 with
                | [] =>
                  (match aresultsT E.P t1 H1 fn.results.toList with
                  | some vs => avK (oneOf vs) fun v => if Nat.beq lo1 H.length = true ∧ v.flat = true then some (v, none) else some (v, some (H1, lo1))
                  | none => none)
                | _ =>
                  heapK lo1 lo1 (killAll ds1 H1) 0 fun H' =>
                  match aresultsT E.P t1 H' fn.results.toList with
                  | some vs => avK (oneOf vs) fun v => if Nat.beq lo1 H.length = true ∧ v.flat = true then some (v, none) else some (v, some (H', lo1))
                  | none => none
                else none) = some r →
                (if allDefr lo1 ds1 H1 = true then
                  match aresults E.P fr1 (killAll ds1 H1) fn.results.toList with
                  | some vs => if lo1 = H.length ∧ (oneOf vs).flat = true then some (oneOf vs, none) else some (oneOf vs, some (killAll ds1 H1, lo1))
                  | none => none
                else none) = some r := by
              intro h
              split at h
              · rename_i hd
                rw [if_pos hd]
                cases ds1 with
                | nil =>
                  simp only [aresultsT_eq h4, avK_eq, Nat.beq_eq] at h
                  exact h
                | cons d ds1 =>
                  simp only [heapK_eq, aresultsT_eq h4, avK_eq, Nat.beq_eq] at h
                  exact h
              · cases h
            cases ex with
            | exit id => cases h
            | normal => exact fin h
            | ret => exact fin h
        · cases h
theorem rfI_grows {P : Program} {a b : CallF} (hg : Grows a b) {ar : Option Nat} {g : AV} {ps : Array Tmp} {as bd : Code} {fr : List AV} {H : AH} {lo : Nat} {ds : List Nat} {r : AEx × List AV × AH × Nat × List Nat} (h : rfI P a ar g ps as bd fr H lo ds = some r) : rfI P b ar g ps as bd fr H lo ds = some r := by
  unfold rfI at h ⊢
  split at h
  · split at h
    · rename_i hb
      simp only [hb, if_true]
      split at h
      · split at h
        · rename_i hc
          rw [hg _ _ _ _ hc]
          exact h
        · cases h
      · split at h
        · rename_i hdb
          try simp only [hdb]
          split at h
          · rename_i hc
            rw [hg _ _ _ _ hc]
            exact h
          · cases h
        · cases h
    · cases h
  · cases h
theorem rfI_frame {P : Program} {call : CallF} {ar : Option Nat} {g : AV} {ps : Array Tmp} {as bd : Code} {fr : List AV} {H : AH} {lo : Nat} {ds : List Nat} {ex : AEx} {fr' : List AV} {H' : AH} {lo' : Nat} {ds' : List Nat} (h : rfI P call ar g ps as bd fr H lo ds = some (ex, fr', H', lo', ds')) : fr' = fr := by
  unfold rfI at h
  (repeat' split at h) <;> first | (cases h; done) | exact (rfEnd_ok (P := P) h).1
theorem sevI_ok (E : Env) (V : VM) (hV : ∀ p ∈ V, goodF E.P p = true) : ∀ n, SevOkI (sevI E V n) (evI E V n) := by
  intro n
  induction n with
  | zero => intro nt ar m c t fr H lo ds ex t' H' lo' ds' hg hr hb h; simp [sevI] at h
  | succ n ih =>
    have hC := callS_le (E := E) (V := V) hV ih
    have hR := rndS_le ih
    have hS := sStep_le (P := E.P) hC hR
    intro nt ar m c t fr H lo ds ex t' H' lo' ds' hg hr hb h
    cases c with
    | skip => simp only [sevI] at h; cases h; exact ⟨fr, rfl, hr, hb⟩
    | label l => simp only [sevI] at h; cases h; exact ⟨fr, rfl, hr, hb⟩
    | exit id => simp only [sevI] at h; cases h; exact ⟨fr, rfl, hr, hb⟩
    | ret => simp only [sevI] at h; cases h; exact ⟨fr, rfl, hr, hb⟩
    | goto l => simp [sevI] at h
    | refuse why => simp [sevI] at h
    | rangeFunc g ps as bd =>
      simp only [sevI, rfS] at h
      simp only [evI]
      rw [listK_eq (e := idK) (fun _ _ => rfl), Tr.list_eq hr nt 0 (by have := hb.le hr; omega), List.drop_zero, aevalT_eq hr] at h
      split at h
      · rename_i ex1 fr1 H1 lo1 ds1 hq
        rw [natK_eq, listK_eq (e := natK) natK_eq, heapK_eq] at h
        cases h
        have hq' := rfI_grows hC hq
        have e := rfI_frame hq'
        subst e
        exact ⟨_, hq', hr, hb⟩
      · cases h
    | scope b =>
      simp only [sevI] at h
      simp only [evI]
      exact ih _ _ _ _ _ _ _ _ _ _ _ _ _ _ (show goodC m b = true from hg) hr hb h
    | region id ops draw =>
      cases draw with
      | false =>
        simp only [sevI] at h
        simp only [evI]
        split at h
        · rename_i t1 H1 lo1 he
          cases h
          obtain ⟨fr1, h1, h2, h3⟩ := sOpsI_ok hS _ hr he
          exact ⟨fr1, by rw [h1], h2, hb.shr h3⟩
        · cases h
      | true =>
        simp only [sevI] at h
        simp only [evI]
        split at h
        · rename_i t1 H1 lo1 he
          cases h
          obtain ⟨fr1, h1, h2, h3⟩ := sDrawI_ok hC hS (show okM _ _ = true from hg) hr hb he
          exact ⟨fr1, by rw [h1], h2, h3⟩
        · cases h
    | cond c x y =>
      simp only [goodC, Bool.and_eq_true] at hg
      simp only [sevI, aevalT_eq hr] at h
      simp only [evI]
      split at h
      · rename_i hc; try rw [hc]
        exact ih _ _ _ _ _ _ _ _ _ _ _ _ _ _ hg.1 hr hb h
      · rename_i hc; try rw [hc]
        exact ih _ _ _ _ _ _ _ _ _ _ _ _ _ _ hg.2 hr hb h
      · cases h
    | seq x y =>
      simp only [goodC, Bool.and_eq_true] at hg
      simp only [sevI] at h
      simp only [evI]
      cases hq : sevI E V n nt ar m x t H lo ds with
      | none => rw [hq] at h; cases h
      | some q =>
        obtain ⟨ex1, t1, H1, lo1, ds1⟩ := q
        rw [hq] at h
        obtain ⟨fr1, h1, h2, h3⟩ := ih _ _ _ _ _ _ _ _ _ _ _ _ _ _ hg.1 hr hb hq
        rw [h1]
        cases ex1 with
        | normal => exact ih _ _ _ _ _ _ _ _ _ _ _ _ _ _ hg.2 h2 h3 h
        | exit id => cases h; exact ⟨fr1, rfl, h2, h3⟩
        | ret => cases h; exact ⟨fr1, rfl, h2, h3⟩
    | block id b =>
      simp only [sevI] at h
      simp only [evI]
      cases hq : sevI E V n nt ar m b t H lo ds with
      | none => rw [hq] at h; cases h
      | some q =>
        obtain ⟨ex1, t1, H1, lo1, ds1⟩ := q
        rw [hq] at h
        obtain ⟨fr1, h1, h2, h3⟩ := ih _ _ _ _ _ _ _ _ _ _ _ _ _ _ (show goodC m b = true from hg) hr hb hq
        rw [h1]
        cases ex1 with
        | normal => cases h; exact ⟨fr1, rfl, h2, h3⟩
        | exit i =>
          simp only [Nat.beq_eq] at h ⊢
          split at h
          · rename_i hi; cases h; exact ⟨fr1, by rw [if_pos hi], h2, h3⟩
          · rename_i hi; cases h; exact ⟨fr1, by rw [if_neg hi], h2, h3⟩
        | ret => cases h; exact ⟨fr1, rfl, h2, h3⟩
    | loop b =>
      rw [sevI] at h
      rw [evI]
      cases hq : sevI E V n nt ar m b t H lo ds with
      | none => rw [hq] at h; cases h
      | some q =>
        obtain ⟨ex1, t1, H1, lo1, ds1⟩ := q
        rw [hq] at h
        obtain ⟨fr1, h1, h2, h3⟩ := ih _ _ _ _ _ _ _ _ _ _ _ _ _ _ (show goodC m b = true from hg) hr hb hq
        rw [h1]
        cases ex1 with
        | normal => exact ih _ _ _ _ _ _ _ _ _ _ _ _ _ _ (show goodC m (.loop b) = true from hg) h2 h3 h
        | exit id => cases h; exact ⟨fr1, rfl, h2, h3⟩
        | ret => cases h; exact ⟨fr1, rfl, h2, h3⟩
/-- A closed call, reckoned. -/
theorem callI_of_sev {E : Env} {V : VM} (hV : ∀ p ∈ V, goodF E.P p = true) {n : Nat} {f : FuncId} {args : List AV} {H : AH} {r : AV × Option (AH × Nat)} (h : callS E V (sevI E V n) f args H = some r) : callI E V (evI E V n) f args H = some r := callS_le hV (sevI_ok E V hV n) _ _ _ _ h
theorem callI_all {E : Env} {V : VM} (hV : ∀ p ∈ V, goodF E.P p = true) (hP : E.P.funcs.all (fun fn => !(fn.name == "runtime.NumGoroutine")) = true) (hm : E.P.follows .mixedOrders = true) (hO : CallOk E.P E.orc) (n : Nat) : CallOk E.P (callI E V (evI E V n)) := callI_ok hV hO (evI_ok hV hP hm hO n)
theorem evCall_of_orc {P : Program} {orc : CallF} {n : Nat} {f : FuncId} {args : List AV} {H : AH} {r : AV × Option (AH × Nat)} (h : orc f args H = some r) : evCall ⟨P, orc⟩ (ev ⟨P, orc⟩ n) f args H = some r := by
  unfold evCall
  simp only [h]
end Go.Ve

namespace Go.Ve
open Go Go.RowKit

def leafEqP : AV → AV → Bool
  | .int k a, .int k' b => Bool.and (Nat.beq (kidx k) (kidx k')) (eqI a b)
  | .bool a, .bool b => a == b
  | _, _ => false
theorem leafEqP_ok {a b : AV} (h : leafEqP a b = true) : a = b := by
  unfold leafEqP at h
  split at h
  · have h' := (Bool.and_eq_true _ _).mp h
    rw [eqI_eq, decide_eq_true_eq] at h'
    rw [kidx_inj h'.1, h'.2]
  · simpa using h
  · cases h
noncomputable def argEqQ (a b : AV) : Bool :=
  match a, b with
  | .str s, .str t => bytesEq s t
  | a, b => leafEqP a b
theorem argEqQ_ok {a b : AV} (h : argEqQ a b = true) : a = b := by
  unfold argEqQ at h
  split at h
  · rw [bytesEq_ok h]
  · exact leafEqP_ok h
noncomputable def argsEqQ (a b : List AV) : Bool :=
  List.rec (motive := fun _ => List AV → Bool) (fun b => List.rec (motive := fun _ => Bool) true (fun _ _ _ => false) b) (fun x _ ih b => List.rec (motive := fun _ => Bool) false (fun y t _ => Bool.rec (motive := fun _ => Bool) false (ih t) (argEqQ x y)) b) a b
theorem argsEqQ_ok : ∀ {a b : List AV}, argsEqQ a b = true → a = b
  | [], [], _ => rfl
  | [], _ :: _, h => by cases h
  | _ :: _, [], h => by cases h
  | x :: a, y :: b, h => by
    have h' : Bool.rec (motive := fun _ => Bool) false (argsEqQ a b) (argEqQ x y) = true := h
    cases hx : argEqQ x y with
    | false => rw [hx] at h'; cases h'
    | true =>
      rw [hx] at h'
      rw [argEqQ_ok hx, argsEqQ_ok h']
noncomputable def argEqP (a b : AV) : Bool :=
  match a, b with
  | .str s, .str t => bytesEq s t
  | .agg xs, .agg ys => argsEqQ xs ys
  | a, b => leafEqP a b
theorem argEqP_ok {a b : AV} (h : argEqP a b = true) : a = b := by
  unfold argEqP at h
  split at h
  · rw [bytesEq_ok h]
  · rw [argsEqQ_ok h]
  · exact leafEqP_ok h
noncomputable def argsEqP (a b : List AV) : Bool :=
  List.rec (motive := fun _ => List AV → Bool) (fun b => List.rec (motive := fun _ => Bool) true (fun _ _ _ => false) b) (fun x _ ih b => List.rec (motive := fun _ => Bool) false (fun y t _ => Bool.rec (motive := fun _ => Bool) false (ih t) (argEqP x y)) b) a b
theorem argsEqP_ok : ∀ {a b : List AV}, argsEqP a b = true → a = b
  | [], [], _ => rfl
  | [], _ :: _, h => by cases h
  | _ :: _, [], h => by cases h
  | x :: a, y :: b, h => by
    have h' : Bool.rec (motive := fun _ => Bool) false (argsEqP a b) (argEqP x y) = true := h
    cases hx : argEqP x y with
    | false => rw [hx] at h'; cases h'
    | true =>
      rw [hx] at h'
      rw [argEqP_ok hx, argsEqP_ok h']
abbrev Ans := List (List AV × AV)
noncomputable def ansP (l : Ans) (args : List AV) : Option AV :=
  List.rec (motive := fun _ => Option AV) none (fun p _ ih => Bool.rec (motive := fun _ => Option AV) ih (some p.2) (argsEqP p.1 args)) l
theorem ansP_ok : ∀ {l : Ans} {args : List AV} {v : AV}, ansP l args = some v → (args, v) ∈ l
  | [], _, _, h => by cases h
  | p :: l, args, v, h => by
    have h' : Bool.rec (motive := fun _ => Option AV) (ansP l args) (some p.2) (argsEqP p.1 args) = some v := h
    cases hx : argsEqP p.1 args with
    | false => rw [hx] at h'; exact List.mem_cons_of_mem _ (ansP_ok h')
    | true =>
      rw [hx] at h'
      have e : p.2 = v := Option.some.inj h'
      rw [← argsEqP_ok hx, ← e]
      exact List.mem_cons_self
/-- The table first; what it does not tell the rest answers. -/
noncomputable def orcP (T : List (Nat × Ans)) (rest : CallF) : CallF := fun f args H =>
  match ansP (assoc [] T f) args with
  | some v => some (v, none)
  | none => rest f args H
def AnsOk (P : Program) (f : Nat) (l : Ans) : Prop := ∀ e ∈ l, EntOk P ⟨f, e.1, e.2⟩
theorem assoc_mem {α : Type} {d : α} : ∀ {l : List (Nat × α)} {n : Nat}, assoc d l n = d ∨ (n, assoc d l n) ∈ l
  | [], _ => .inl rfl
  | p :: l, n => by
    rw [assoc_cons]
    split
    · rename_i h
      right
      rw [← Nat.eq_of_beq_eq_true h]
      exact List.mem_cons_self
    · exact (assoc_mem (l := l) (n := n)).imp id (List.mem_cons_of_mem _)
theorem orcP_ok {P : Program} {T : List (Nat × Ans)} {rest : CallF} (hT : ∀ p ∈ T, AnsOk P p.1 p.2) (hr : CallOk P rest) : CallOk P (orcP T rest) := by
  intro f args H v ch h
  unfold orcP at h
  split at h
  · rename_i v' ha
    cases h
    have hm := ansP_ok ha
    rcases assoc_mem (d := ([] : Ans)) (l := T) (n := f) with e | e
    · rw [e] at hm; cases hm
    · obtain ⟨h1, h2, call, h3, h4⟩ := hT _ e _ hm
      exact ⟨fun w0 φ w us hr hu => lift0 h3 h4 h1 h2 hr hu, fun H' lo hh => by cases hh⟩
  · exact hr f args H v ch h
end Go.Ve

namespace Go.Ve
open Go Go.RowKit

/-- The heap begins with these variables. -/
noncomputable def pre : AH → AH → Bool
  | [], _ => true
  | .glob g vs :: G, .glob g' vs' :: H => Nat.beq g g' && (argsEqP vs vs' && pre G H)
  | _, _ => false
theorem pre_ok : ∀ {G H : AH}, pre G H = true → ∃ R, H = G ++ R
  | [], H, _ => ⟨H, rfl⟩
  | .glob g vs :: G, .glob g' vs' :: H, h => by
    simp only [pre, Bool.and_eq_true] at h
    obtain ⟨R, e⟩ := pre_ok h.2.2
    exact ⟨R, by rw [Nat.eq_of_beq_eq_true h.1, argsEqP_ok h.2.1, e]; rfl⟩
  | .glob g vs :: G, [], h => by simp [pre] at h
  | .glob g vs :: G, .dead :: H, h => by simp [pre] at h
  | .glob g vs :: G, .cells _ _ _ :: H, h => by simp [pre] at h
  | .glob g vs :: G, .map _ _ :: H, h => by simp [pre] at h
  | .glob g vs :: G, .siter _ _ :: H, h => by simp [pre] at h
  | .glob g vs :: G, .defr :: H, h => by simp [pre] at h
  | .glob g vs :: G, .loop _ _ _ _ _ _ _ :: H, h => by simp [pre] at h
  | .dead :: G, H, h => by simp [pre] at h
  | .cells _ _ _ :: G, H, h => by simp [pre] at h
  | .map _ _ :: G, H, h => by simp [pre] at h
  | .siter _ _ :: G, H, h => by simp [pre] at h
  | .defr :: G, H, h => by simp [pre] at h
  | .loop _ _ _ _ _ _ _ :: G, H, h => by simp [pre] at h
def isGlobF : ABlk → Bool
  | .glob _ vs => AV.flats vs
  | _ => false
theorem flats_get : ∀ {vs : List AV} {j : Nat} {v : AV}, AV.flats vs = true → vs[j]? = some v → v.flat = true
  | [], j, v, _, h => by simp at h
  | x :: vs, 0, v, h, hj => by
    simp [AV.flats] at h
    simp at hj
    rw [← hj]; exact h.1
  | x :: vs, j + 1, v, h, hj => by
    simp [AV.flats] at h
    exact flats_get h.2 (by simpa using hj)
theorem liftG {P : Program} {call : CallF} (hC : CallOk P call) {f : FuncId} {args : List AV} {v : AV} {G0 R : AH} (hg : G0.all isGlobF = true) (h : call f args G0 = some (v, none)) (ha : AV.flats args = true) (hv : v.flat = true)
    {w0 : Base} {φ : List Loc} {w : World} {us : Array Value} (hr : Rel w0 φ (G0 ++ R) w) (hu : VRs φ args us.toList) : Calls P f us w (CallPost w0 φ (G0 ++ R) v none) := by
  have hlen := hr.len
  rw [List.length_append] at hlen
  have up : ∀ {b : Nat} {k : ABlk}, G0[b]? = some k → (G0 ++ R)[b]? = some k := fun {b k} hb => by
    rw [List.getElem?_append_left (List.getElem?_eq_some_iff.1 hb).1]; exact hb
  have upl : ∀ {b : Nat} {l : Loc}, (φ.take G0.length)[b]? = some l → φ[b]? = some l := fun {b l} hb => by
    rw [List.getElem?_take] at hb
    split at hb
    · exact hb
    · cases hb
  have h0 : Rel (Base.all w) (φ.take G0.length) G0 w := by
    refine ⟨by rw [List.length_take]; omega, BelowB.refl w, fun b k l hb hl => ?_, fun b b' k k' l l' hb hb' hl hl' => hr.inj b b' k k' l l' (up hb) (up hb') (upl hl) (upl hl')⟩
    have hbr := hr.blocks b k l (up hb) (upl hl)
    have hk := List.all_eq_true.1 hg k (List.mem_of_getElem? hb)
    cases k with
    | glob g vs =>
      obtain ⟨h1, h2, h3, h4⟩ := hbr
      exact ⟨Nat.lt_of_lt_of_le (w0.lt _ h1) hr.below.size, h2, h3, fun j x hx => let ⟨u, e1, e2⟩ := h4 j x hx; ⟨u, VR.flat _ (flats_get hk hx) e1, e2⟩⟩
    | _ => cases hk
  refine ((hC f args G0 v none h).1 (Base.all w) (φ.take G0.length) w us h0 (VRs.flat _ ha hu)).mono ?_
  rintro e w' ⟨u, φ', rfl, _, h2, rfl, h3⟩
  refine ⟨u, φ, rfl, Ext.refl _, VR.flat φ hv h2, rfl, ?_⟩
  refine ⟨hr.len, ⟨h3.below.os.trans hr.below.os, h3.below.tape.trans hr.below.tape, h3.below.output.trans hr.below.output, Nat.le_trans hr.below.size h3.below.size, fun j hj => ?_⟩, fun b k l hb hl => ?_, hr.inj⟩
  · exact (h3.below.block j (Nat.lt_of_lt_of_le (w0.lt j hj) hr.below.size)).trans (hr.below.block j hj)
  · by_cases hd : k = .dead
    · subst hd; trivial
    · have hbr := hr.blocks b k l hb hl
      exact hbr.keep (h3.below.block l.blk (hbr.lt hr.below.size hd))
/-- The table first, where the heap begins with the variables; what it does not tell the rest answers. -/
noncomputable def orcG (G0 : AH) (T : List (Nat × Ans)) (rest : CallF) : CallF := fun f args H =>
  match ansP (assoc [] T f) args with
  | some v => Bool.rec (motive := fun _ => Option (AV × Option (AH × Nat))) (rest f args H) (some (v, none)) (pre G0 H)
  | none => rest f args H
def EntOkG (P : Program) (G0 : AH) (e : Ent) : Prop := AV.flats e.args = true ∧ e.v.flat = true ∧ ∃ call : CallF, CallOk P call ∧ call e.f e.args G0 = some (e.v, none)
def AnsOkG (P : Program) (G0 : AH) (f : Nat) (l : Ans) : Prop := ∀ e ∈ l, EntOkG P G0 ⟨f, e.1, e.2⟩
theorem orcG_ok {P : Program} {G0 : AH} {T : List (Nat × Ans)} {rest : CallF} (hg : G0.all isGlobF = true) (hT : ∀ p ∈ T, AnsOkG P G0 p.1 p.2) (hr : CallOk P rest) : CallOk P (orcG G0 T rest) := by
  intro f args H v ch h
  unfold orcG at h
  split at h
  · rename_i v' ha
    cases hp : pre G0 H with
    | false => rw [hp] at h; exact hr f args H v ch h
    | true =>
      rw [hp] at h
      cases h
      obtain ⟨R, rfl⟩ := pre_ok hp
      have hm := ansP_ok ha
      rcases assoc_mem (d := ([] : Ans)) (l := T) (n := f) with e | e
      · rw [e] at hm; cases hm
      · obtain ⟨h1, h2, call, h3, h4⟩ := hT _ e _ hm
        exact ⟨fun w0 φ w us hr hu => liftG h3 hg h4 h1 h2 hr hu, fun H' lo hh => by cases hh⟩
  · exact hr f args H v ch h
end Go.Ve


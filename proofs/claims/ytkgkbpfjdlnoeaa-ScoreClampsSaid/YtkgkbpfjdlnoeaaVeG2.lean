/- Regions that draw their order, second: the evaluation, its checks, and what they give. -/
import Derived.Test.YtkgkbpfjdlnoeaaVeG
namespace Go.Ve
open Go Go.RowKit

/-! ### What must come before what -/
def befOne (o : Oper) (acc : List Nat) : Nat := o.after.toList.foldl (fun m e => if Region.binds .any e then m ||| (1 <<< e.on ||| acc.getD e.on 0) else m) 0
def befAll : List Oper → List Nat → List Nat
  | [], acc => acc
  | o :: r, acc => befAll r (acc ++ [befOne o acc])
def bsOf (ops : Array Oper) : List Nat := befAll ops.toList []
theorem befOne_bit {o : Oper} {acc : List Nat} {j : Nat} (h : (befOne o acc).testBit j = true) : ∃ e ∈ o.after, Region.binds .any e = true ∧ (e.on = j ∨ (acc.getD e.on 0).testBit j = true) := by
  have key : ∀ (l : List _) (m : Nat), (l.foldl (fun m e => if Region.binds .any e then m ||| (1 <<< e.on ||| acc.getD e.on 0) else m) m).testBit j = true → m.testBit j = true ∨ ∃ e ∈ l, Region.binds .any e = true ∧ (e.on = j ∨ (acc.getD e.on 0).testBit j = true) := by
    intro l
    induction l with
    | nil => intro m h; exact .inl h
    | cons e l ih =>
      intro m h
      rw [List.foldl_cons] at h
      rcases ih _ h with h | ⟨e', he, h1⟩
      · by_cases hb : Region.binds .any e = true
        · rw [if_pos hb] at h
          simp only [Nat.testBit_or, Nat.one_shiftLeft, Nat.testBit_two_pow, Bool.or_eq_true, decide_eq_true_eq] at h
          rcases h with h | h | h
          · exact .inl h
          · exact .inr ⟨e, by simp, hb, .inl h⟩
          · exact .inr ⟨e, by simp, hb, .inr h⟩
        · rw [if_neg hb] at h
          exact .inl h
      · exact .inr ⟨e', by simp [he], h1⟩
  rcases key _ _ h with h | ⟨e, he, h1⟩
  · simp at h
  · exact ⟨e, by simpa using he, h1⟩
theorem befAll_get : ∀ (l : List Oper) (acc : List Nat), (∀ i, i < acc.length → (befAll l acc)[i]? = acc[i]?) ∧ ∀ (j : Nat) (o : Oper), l[j]? = some o → (befAll l acc)[acc.length + j]? = some (befOne o ((befAll l acc).take (acc.length + j)))
  | [], acc => ⟨fun _ _ => rfl, fun j o h => by simp at h⟩
  | o :: l, acc => by
    obtain ⟨h1, h2⟩ := befAll_get l (acc ++ [befOne o acc])
    have pre : ∀ i, i < acc.length → (befAll l (acc ++ [befOne o acc]))[i]? = acc[i]? := fun i hi => by
      rw [h1 i (by simp; omega), List.getElem?_append_left hi]
    refine ⟨pre, fun j o' hj => ?_⟩
    cases j with
    | zero =>
      simp at hj
      subst hj
      have ht : (befAll l (acc ++ [befOne o acc])).take (acc.length + 0) = acc := by
        apply List.ext_getElem?
        intro i
        rw [List.getElem?_take]
        by_cases hi : i < acc.length
        · rw [if_pos (by omega)]; exact pre i hi
        · rw [if_neg (by omega), List.getElem?_eq_none (by omega)]
      show (befAll l (acc ++ [befOne o acc]))[acc.length + 0]? = some (befOne o ((befAll l (acc ++ [befOne o acc])).take (acc.length + 0)))
      rw [ht, h1 _ (by simp)]
      simp
    | succ j =>
      have := h2 j o' (by simpa using hj)
      simp only [List.length_append, List.length_cons, List.length_nil, Nat.zero_add] at this
      show (befAll l (acc ++ [befOne o acc]))[acc.length + (j + 1)]? = some (befOne o' ((befAll l (acc ++ [befOne o acc])).take (acc.length + (j + 1))))
      rw [show acc.length + (j + 1) = acc.length + 1 + j by omega]
      exact this
theorem bs_bit {ops : Array Oper} {i j : Nat} {o : Oper} (hi : ops[i]? = some o) (h : ((bsOf ops).getD i 0).testBit j = true) :
    ∃ e ∈ o.after, Region.binds .any e = true ∧ (e.on = j ∨ (e.on < i ∧ ((bsOf ops).getD e.on 0).testBit j = true)) := by
  have h1 := (befAll_get ops.toList []).2 i o (by simpa using hi)
  simp only [List.length_nil, Nat.zero_add] at h1
  have e1 : (bsOf ops).getD i 0 = befOne o ((bsOf ops).take i) := by
    rw [List.getD_eq_getElem?_getD]
    unfold bsOf
    rw [h1]; rfl
  rw [e1] at h
  obtain ⟨e, he, hb, h2⟩ := befOne_bit h
  refine ⟨e, he, hb, h2.imp id fun h3 => ?_⟩
  rw [List.getD_eq_getElem?_getD, List.getElem?_take] at h3
  by_cases hlt : e.on < i
  · rw [if_pos hlt] at h3
    exact ⟨hlt, by rw [List.getD_eq_getElem?_getD]; exact h3⟩
  · rw [if_neg hlt] at h3
    simp at h3
def fwdB (ops : Array Oper) : Bool := (List.range ops.size).all fun i => match ops[i]? with | some o => o.after.toList.all fun e => !Region.binds .any e || decide (e.on < i) | none => true
theorem fwdB_ok {ops : Array Oper} (h : fwdB ops = true) {i : Nat} {o : Oper} (hi : ops[i]? = some o) : ∀ e ∈ o.after, Region.binds .any e = true → e.on < i := by
  intro e he hb
  have hlt := (Array.getElem?_eq_some_iff.1 hi).1
  have h1 := List.all_eq_true.1 h i (List.mem_range.2 hlt)
  rw [hi] at h1
  have h2 := List.all_eq_true.1 h1 e (by simpa using he)
  simpa [hb] using h2
theorem bs_lt {ops : Array Oper} (hf : fwdB ops = true) : ∀ (i : Nat) {j : Nat} {o : Oper}, ops[i]? = some o → ((bsOf ops).getD i 0).testBit j = true → j < i := by
  intro i
  induction i using Nat.strongRecOn with
  | _ i ih =>
    intro j o hi h
    obtain ⟨e, he, hb, h1⟩ := bs_bit hi h
    have hlt := fwdB_ok hf hi e he hb
    rcases h1 with rfl | ⟨_, h2⟩
    · exact hlt
    · have : e.on < ops.size := Nat.lt_trans hlt (Array.getElem?_eq_some_iff.1 hi).1
      exact Nat.lt_trans (ih e.on hlt (Array.getElem?_eq_getElem this) h2) hlt
theorem bs_closed {ops : Array Oper} (hf : fwdB ops = true) {d : Array Bool} (hc : ∀ j oj, ops[j]? = some oj → d.getD j false = true → ∀ e ∈ oj.after, Region.binds .any e = true → d.getD e.on false = true) :
    ∀ (i : Nat) {j : Nat} {o : Oper}, ops[i]? = some o → (∀ e ∈ o.after, Region.binds .any e = true → d.getD e.on false = true) → ((bsOf ops).getD i 0).testBit j = true → d.getD j false = true := by
  intro i
  induction i using Nat.strongRecOn with
  | _ i ih =>
    intro j o hi ha h
    obtain ⟨e, he, hb, h1⟩ := bs_bit hi h
    have hlt := fwdB_ok hf hi e he hb
    rcases h1 with rfl | ⟨_, h2⟩
    · exact ha e he hb
    · have hs : e.on < ops.size := Nat.lt_trans hlt (Array.getElem?_eq_some_iff.1 hi).1
      exact ih e.on hlt (Array.getElem?_eq_getElem hs) (hc e.on _ (Array.getElem?_eq_getElem hs) (ha e he hb)) h2

def unord (bs : List Nat) (i k : Nat) : Bool := i != k && !(bs.getD i 0).testBit k && !(bs.getD k 0).testBit i
theorem unord_of {bs : List Nat} {i k : Nat} (h1 : i ≠ k) (h2 : (bs.getD i 0).testBit k = false) (h3 : (bs.getD k 0).testBit i = false) : unord bs i k = true := by
  unfold unord
  rw [h2, h3]
  simp [h1]

/-! ### Masks -/
def maskL (L : List Nat) (H : AH) : AH := L.foldl (fun H b => H.set b .dead) H
theorem maskL_length : ∀ (L : List Nat) (H : AH), (maskL L H).length = H.length
  | [], _ => rfl
  | b :: L, H => by rw [maskL, List.foldl_cons]; exact (maskL_length L _).trans (by simp)
theorem maskL_get : ∀ (L : List Nat) (H : AH) (b : Nat), (b ∉ L → (maskL L H)[b]? = H[b]?) ∧ (b < H.length → H[b]? = some .dead ∨ b ∈ L → (maskL L H)[b]? = some .dead)
  | [], _, _ => ⟨fun _ => rfl, fun _ h => h.elim id (fun h => by simp at h)⟩
  | c :: L, H, b => by
    obtain ⟨h1, h2⟩ := maskL_get L (H.set c .dead) b
    refine ⟨fun hb => ?_, fun hlt hb => ?_⟩
    · simp only [List.mem_cons, not_or] at hb
      show (maskL L (H.set c .dead))[b]? = _
      rw [h1 hb.2, List.getElem?_set_ne (Ne.symm hb.1)]
    · show (maskL L (H.set c .dead))[b]? = _
      refine h2 (by simpa using hlt) ?_
      by_cases hcb : c = b
      · subst hcb
        exact .inl (by rw [List.getElem?_set_self hlt])
      · rw [List.getElem?_set_ne hcb]
        rcases hb with hb | hb
        · exact .inl hb
        · right
          rcases List.mem_cons.1 hb with h | h
          · exact absurd h.symm hcb
          · exact h

/-! ### One operation -/
structure Rec where
  v : AV
  ch : Option (Nat × ABlk)
def hidB (bs : List Nat) (i : Nat) (s : Tmp) : Nat → List Oper → Bool
  | _, [] => false
  | k, o :: l => (unord bs i k && o.dst == some s) || hidB bs i s (k + 1) l
theorem hidB_ok {bs : List Nat} {i : Nat} {s : Tmp} : ∀ {l : List Oper} {k : Nat}, hidB bs i s k l = false → ∀ (j : Nat) (o : Oper), l[j]? = some o → unord bs i (k + j) = true → o.dst ≠ some s
  | [], _, _, _, _, h, _ => by simp at h
  | x :: l, k, h, 0, o, hj, hu => by
    simp at hj
    subst hj
    rw [Nat.add_zero] at hu
    simp only [hidB, hu, Bool.true_and, Bool.or_eq_false_iff] at h
    intro e
    rw [e] at h
    simp at h
  | x :: l, k, h, j + 1, o, hj, hu => by
    simp only [hidB, Bool.or_eq_false_iff] at h
    exact hidB_ok h.2 j o (by simpa using hj) (by rwa [show k + 1 + j = k + (j + 1) by omega])
def gρ (hd : List Oper) (bs : List Nat) (i : Nat) (fr : List AV) : Operand → AV
  | .tmp s => if hidB bs i s 0 hd then .bad else aeval fr (.tmp s)
  | x => aeval fr x
def gwant (ops : Array Oper) (hd : List Oper) (bs : List Nat) (i : Nat) (o : Oper) (fr : List AV) : Option Bool :=
  match o.guard with
  | none => some true
  | some (j, _) =>
    match (ops[j]?).bind (·.dst) with
    | none => some false
    | some s => if hidB bs i s 0 hd then none else awanted ops o fr
theorem awanted_congr {ops : Array Oper} {o : Oper} {fr fr' : List AV} (h : ∀ j want s, o.guard = some (j, want) → (ops[j]?).bind (·.dst) = some s → fr[s]? = fr'[s]?) : awanted ops o fr = awanted ops o fr' := by
  unfold awanted
  split
  · rfl
  · rename_i j want hg
    split
    · rfl
    · rename_i d hd
      rw [h j want d hg hd]
def astoreAt (P : Program) (t : TypeId) (H : AH) (p v : AV) : Option (Nat × ABlk) :=
  match p with
  | .ptr b _ =>
    match astore P t H p v with
    | some H' => (H'[b]?).map fun k => (b, k)
    | none => none
  | _ => none
theorem astoreAt_spec {P : Program} {t : TypeId} {H H2 : AH} {p v : AV} {c : Nat × ABlk} (h : astoreAt P t H p v = some c) (hb : H2[c.1]? = H[c.1]?) : astore P t H2 p v = some (H2.set c.1 c.2) ∧ c.1 = ptrOf p ∧ c.1 < H.length ∧ H[c.1]? ≠ some .dead := by
  unfold astoreAt at h
  split at h
  · rename_i b off
    cases hs : astore P t H (.ptr b off) v with
    | none => rw [hs] at h; cases h
    | some H' =>
      rw [hs] at h
      unfold astore at hs ⊢
      simp only at hs
      split at hs
      · rename_i vs esz i h1 h2
        split at hs
        · rename_i hc
          cases hs
          have hlt := lt_of_some h1
          simp only at h
          rw [List.getElem?_set_self hlt] at h
          cases h
          simp only at hb ⊢
          rw [hb, h1, h2]
          simp only
          rw [if_pos hc]
          exact ⟨rfl, rfl, hlt, by simp⟩
        · cases hs
      · cases hs
  · cases h
theorem astoreAt_congr {P : Program} {t : TypeId} {H H2 : AH} {p v : AV} {c : Nat × ABlk} (h : astoreAt P t H p v = some c) (hb : H2[c.1]? = H[c.1]?) : astoreAt P t H2 p v = some c := by
  obtain ⟨h1, h2, h3, h4⟩ := astoreAt_spec h hb
  have hlt : c.1 < H2.length := by
    rw [List.getElem?_eq_getElem h3] at hb
    exact lt_of_some hb
  have h' := h
  unfold astoreAt at h ⊢
  split at h
  · rename_i b off
    have e : c.1 = b := h2
    rw [h1]
    simp only
    rw [e] at hlt ⊢
    rw [List.getElem?_set_self hlt, Option.map_some, ← e]
  · cases h

theorem map_call {α : Type} {x : Option α} {f : α → AV} {c : Option (AH × Nat)} {g : FuncId} {as : List AV} (h : (x.map fun a => AO.val (f a) c) = some (.call g as)) : False := by
  cases x <;> simp at h

def pureOp : Op → Bool
  | .move _ | .assign _ | .pick .. | .alloc _ | .build .. | .nilCheck _ | .binOp .. | .unOp .. | .makeInterface .. | .makeFunc .. | .slice .. | .fieldAddr .. | .field .. | .indexAddr .. | .index .. | .extract .. => true
  | _ => false
/-- Operations for which a place is kept free. -/
def isNew : Op → Bool
  | .alloc _ => true
  | .buildSlice .. => true
  | .call c => (match c.callee with | .value _ => true | _ => false)
  | _ => false
theorem isNew_pure {o : Op} (h : isNew o = true) (hp : pureOp o = true) : ∃ e, o = .alloc e := by
  cases o <;> first | exact ⟨_, rfl⟩ | (simp [isNew] at h; done) | (simp [pureOp] at hp; done)
/-- What a call has made anew: one block counts, it goes to its place. -/
def fresh (Hm : AH) (p : Nat) (v : AV) (H' : AH) (lo : Nat) : Option Rec :=
  if lo = Hm.length then
    match v with
    | .sl m off len cap ex =>
      if Hm.length ≤ m then
        match H'[m]? with
        | some (.cells vs esz false) => if AV.onBs (fun b => decide (b < Hm.length) && decide (b ≠ p)) vs = true then some ⟨.sl p off len cap ex, some (p, .cells vs esz false)⟩ else none
        | _ => none
      else none
    | _ => none
  else none
theorem fresh_ok {Hm : AH} {p : Nat} {v : AV} {H' : AH} {lo : Nat} {r : Rec} (h : fresh Hm p v H' lo = some r) : lo = Hm.length ∧ ∃ m off len cap ex vs esz, v = .sl m off len cap ex ∧ Hm.length ≤ m ∧ H'[m]? = some (.cells vs esz false) ∧
    AV.onBs (fun b => decide (b < Hm.length) && decide (b ≠ p)) vs = true ∧ r = ⟨.sl p off len cap ex, some (p, .cells vs esz false)⟩ := by
  unfold fresh at h
  split at h
  · rename_i hlo
    split at h
    · rename_i m off len cap ex
      split at h
      · rename_i hm
        split at h
        · rename_i vs esz hb
          split at h
          · rename_i ho
            cases h
            exact ⟨hlo, m, off, len, cap, ex, vs, esz, rfl, hm, hb, ho, rfl⟩
          · cases h
        · cases h
      · cases h
    · cases h
  · cases h
noncomputable def genOp (P : Program) (call : CallF) (ρ : Operand → AV) (p : Nat) (o : Oper) (Hm : AH) : Option Rec :=
  match o.op with
  | .alloc e => (azero P e).map fun z => ⟨.ptr p 0, some (p, .cells z (etag P e z.length) false)⟩
  | .store t a x => (astoreAt P t Hm (ρ a) (ρ x)).map fun c => ⟨.tuple [], some c⟩
  | _ =>
    match aop P o ρ Hm with
    | some (.val v none) => some ⟨v, none⟩
    | some (.val v (some (H', lo))) => if isNew o.op = true then fresh Hm p v H' lo else none
    | some (.call f args) =>
      match call f args Hm with
      | some (v, none) => some ⟨v, none⟩
      | some (v, some (H', lo)) => if isNew o.op = true then fresh Hm p v H' lo else none
      | none => none
    | _ => none
theorem aop_pure {P : Program} {o : Oper} {ρ : Operand → AV} {H H2 : AH} {v : AV} (h : pureOp o.op = true) (ha : ∀ e, o.op ≠ .alloc e) (hv : aop P o ρ H = some (.val v none)) : aop P o ρ H2 = some (.val v none) := by
  unfold aop at hv ⊢
  cases ho : o.op <;> rw [ho] at h hv <;> first | exact hv | (simp [pureOp] at h; done) | exact absurd ho (ha _) | skip
  simp only at hv ⊢
  split at hv
  · exact hv
  · rename_i hn
    split at hv
    · exact hv
    · cases hq : ananOp _ _ _ <;> rw [hq] at hv <;> cases hv
def isDeadAt (H : AH) (b : Nat) : Bool :=
  match H[b]? with
  | some .dead => true
  | none => true
  | _ => false
def isGptr : AV → Bool
  | .gptr _ _ => true
  | _ => false
/-- The greatest or the least of numbers: memory plays no part. -/
def isMM : Op → Bool
  | .call c => (match c.callee with | .builtin .max => true | .builtin .min => true | _ => false)
  | _ => false
theorem genOp_mm {P : Program} {call : CallF} {ρ : Operand → AV} {p : Nat} {o : Oper} {H H2 : AH} {r : Rec} (h : isMM o.op = true) (hg : genOp P call ρ p o H = some r) : genOp P call ρ p o H2 = some r := by
  unfold isMM at h
  split at h
  · rename_i c ho
    obtain ⟨x, hx⟩ : ∃ x : Option AV, ∀ K, aop P o ρ K = x.map fun v => AO.val v none := by
      split at h
      · rename_i hc
        refine ⟨(scs (c.args.toList.map ρ)).bind fun us => (pureRun P (Builtin.max_ #[] 0 us.toArray)).map ofV1, fun K => ?_⟩
        unfold aop
        simp only [ho]
        unfold acall
        simp only [hc, abuiltin]
        cases scs (c.args.toList.map ρ) with
        | none => rfl
        | some us => cases hq : pureRun P (Builtin.max_ #[] 0 us.toArray) <;> simp [hq]
      · rename_i hc
        refine ⟨(scs (c.args.toList.map ρ)).bind fun us => (pureRun P (Builtin.min_ #[] 0 us.toArray)).map ofV1, fun K => ?_⟩
        unfold aop
        simp only [ho]
        unfold acall
        simp only [hc, abuiltin]
        cases scs (c.args.toList.map ρ) with
        | none => rfl
        | some us => cases hq : pureRun P (Builtin.min_ #[] 0 us.toArray) <;> simp [hq]
      · cases h
    unfold genOp at hg ⊢
    simp only [ho] at hg ⊢
    rw [hx H] at hg
    rw [hx H2]
    cases x with
    | none => exact hg
    | some v => exact hg
  · cases h
def lateOk (o : Oper) (ρ : Operand → AV) (Hm : AH) (L : List Nat) : Bool :=
  L.all (isDeadAt Hm) || isMM o.op ||
  match o.op with
  | .store _ a _ => !L.contains (ptrOf (ρ a))
  | .load _ a => !isGptr (ρ a) && !L.contains (ptrOf (ρ a))
  | op => pureOp op
theorem maskL_dead : ∀ (L : List Nat) (H : AH), L.all (isDeadAt H) = true → maskL L H = H
  | [], _, _ => rfl
  | b :: L, H, h => by
    simp only [List.all_cons, Bool.and_eq_true] at h
    have e : H.set b .dead = H := by
      apply List.ext_getElem?
      intro c
      by_cases hb : b = c
      · subst hb
        unfold isDeadAt at h
        by_cases hlt : b < H.length
        · rw [List.getElem?_set_self hlt]
          have h1 := h.1
          split at h1
          · rename_i e; exact e.symm
          · rename_i e; rw [List.getElem?_eq_getElem hlt] at e; cases e
          · cases h1
        · rw [List.getElem?_eq_none (by simp; omega), List.getElem?_eq_none (by omega)]
      · rw [List.getElem?_set_ne hb]
    show maskL L (H.set b .dead) = H
    rw [e]
    exact maskL_dead L H h.2
theorem genOp_mask {P : Program} {call : CallF} {ρ : Operand → AV} {p : Nat} {o : Oper} {Hm : AH} {L : List Nat} {r : Rec} (h : genOp P call ρ p o Hm = some r) (hl : lateOk o ρ Hm L = true) : genOp P call ρ p o (maskL L Hm) = some r := by
  unfold lateOk at hl
  rw [Bool.or_eq_true, Bool.or_eq_true] at hl
  rcases hl with (hl | hl) | hl
  · rw [maskL_dead L Hm hl]; exact h
  · exact genOp_mm hl h
  · unfold genOp at h ⊢
    split at hl
    · rename_i t a x ho
      simp only [ho] at h ⊢
      cases hs : astoreAt P t Hm (ρ a) (ρ x) with
      | none => rw [hs] at h; cases h
      | some c =>
        have hc := (astoreAt_spec hs rfl).2.1
        have hn : c.1 ∉ L := by rw [hc]; simpa using hl
        rw [astoreAt_congr hs ((maskL_get L Hm c.1).1 hn)]
        rw [hs] at h; exact h
    · rename_i t a ho
      simp only [ho] at h ⊢
      have e : aop P o ρ (maskL L Hm) = aop P o ρ Hm := by
        unfold aop
        simp only [ho]
        unfold aload
        cases hp : ρ a <;> try rfl
        · rename_i b off
          have hn : b ∉ L := by rw [hp] at hl; simpa [ptrOf, isGptr] using hl
          simp only [cellsOf?, (maskL_get L Hm b).1 hn]
        · rw [hp] at hl
          simp [isGptr] at hl
      rw [e]
      split at h <;> first | (cases h; done) | skip
      · exact h
      · rename_i f args hcall
        unfold aop at hcall
        simp only [ho] at hcall
        exact (by cases hh : aload P t Hm (ρ a) <;> rw [hh] at hcall <;> cases hcall)
    · rename_i op hns hnl
      by_cases ha : ∃ e, o.op = .alloc e
      · obtain ⟨e, ha⟩ := ha
        simp only [ha] at h ⊢
        exact h
      · have e := fun v => aop_pure (P := P) (ρ := ρ) (H := Hm) (H2 := maskL L Hm) (v := v) hl (fun e he => ha ⟨e, he⟩)
        have hcall : ∀ f args, aop P o ρ Hm ≠ some (.call f args) := by
          intro f args hc
          unfold aop at hc
          cases ho : o.op <;> rw [ho] at hc hl <;> first | (simp [pureOp] at hl; done) | skip
          all_goals (simp only at hc)
          all_goals first | (cases hc; done) | (exact (map_call hc).elim) | ((repeat' split at hc) <;> first | (cases hc; done) | exact (map_call hc).elim)
        split at h
        · exact absurd ‹o.op = _› (fun he => ha ⟨_, he⟩)
        · exact absurd ‹o.op = _› (fun he => hns _ _ _ he)
        · split at h
          · rename_i v hv
            rw [e v hv]
            exact h
          · split at h
            · rename_i hnw
              obtain ⟨e, he⟩ := isNew_pure hnw hl
              exact absurd ⟨e, he⟩ ha
            · cases h
          · rename_i hc; exact absurd hc (hcall _ _)
          · cases h
end Go.Ve

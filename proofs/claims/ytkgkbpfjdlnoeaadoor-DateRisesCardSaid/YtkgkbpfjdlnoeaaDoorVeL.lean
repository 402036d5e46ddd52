/- The evaluator with ranges over functions: code, rounds and calls. -/
import Derived.Test.YtkgkbpfjdlnoeaaDoorVeI
import Derived.Test.YtkgkbpfjdlnoeaaDoorVeH
import Derived.Test.YtkgkbpfjdlnoeaaDoorVeF
import Derived.RangeFuncNested
namespace Go.Ve
open Go Go.RowKit

/-! ### Masks, told once -/
/-- The slots that an operation must not read: those of operations that may come up before it or behind it. -/
def hidM (bs : List Nat) (i : Nat) : Nat → List Oper → Nat
  | _, [] => 0
  | k, o :: l =>
    match o.dst with
    | some s => if unord bs i k = true then hidM bs i (k + 1) l ||| (1 <<< s) else hidM bs i (k + 1) l
    | none => hidM bs i (k + 1) l
theorem hidM_bit {bs : List Nat} {i : Nat} {s : Tmp} : ∀ (l : List Oper) (k : Nat), (hidM bs i k l).testBit s = hidB bs i s k l
  | [], k => by simp [hidM, hidB]
  | o :: l, k => by
    have ih := hidM_bit (bs := bs) (i := i) (s := s) l (k + 1)
    unfold hidM hidB
    cases hd : o.dst with
    | none => simp [ih]
    | some s' =>
      simp only
      by_cases hu : unord bs i k = true
      · rw [if_pos hu, Nat.testBit_or, ih, hu, Nat.one_shiftLeft, Nat.testBit_two_pow]
        by_cases e : s' = s
        · subst e; simp
        · have : (some s' == some s) = false := by simp [e]
          rw [this, decide_eq_false e]
          simp
      · rw [if_neg hu, ih]
        have : unord bs i k = false := by simpa using hu
        rw [this]; simp
def hidMs (bs : List Nat) (all : List Oper) : Nat → List Oper → List Nat
  | _, [] => []
  | i, _ :: l => hidM bs i 0 all :: hidMs bs all (i + 1) l
/-! ### The same, reckoned fast -/
def tstB (m s : Nat) : Bool := Nat.beq (Nat.land (Nat.shiftRight m s) 1) 1
theorem tstB_eq (m s : Nat) : tstB m s = m.testBit s := by
  unfold tstB Nat.testBit
  have h : (m >>> s) &&& 1 = (m >>> s) % 2 := Nat.and_one_is_mod _
  have h2 : Nat.land (Nat.shiftRight m s) 1 = (m >>> s) % 2 := h
  have h3 : 1 &&& (m >>> s) = (m >>> s) % 2 := by rw [Nat.and_comm]; exact h
  rw [h2, h3]
  have : (m >>> s) % 2 < 2 := Nat.mod_lt _ (by omega)
  rcases (show (m >>> s) % 2 = 0 ∨ (m >>> s) % 2 = 1 by omega) with e | e <;> rw [e] <;> rfl
def unB (i bi k b : Nat) : Bool := Bool.and (Bool.not (Nat.beq i k)) (Bool.and (Bool.not (tstB bi k)) (Bool.not (tstB b i)))
theorem unB_eq (bs : List Nat) (i k : Nat) : unB i (bs.getD i 0) k (bs.getD k 0) = unord bs i k := by
  unfold unB unord
  rw [tstB_eq, tstB_eq]
  have : (Nat.beq i k) = (i == k) := by rw [Bool.eq_iff_iff]; simp [Nat.beq_eq]
  rw [this]
  simp [Bool.and_assoc, bne]
noncomputable def rowH (i bi : Nat) (l : List Oper) : Nat → List Nat → Nat :=
  List.rec (motive := fun _ => Nat → List Nat → Nat) (fun _ _ => 0) (fun o _ ih k bs =>
    match bs with
    | [] => 0
    | b :: bs =>
      match o.dst with
      | some s => Bool.rec (motive := fun _ => Nat) (ih (Nat.succ k) bs) (Nat.lor (ih (Nat.succ k) bs) (Nat.shiftLeft 1 s)) (unB i bi k b)
      | none => ih (Nat.succ k) bs) l
theorem rowH_eq {bs : List Nat} {i : Nat} : ∀ (l : List Oper) (k : Nat) (r : List Nat), l.length ≤ r.length → (∀ j, j < r.length → r[j]? = some (bs.getD (k + j) 0)) → rowH i (bs.getD i 0) l k r = hidM bs i k l
  | [], _, _, _, _ => rfl
  | o :: l, k, [], h, _ => by simp at h
  | o :: l, k, b :: r, hl, hr => by
    have ih := rowH_eq (bs := bs) (i := i) l (k + 1) r (by simpa using hl) fun j hj => by
      have := hr (j + 1) (by simp; omega)
      rw [show k + (j + 1) = k + 1 + j by omega] at this
      simpa using this
    have hb : b = bs.getD k 0 := by have := hr 0 (by simp); simpa using this
    show (match o.dst with
      | some s => Bool.rec (motive := fun _ => Nat) (rowH i (bs.getD i 0) l (k + 1) r) (Nat.lor (rowH i (bs.getD i 0) l (k + 1) r) (Nat.shiftLeft 1 s)) (unB i (bs.getD i 0) k b)
      | none => rowH i (bs.getD i 0) l (k + 1) r) = _
    rw [ih, hb, unB_eq, hidM]
    cases o.dst with
    | none => rfl
    | some s => cases unord bs i k <;> rfl
noncomputable def rowU (i bi : Nat) (l : List Nat) : Nat → Nat :=
  List.rec (motive := fun _ => Nat → Nat) (fun _ => 0) (fun b _ ih k => Bool.rec (motive := fun _ => Nat) (ih (Nat.succ k)) (Nat.lor (ih (Nat.succ k)) (Nat.shiftLeft 1 k)) (unB i bi k b)) l
theorem rowU_bit {bs : List Nat} {i m : Nat} : ∀ (r : List Nat) (k : Nat), (∀ j, j < r.length → r[j]? = some (bs.getD (k + j) 0)) → k ≤ m → m < k + r.length → unord bs i m = true → (rowU i (bs.getD i 0) r k).testBit m = true
  | [], k, _, h1, h2, _ => by simp at h2; omega
  | b :: r, k, hr, h1, h2, hu => by
    have hb : b = bs.getD k 0 := by have := hr 0 (by simp); simpa using this
    show (Bool.rec (motive := fun _ => Nat) (rowU i (bs.getD i 0) r (k + 1)) (rowU i (bs.getD i 0) r (k + 1) ||| (1 <<< k)) (unB i (bs.getD i 0) k b)).testBit m = true
    rw [hb, unB_eq]
    by_cases e : m = k
    · subst e
      rw [hu]
      show (_ ||| (1 <<< m)).testBit m = true
      rw [Nat.testBit_or, Nat.one_shiftLeft, Nat.testBit_two_pow]
      simp
    · have ih := rowU_bit (bs := bs) (i := i) (m := m) r (k + 1) (fun j hj => by
        have := hr (j + 1) (by simp; omega)
        rw [show k + (j + 1) = k + 1 + j by omega] at this
        simpa using this) (by omega) (by simp at h2; omega) hu
      cases unord bs i k with
      | false => exact ih
      | true =>
        show (_ ||| (1 <<< k)).testBit m = true
        rw [Nat.testBit_or, ih]; rfl
/-- Are these the masks? -/
noncomputable def rowsB (all : List Oper) (bs : List Nat) (l : List Oper) : Nat → List Nat → List Nat → List Nat → Bool :=
  List.rec (motive := fun _ => Nat → List Nat → List Nat → List Nat → Bool) (fun _ _ hms ums => Bool.and (Nat.beq (lenR hms) 0) (Nat.beq (lenR ums) 0)) (fun o _ ih i r hms ums =>
    match r, hms, ums with
    | b :: r, hm :: hms, um :: ums =>
      Bool.and (Nat.beq hm (rowH i b all 0 bs)) (Bool.and (Nat.beq um (Bool.rec (motive := fun _ => Nat) (rowU i b bs 0) (Nat.shiftLeft 1 i) (freeOp o.op))) (ih (Nat.succ i) r hms ums))
    | _, _, _ => false) l
theorem rowsB_ok {all : List Oper} {bs : List Nat} (hlen : all.length = bs.length) : ∀ (l : List Oper) (i : Nat) (r hms ums : List Nat), (∀ j, j < r.length → r[j]? = some (bs.getD (i + j) 0)) → rowsB all bs l i r hms ums = true →
    hms = hidMs bs all i l ∧ ∀ (j um : Nat) (o : Oper), l[j]? = some o → ums[j]? = some um → um = (if freeOp o.op = true then 1 <<< (i + j) else rowU (i + j) (bs.getD (i + j) 0) bs 0)
  | [], i, r, hms, ums, _, h => by
    have h' : (Nat.beq (lenR hms) 0 && Nat.beq (lenR ums) 0) = true := h
    rw [Bool.and_eq_true, lenR_eq, lenR_eq] at h'
    have h1 := Nat.eq_of_beq_eq_true h'.1
    refine ⟨?_, fun j um o hj => by simp at hj⟩
    rw [List.length_eq_zero_iff.1 h1]; rfl
  | o :: l, i, [], hms, ums, _, h => by cases h
  | o :: l, i, b :: r, [], ums, _, h => by cases h
  | o :: l, i, b :: r, hm :: hms, [], _, h => by cases h
  | o :: l, i, b :: r, hm :: hms, um :: ums, hr, h => by
    have h' : (Nat.beq hm (rowH i b all 0 bs) && (Nat.beq um (Bool.rec (motive := fun _ => Nat) (rowU i b bs 0) (Nat.shiftLeft 1 i) (freeOp o.op)) && rowsB all bs l (i + 1) r hms ums)) = true := h
    rw [Bool.and_eq_true, Bool.and_eq_true] at h'
    obtain ⟨h1, h2, h3⟩ := h'
    have hb : b = bs.getD i 0 := by have := hr 0 (by simp); simpa using this
    obtain ⟨e1, e2⟩ := rowsB_ok hlen l (i + 1) r hms ums (fun j hj => by
      have := hr (j + 1) (by simp; omega)
      rw [show i + (j + 1) = i + 1 + j by omega] at this
      simpa using this) h3
    refine ⟨?_, fun j um' o' hj hu => ?_⟩
    · rw [e1, Nat.eq_of_beq_eq_true h1, hb, rowH_eq all 0 bs (by omega) (fun j hj => by rw [Nat.zero_add, List.getD_eq_getElem?_getD, List.getElem?_eq_getElem hj]; rfl)]
      rfl
    · cases j with
      | zero =>
        simp at hj hu
        subst hj; subst hu
        rw [Nat.eq_of_beq_eq_true h2, hb]
        cases freeOp o.op <;> rfl
      | succ j =>
        rw [show i + (j + 1) = i + 1 + j by omega]
        exact e2 j um' o' (by simpa using hj) (by simpa using hu)
noncomputable def masksB (ops : Array Oper) (hms ums : List Nat) : Bool := listK natK (bsOf ops) fun bs => rowsB ops.toList bs ops.toList 0 bs hms ums

/-! ### How a region that draws its order is reckoned -/
inductive Mode where
  | dyn
  | gen (n : Nat)
  | chain (hms ums : List Nat)
noncomputable def assoc {α : Type} (d : α) (l : List (Nat × α)) (n : Nat) : α :=
  List.rec (motive := fun _ => α) d (fun p _ ih => Bool.rec (motive := fun _ => α) ih p.2 (Nat.beq p.1 n)) l
theorem assoc_cons {α : Type} (d : α) (p : Nat × α) (l : List (Nat × α)) (n : Nat) : assoc d (p :: l) n = if Nat.beq p.1 n = true then p.2 else assoc d l n := by
  show Bool.rec (motive := fun _ => α) (assoc d l n) p.2 (Nat.beq p.1 n) = _
  cases Nat.beq p.1 n <;> rfl
noncomputable def okM (ops : Array Oper) : Mode → Bool
  | .dyn => true
  | .gen n => fwdB ops && decide (n ≤ ops.size) && nodupD (ops.toList.take n) && (decide (n = ops.size) || tailB ops n)
  | .chain hms ums => fwdB ops && nodupD ops.toList && masksB ops hms ums
abbrev RM := List (Nat × Mode)
abbrev VM := List (Nat × RM)
noncomputable def goodC (m : RM) : Code → Bool
  | .region id ops true => okM ops (assoc .dyn m id)
  | .seq a b => goodC m a && goodC m b
  | .cond _ x y => goodC m x && goodC m y
  | .block _ b => goodC m b
  | .loop b => goodC m b
  | .scope b => goodC m b
  | _ => true
theorem goodC_nil : ∀ c : Code, goodC [] c = true
  | .region _ ops true => rfl
  | .region _ ops false => rfl
  | .seq a b => by rw [goodC, goodC_nil a, goodC_nil b]; rfl
  | .cond _ x y => by rw [goodC, goodC_nil x, goodC_nil y]; rfl
  | .block _ b => by rw [goodC, goodC_nil b]
  | .loop b => by rw [goodC, goodC_nil b]
  | .scope b => by rw [goodC, goodC_nil b]
  | .skip => rfl
  | .label _ => rfl
  | .exit _ => rfl
  | .ret => rfl
  | .rangeFunc .. => rfl
  | .goto _ => rfl
  | .refuse _ => rfl
noncomputable def goodF (P : Program) (p : Nat × RM) : Bool :=
  match P.funcs[p.1]? with
  | some fn => (match fn.body with | some c => goodC p.2 c | none => true)
  | none => true
theorem good_get {P : Program} : ∀ {V : VM}, (∀ p ∈ V, goodF P p = true) → ∀ {f : Nat} {fn : Func} {c : Code}, P.funcs[f]? = some fn → fn.body = some c → goodC (assoc [] V f) c = true
  | [], _, f, fn, c, _, _ => goodC_nil c
  | p :: V, h, f, fn, c, hf, hb => by
    rw [assoc_cons]
    split
    · rename_i he
      have e : p.1 = f := Nat.eq_of_beq_eq_true he
      have := h p (by simp)
      unfold goodF at this
      rw [e, hf] at this
      simp only [hb] at this
      exact this
    · exact good_get (fun q hq => h q (by simp [hq])) hf hb

noncomputable def evGenS (P : Program) (call : CallF) (ops : Array Oper) (n : Nat) (fr : List AV) (H : AH) (lo : Nat) : Option (List AV × AH × Nat) :=
    match genLex P call ops (ops.toList.take n) (bsOf ops) (allocs 0 (ops.toList.take n)) H.length 0 (ops.toList.take n) fr (H ++ List.replicate (allocs 0 (ops.toList.take n)).length .dead) [] with
    | none => none
    | some recs =>
      if genChk ops (ops.toList.take n) (bsOf ops) (allocs 0 (ops.toList.take n)) H.length recs 0 (ops.toList.take n) recs fr (H ++ List.replicate (allocs 0 (ops.toList.take n)).length .dead) then
        evOps P call ops (ops.toList.drop n) (frD ops n recs fr allD) (HD ops n recs H allD) (lows recs lo)
      else none
theorem evGenS_eq {P : Program} {call : CallF} {ops : Array Oper} {n : Nat} (h : okM ops (.gen n) = true) {fr : List AV} {H : AH} {lo : Nat} : evGen P call ops n fr H lo = evGenS P call ops n fr H lo := by
  simp only [okM] at h
  unfold evGen
  rw [if_pos h]
  rfl

/-! ### The steps of the machine that the kit lacks -/
section scope
variable {F : Fence} {n : Nat} {P : Program} {Q : Exit → Act → World → Prop} {a : Act} {w : World}
theorem stepR_scope {b : Frame} {k : List Item} {cs : List Frame} {c : Code} : step P (lone (b.atR a (.code (.scope c) :: k)) cs w) = .next (lone (b.atR a (.code c :: .inScope c :: k)) cs w) :=
  step_lone_go (by simp [stepG, stepG.exec, Frame.atR])
theorem stepR_inScope {b : Frame} {k : List Item} {cs : List Frame} {c : Code} : step P (lone (b.atR a (.inScope c :: k)) cs w) = .next (lone (b.atR a k) cs w) :=
  step_lone_go (by simp [stepG, stepG.exec, Frame.atR])
theorem wpIn_scope_straight {c : Code} (h : c.wpIn F n P (Exit.noGoto Q) a w) : (Code.scope c).wpIn F n P Q a w := by
  intro b k cs hro hb hr
  have h0 : (lone (b.atR a (.code (.scope c) :: k)) cs w).fenced P F := fenced_calm hb hr rfl
  obtain ⟨e, a₁, w₁, hq, harr⟩ := h b (.inScope c :: k) cs hro hb hr
  cases e with
  | normal => exact ⟨.normal, a₁, w₁, hq, .head h0 stepR_scope (StepsIn.trans harr (.one (fenced_calm hb hr rfl) stepR_inScope))⟩
  | exit id =>
    have hx : exitTo id (.inScope c :: k) = exitTo id k := by simp [exitTo]
    exact ⟨_, a₁, w₁, hq, fun k' hk => .head h0 stepR_scope (harr.1 k' (by rw [hx]; exact hk)),
      fun hr' hk => let ⟨k₁, h1, h2⟩ := harr.2 hr' (by rw [hx]; exact hk); ⟨k₁, h1, .head h0 stepR_scope h2⟩⟩
  | goto l => exact hq.elim
  | ret => exact ⟨_, a₁, w₁, hq, .of_steps (.one h0 stepR_scope) harr⟩
  | panic ch => exact ⟨_, a₁, w₁, hq, .of_steps (.one h0 stepR_scope) harr⟩
  | outgrown => exact ⟨_, a₁, w₁, hq, .of_steps (.one h0 stepR_scope) harr⟩
end scope

/-! ### Records of loops, and marks -/
section
variable {P : Program} {w0 : Base} {w : World} {φ : List Loc} {H : AH}
theorem Rel.putLoop (h : Rel w0 φ H w) {b : Nat} {fr : List AV} {ps : Array Tmp} {as bd : Code} {st : LoopState} {pd : Option Code} {db : Nat} {l : Loc} (hb : H[b]? = some (.loop fr ps as bd st pd db)) (hl : φ[b]? = some l) :
    ∃ tm ld fn, φ[db]? = some ld ∧ VRs φ fr tm.toList ∧ w.heap[l.blk]? = some (.loop { state := st, pending := pd, fn := fn, tmps := tm, params := ps, assign := as, body := bd, defers := ld.blk }) ∧
      ∀ st' pd', Rel w0 φ (H.set b (.loop fr ps as bd st' pd' db)) (w.putObj l.blk (.loop { state := st', pending := pd', fn := fn, tmps := tm, params := ps, assign := as, body := bd, defers := ld.blk })) := by
  obtain ⟨h1, tm, ld, f, h2, h3, h4⟩ := h.blocks b _ l hb hl
  refine ⟨tm, ld, f, h2, h3, h4, fun st' pd' => ?_⟩
  have hlt := (Array.getElem?_eq_some_iff.1 h4).1
  exact h.upd hb rfl hl rfl rfl rfl (by simp [World.putObj]) (fun j hj _ => World.putObj_heap_other hj) ⟨h1, tm, ld, f, h2, h3, World.putObj_heap_same hlt⟩
def Marks (φ : List Loc) : List Nat → List Deferred → Prop
  | [], D => D = []
  | b :: ds, D => ∃ l D', φ[b]? = some l ∧ D = { target := .collected l.blk, args := #[] } :: D' ∧ Marks φ ds D'
theorem Marks.mono {φ φ' : List Loc} (hx : Ext φ φ') : ∀ {ds : List Nat} {D : List Deferred}, Marks φ ds D → Marks φ' ds D
  | [], _, h => h
  | _ :: _, _, ⟨l, D', h1, h2, h3⟩ => ⟨l, D', hx.get h1, h2, Marks.mono hx h3⟩
def isDefr : Option ABlk → Bool
  | some .defr => true
  | _ => false
theorem isDefr_ok {k : Option ABlk} (h : isDefr k = true) : k = some .defr := by
  unfold isDefr at h
  split at h
  · rfl
  · cases h
def allDefr (lo : Nat) : List Nat → AH → Bool
  | [], _ => true
  | b :: ds, H => isDefr H[b]? && Nat.ble lo b && allDefr lo ds (H.set b .dead)
def killAll : List Nat → AH → AH
  | [], H => H
  | b :: ds, H => killAll ds (H.set b .dead)
theorem killAll_keeps {lo : Nat} : ∀ {ds : List Nat} {H : AH}, allDefr lo ds H = true → Keeps lo H (killAll ds H)
  | [], H, _ => Keeps.refl _ _
  | b :: ds, H, h => by
    simp only [allDefr, Bool.and_eq_true] at h
    have hle : lo ≤ b := Nat.le_of_ble_eq_true h.1.2
    exact ((Keeps.set H b .dead).mono hle).trans (killAll_keeps h.2)
theorem leavesM {fn : Func} {tmps : Array Value} {R : Ending → World → Prop} {lo : Nat} : ∀ {ds : List Nat} {D : List Deferred} {H : AH} {w : World}, Marks φ ds D → Rel w0 φ H w → allDefr lo ds H = true →
    (∀ w', Rel w0 φ (killAll ds H) w' → ∃ v, (results fn tmps).run P w' = .ok v w' ∧ R (.returned v) w') → LeavesInM Fence.wide 0 P fn tmps R D .returning w
  | [], D, H, w, hm, hr, _, hf => by
    have e : D = [] := hm
    subst e
    exact hf w hr
  | b :: ds, D, H, w, hm, hr, hd, hf => by
    obtain ⟨l, D', h1, rfl, h2⟩ := hm
    simp only [allDefr, Bool.and_eq_true] at hd
    have hb := isDefr_ok hd.1.1
    obtain ⟨g1, g2⟩ := hr.blocks b _ l hb h1
    refine ⟨by simp, .inl ⟨l.blk, w.putObj l.blk (.deferred none), rfl, run_takeDeferred g2, ?_⟩⟩
    refine leavesM h2 (hr.upd (k' := .dead) hb rfl h1 rfl rfl rfl (by simp [World.putObj]) (fun j hj _ => World.putObj_heap_other hj) trivial) hd.2 hf
end

/-! ### Code, rounds and calls -/
noncomputable def evDrawI (P : Program) (call : CallF) (st : StF) (ops : Array Oper) (ar : Option Nat) (ds : List Nat) (m : Mode) (fr : List AV) (H : AH) (lo : Nat) : Option (List AV × AH × Nat) :=
  match m with
  | .dyn => if (fwdB ops && nodupD ops.toList) = true then evChainI st ops fr H lo else none
  | .chain _ _ => evChainI st ops fr H lo
  | .gen n => match ar, ds with | none, [] => evGenS P call ops n fr H lo | _, _ => none
def pendOf : AEx → Option Code
  | .normal => none
  | .exit id => some (.exit id)
  | .ret => some .ret
def exOf : Option Code → Option AEx
  | none => some .normal
  | some (.exit id) => some (.exit id)
  | some .ret => some .ret
  | _ => none
abbrev RecF := Option Nat → RM → Code → List AV → AH → Nat → List Nat → Option (AEx × List AV × AH × Nat × List Nat)
noncomputable def rndI (rec : RecF) : RndF := fun b fr as bd H =>
  match rec (some b) [] as fr H H.length [] with
  | some (.normal, fr1, H1, lo1, []) =>
    match H1[b]? with
    | some (.loop f0 ps a0 b0 .ready pd db) =>
      match rec (some b) [] bd fr1 (H1.set b (.loop f0 ps a0 b0 .busy pd db)) (min lo1 b) [] with
      | some (ex, _, H3, lo3, []) =>
        match H3[b]? with
        | some (.loop f3 ps3 a3 b3 _ _ db3) => some (.bool (pendOf ex).isNone, some (H3.set b (.loop f3 ps3 a3 b3 (if (pendOf ex).isNone = true then .ready else .done) (pendOf ex) db3), min lo3 b))
        | _ => none
      | _ => none
    | _ => none
  | _ => none
noncomputable def callI (E : Env) (V : VM) (rec : RecF) : CallF := fun f args H =>
  match E.orc f args H with
  | some r => some r
  | none =>
    match E.P.funcs[f]? with
    | none => none
    | some fn =>
      match fn.body with
      | none => none
      | some c =>
        match rec none (assoc [] V f) c (args ++ List.replicate (fn.ntmps - args.length) (.tuple [])) H H.length [] with
        | some (.exit _, _, _, _, _) => none
        | some (_, fr, H', lo, ds) =>
          if allDefr lo ds H' = true then
            match aresults E.P fr (killAll ds H') fn.results.toList with
            | some vs => if lo = H.length ∧ (oneOf vs).flat = true then some (oneOf vs, none) else some (oneOf vs, some (killAll ds H', lo))
            | none => none
          else none
        | none => none
def rfEnd (lb : Nat) (fr : List AV) (H2 : AH) (lo : Nat) (ds : List Nat) : Option (AEx × List AV × AH × Nat × List Nat) :=
  match H2[lb]? with
  | some (.loop f0 ps as bd st pd db) =>
    match st with
    | .busy => none
    | _ =>
      match exOf pd with
      | some ex => some (ex, fr, H2.set lb (.loop f0 ps as bd .exhausted pd db), lo, ds)
      | none => none
  | _ => none
def hasBody (P : Program) (f : FuncId) : Bool := match P.funcs[f]? with | some fn => fn.body.isSome | none => false
def dbOf (H : AH) (b : Nat) : Option Nat := match H[b]? with | some (.loop _ _ _ _ _ _ db) => some db | _ => none
def chH (H : AH) : Option (AH × Nat) → AH | none => H | some c => c.1
def chLo (H : AH) : Option (AH × Nat) → Nat | none => H.length | some c => c.2
noncomputable def rfI (P : Program) (call : CallF) (ar : Option Nat) (g : AV) (ps : Array Tmp) (as bd : Code) (fr : List AV) (H : AH) (lo : Nat) (ds : List Nat) : Option (AEx × List AV × AH × Nat × List Nat) :=
  match g with
  | .fn (.func gf) first cap =>
    if hasBody P gf = true then
      match ar with
      | none =>
        match call gf (first ++ [.yld (H.length + 1)] ++ cap) (H ++ [.defr] ++ [.loop fr ps as bd .ready none H.length]) with
        | some (_, ch) => rfEnd (H.length + 1) fr (chH (H ++ [.defr] ++ [.loop fr ps as bd .ready none H.length]) ch) (min lo (min (chLo (H ++ [.defr] ++ [.loop fr ps as bd .ready none H.length]) ch) H.length)) (H.length :: ds)
        | none => none
      | some b0 =>
        match dbOf H b0 with
        | some db =>
          match call gf (first ++ [.yld H.length] ++ cap) (H ++ [.loop fr ps as bd .ready none db]) with
          | some (_, ch) => rfEnd H.length fr (chH (H ++ [.loop fr ps as bd .ready none db]) ch) (min lo (min (chLo (H ++ [.loop fr ps as bd .ready none db]) ch) H.length)) ds
          | none => none
        | none => none
    else none
  | _ => none
noncomputable def evI (E : Env) (V : VM) : Nat → RecF
  | 0, _, _, _, _, _, _, _ => none
  | n + 1, ar, m, c, fr, H, lo, ds =>
    match c with
    | .skip => some (.normal, fr, H, lo, ds)
    | .label _ => some (.normal, fr, H, lo, ds)
    | .region _ ops false =>
      match evOpsI (opStep E.P (callI E V (evI E V n)) (rndI (evI E V n))) ops ops.toList fr H lo with
      | some (fr', H', lo') => some (.normal, fr', H', lo', ds)
      | none => none
    | .region id ops true =>
      match evDrawI E.P (callI E V (evI E V n)) (opStep E.P (callI E V (evI E V n)) (rndI (evI E V n))) ops ar ds (assoc .dyn m id) fr H lo with
      | some (fr', H', lo') => some (.normal, fr', H', lo', ds)
      | none => none
    | .seq a b =>
      match evI E V n ar m a fr H lo ds with
      | some (.normal, fr', H', lo', ds') => evI E V n ar m b fr' H' lo' ds'
      | r => r
    | .cond c x y =>
      match aeval fr c with
      | .bool true => evI E V n ar m x fr H lo ds
      | .bool false => evI E V n ar m y fr H lo ds
      | _ => none
    | .block id b =>
      match evI E V n ar m b fr H lo ds with
      | some (.exit i, fr', H', lo', ds') => if i = id then some (.normal, fr', H', lo', ds') else some (.exit i, fr', H', lo', ds')
      | r => r
    | .loop b =>
      match evI E V n ar m b fr H lo ds with
      | some (.normal, fr', H', lo', ds') => evI E V n ar m (.loop b) fr' H' lo' ds'
      | r => r
    | .exit id => some (.exit id, fr, H, lo, ds)
    | .scope b => evI E V n ar m b fr H lo ds
    | .ret => some (.ret, fr, H, lo, ds)
    | .rangeFunc g ps as bd => rfI E.P (callI E V (evI E V n)) ar (aeval fr g) ps as bd fr H lo ds
    | _ => none

/-! ### They do what they say -/
def ArR (φ : List Loc) : Option Nat → Option Nat → Prop
  | none, r0 => r0 = none
  | some b, r0 => ∃ l, φ[b]? = some l ∧ r0 = some l.blk
theorem ArR.mono {φ φ' : List Loc} (hx : Ext φ φ') {ar r0 : Option Nat} (h : ArR φ ar r0) : ArR φ' ar r0 := by
  cases ar with
  | none => exact h
  | some b => obtain ⟨l, h1, h2⟩ := h; exact ⟨l, hx.get h1, h2⟩
def RecOkI (P : Program) (rec : RecF) : Prop :=
  ∀ ar m c, goodC m c = true → ∀ fr H lo ds ex fr' H' lo' ds', rec ar m c fr H lo ds = some (ex, fr', H', lo', ds') → (lo' ≤ lo ∧ Keeps lo' H H') ∧
    ∀ (w0 : Base) (φ : List Loc) (w : World) (a : Act) (r0 : Option Nat) (Q : Exit → Act → World → Prop), ArR φ ar r0 → VRs φ fr a.tmps.toList → Marks φ ds a.defers → Rel w0 φ H w →
      (∀ φ' a' w', Ext φ φ' → VRs φ' fr' a'.tmps.toList → Marks φ' ds' a'.defers → Rel w0 φ' H' w' → Q ex.to a' w') → c.wpIn (wideR r0) 0 P Q a w
section
variable {E : Env} {V : VM} {rec : RecF}
theorem rndI_ok {P : Program} (hR : RecOkI P rec) : RndOk P (rndI rec) := by
  intro b fr as bd H v ch h
  unfold rndI at h
  split at h
  · rename_i fr1 H1 lo1 h1
    obtain ⟨⟨k1, k2⟩, w1⟩ := hR _ _ _ (goodC_nil as) _ _ _ _ _ _ _ _ _ h1
    split at h
    · rename_i f0 ps a0 b0 pd db hb
      split at h
      · rename_i ex fr2 H3 lo3 h3
        obtain ⟨⟨k3, k4⟩, w3⟩ := hR _ _ _ (goodC_nil bd) _ _ _ _ _ _ _ _ _ h3
        split at h
        · rename_i f3 ps3 a3 b3 st3 pd3 db3 hb3
          cases h
          refine ⟨fun w0 φ w l tm fn hr hl hf => ?_, fun H' lo hh => ?_⟩
          · refine roundIn_of_wpIn (F := Fence.wide) trivial ?_
            refine w1 w0 φ w { tmps := tm, defers := [] } (some l.blk) _ ⟨l, hl, rfl⟩ hf rfl hr fun φ1 a1 w1' hx1 hf1 hm1 hr1 => ?_
            have hl1 := hx1.get hl
            obtain ⟨tm1, ld1, fn1, e1, e2, e3, e4⟩ := hr1.putLoop hb hl1
            refine ⟨_, run_beginRound e3 rfl, ?_⟩
            refine w3 w0 φ1 _ a1 (some l.blk) _ ⟨l, hl1, rfl⟩ hf1 hm1 (e4 .busy pd) fun φ3 a3' w3' hx3 hf3 hm3 hr3 => ?_
            have hl3 := hx3.get hl1
            obtain ⟨tm3, ld3, fn3, g1, g2, g3, g4⟩ := hr3.putLoop hb3 hl3
            have hrun := fun j => run_endRound (P := P) (w := w3') j g3
            have fin : ∀ j : Option Code, j = pendOf ex → ∃ v w', (Instr.endRound l.blk j).run P w3' = .ok v w' ∧ CallPost w0 φ H (.bool (pendOf ex).isNone) (some (H3.set b (.loop f3 ps3 a3 b3 (if (pendOf ex).isNone = true then .ready else .done) (pendOf ex) db3), min lo3 b)) (.returned v) w' := by
              intro j hj
              subst hj
              exact ⟨_, _, hrun _, _, φ3, rfl, hx1.trans hx3, .bool _, g4 _ _⟩
            cases ex with
            | normal => exact fin none rfl
            | exit id => exact fin (some (.exit id)) rfl
            | ret => exact fin (some .ret) rfl
          · cases hh
            have q1 := (k2.mono (show min lo3 b ≤ lo1 by omega)).trans ((Keeps.set H1 b (.loop f0 ps a0 b0 .busy pd db)).mono (show min lo3 b ≤ b by omega))
            exact (q1.trans (k4.mono (by omega))).trans ((Keeps.set H3 b _).mono (by omega))
        · cases h
      · cases h
    · cases h
  · cases h
theorem callI_ok (hV : ∀ p ∈ V, goodF E.P p = true) (hO : CallOk E.P E.orc) (hR : RecOkI E.P rec) : CallOk E.P (callI E V rec) := by
  intro f args H v ch h
  unfold callI at h
  split at h
  · rename_i r ho
    cases h
    exact hO f args H v ch ho
  · split at h
    · cases h
    · rename_i fn hf
      split at h
      · cases h
      · rename_i c hb
        split at h
        · cases h
        · rename_i ex fr H' lo ds hne hrec
          obtain ⟨⟨hlo, hkeep⟩, hwp⟩ := hR _ _ _ (good_get hV hf hb) _ _ _ _ _ _ _ _ _ hrec
          split at h
          · rename_i hd
            have hkeep2 := hkeep.trans (killAll_keeps hd)
            split at h
            · rename_i vs hvs
              have hcall : ∀ (R : Base → List Loc → World → Ending → World → Prop),
                  (∀ w0 φ w u φ' w', Rel w0 φ H w → Ext φ φ' → VR φ' (oneOf vs) u → Rel w0 φ' (killAll ds H') w' → R w0 φ w (.returned u) w') →
                  ∀ w0 φ w us, Rel w0 φ H w → VRs φ args us.toList → Calls E.P f us w (R w0 φ w) := by
                intro R hRR w0 φ w us hr hargs
                refine (callsIn_wide (n := 0)).1 (callsIn_of_wp_marks hf hb trivial ?_)
                have hlen := hargs.length
                simp only [Array.length_toList] at hlen
                refine hwp w0 φ w _ none _ rfl ?_ rfl hr ?_
                · show VRs φ _ (us ++ Array.replicate (fn.ntmps - us.size) undef).toList
                  rw [Array.toList_append, Array.toList_replicate, hlen]
                  exact hargs.append (VRs.replicate _ (.tuple .nil))
                · intro φ' a' w' hx ha' hm' hr'
                  have hleave : LeavesInM Fence.wide 0 E.P fn a'.tmps (R w0 φ w) a'.defers .returning w' := by
                    refine leavesM hm' hr' hd fun w2 hr2 => ?_
                    obtain ⟨u, h1, h2⟩ := results_ok (P := E.P) hr2 ha' hvs
                    exact ⟨u, h2, hRR w0 φ w u φ' w2 hr hx h1 hr2⟩
                  cases ex with
                  | normal => exact hleave
                  | ret => exact hleave
                  | exit id => first | exact (hne _ rfl).elim | exact (hne _ _ rfl).elim
              split at h
              · rename_i hc
                obtain ⟨hc1, hc2⟩ := hc
                cases h
                refine ⟨?_, fun H'' lo'' hch => by cases hch⟩
                refine hcall (fun w0 φ w => CallPost w0 φ H (oneOf vs) none) ?_
                intro w0 φ w u φ' w' hr hx hv hr'
                subst hc1
                exact ⟨u, φ, rfl, Ext.refl _, VR.flat φ hc2 hv, rfl, hr.restrict hx hkeep2 hr'⟩
              · cases h
                refine ⟨?_, fun H'' lo'' hch => by cases hch; exact hkeep2⟩
                refine hcall (fun w0 φ w => CallPost w0 φ H (oneOf vs) (some (killAll ds H', lo))) ?_
                intro w0 φ w u φ' w' hr hx hv hr'
                exact ⟨u, φ', rfl, hx, hv, hr'⟩
            · cases h
          · cases h
        · cases h
end
end Go.Ve

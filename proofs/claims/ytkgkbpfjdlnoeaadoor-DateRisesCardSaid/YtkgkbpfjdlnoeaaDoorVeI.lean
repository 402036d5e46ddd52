/- Operations, lists of them and regions that draw their order, in a frame of a call or of a round: over the machine's fenced layer. -/
import Derived.Test.YtkgkbpfjdlnoeaaDoorVeG6
import Derived.RangeFuncRecord
import Derived.OrdersIn
import Derived.TacticsIn
import Derived.LoopNIn
namespace Go.Ve
open Go Go.RowKit

/-! ### Counting -/
def cntB (p : Nat → Bool) : Nat → Nat
  | 0 => 0
  | n + 1 => cntB p n + if p n = true then 1 else 0
theorem cntB_le {p q : Nat → Bool} : ∀ {n : Nat}, (∀ k, k < n → p k = true → q k = true) → cntB p n ≤ cntB q n
  | 0, _ => Nat.le_refl _
  | n + 1, h => by
    have ih := cntB_le (p := p) (q := q) (n := n) fun k hk => h k (by omega)
    have h1 := h n (by omega)
    rw [cntB, cntB]
    by_cases hp : p n = true
    · rw [if_pos hp, if_pos (h1 hp)]; omega
    · rw [if_neg hp]; omega
theorem cntB_congr {p q : Nat → Bool} : ∀ {n : Nat}, (∀ k, k < n → p k = q k) → cntB p n = cntB q n
  | 0, _ => rfl
  | n + 1, h => by rw [cntB, cntB, cntB_congr fun k hk => h k (by omega), h n (by omega)]
theorem cntB_ins {p q : Nat → Bool} {i : Nat} : ∀ {n : Nat}, i < n → (∀ k, k < n → k ≠ i → q k = p k) → p i = false → q i = true → cntB q n = cntB p n + 1
  | 0, h, _, _, _ => by omega
  | n + 1, h, h1, h2, h3 => by
    rw [cntB, cntB]
    by_cases hin : i = n
    · subst hin
      rw [cntB_congr (p := q) (q := p) fun k hk => h1 k (by omega) (by omega), h2, h3]
      simp
    · rw [cntB_ins (p := p) (q := q) (i := i) (n := n) (by omega) (fun k hk => h1 k (by omega)) h2 h3, h1 n (by omega) (by omega)]
      omega
theorem cntB_zero : ∀ n : Nat, cntB (fun _ => false) n = 0
  | 0 => rfl
  | n + 1 => by rw [cntB, cntB_zero n]; rfl

/-! ### Values, compared -/
def leafEqC : AV → AV → Bool
  | .bool a, .bool b => a == b
  | .int k a, .int k' b => decide (k = k') && decide (a = b)
  | .float k a, .float k' b => decide (k = k') && decide (a = b)
  | .str a, .str b => decide (a = b)
  | .nilptr, .nilptr => true
  | .ptr a b, .ptr c d => decide (a = c) && decide (b = d)
  | .gptr a b, .gptr c d => decide (a = c) && decide (b = d)
  | .nilsl, .nilsl => true
  | .sl a b c d e, .sl a' b' c' d' e' => decide (a = a') && decide (b = b') && decide (c = c') && decide (d = d') && (e == e')
  | .sle a b c, .sle a' b' c' => decide (a = a') && decide (b = b') && decide (c = c')
  | .nilmap, .nilmap => true
  | .map a, .map b => decide (a = b)
  | .yld a, .yld b => decide (a = b)
  | .nilfn, .nilfn => true
  | .fn (.func f) [] [], .fn (.func g) [] [] => decide (f = g)
  | .niliface, .niliface => true
  | _, _ => false
theorem leafEqC_ok {a b : AV} (h : leafEqC a b = true) : a = b := by
  unfold leafEqC at h
  split at h <;> simp_all
def leafsEqC : List AV → List AV → Bool
  | [], [] => true
  | a :: as, b :: bs => leafEqC a b && leafsEqC as bs
  | _, _ => false
theorem leafsEqC_ok : ∀ {a b : List AV}, leafsEqC a b = true → a = b
  | [], [], _ => rfl
  | a :: as, b :: bs, h => by
    simp only [leafsEqC, Bool.and_eq_true] at h
    rw [leafEqC_ok h.1, leafsEqC_ok h.2]
  | [], _ :: _, h => by simp [leafsEqC] at h
  | _ :: _, [], h => by simp [leafsEqC] at h
def valEqC : AV → AV → Bool
  | .agg a, .agg b => leafsEqC a b
  | .tuple a, .tuple b => leafsEqC a b
  | a, b => leafEqC a b
theorem valEqC_ok {a b : AV} (h : valEqC a b = true) : a = b := by
  unfold valEqC at h
  split at h
  · rw [leafsEqC_ok h]
  · rw [leafsEqC_ok h]
  · exact leafEqC_ok h

/-! ### One operation -/
/-- A fence that lets everything in; r: the round that the frame is of. -/
def wideR (r : Option Nat) : Fence := { Fence.wide with round := r }
abbrev RndF := Nat → List AV → Code → Code → AH → Option (AV × Option (AH × Nat))
def RndOk (P : Program) (rnd : RndF) : Prop :=
  ∀ b fr as bd H v ch, rnd b fr as bd H = some (v, ch) →
    (∀ w0 φ w l (tm : Array Value) fn, Rel w0 φ H w → φ[b]? = some l → VRs φ fr tm.toList → RoundIn Fence.wide 0 P l.blk fn tm as bd w (CallPost w0 φ H v ch)) ∧
    (∀ H' lo, ch = some (H', lo) → Keeps lo H H')
abbrev StF := Oper → (Operand → AV) → AH → Option (AV × Option (AH × Nat))
noncomputable def opStep (P : Program) (call : CallF) (rnd : RndF) : StF := fun o ρ H =>
  match aop P o ρ H with
  | none => none
  | some (.val v ch) => some (v, ch)
  | some (.call f args) => call f args H
  | some (.round b fr as bd) => rnd b fr as bd H
def StOk (P : Program) (r : Option Nat) (st : StF) : Prop :=
  ∀ o ρ H v ch, st o ρ H = some (v, ch) →
    (∀ (w0 : Base) (φ : List Loc) (w : World) (a : Act) (K : Act → World → Prop) (Q : Exit → Act → World → Prop), Rel w0 φ H w → (∀ x, VR φ (ρ x) (a.eval x)) →
      (∀ u w' φ', Ext φ φ' → VR φ' v u → ChC w0 φ H φ' w' ch → K (a.put o.dst u) w') → o.wpIn (wideR r) 0 P a w K Q) ∧
    (∀ H' lo, ch = some (H', lo) → Keeps lo H H')
theorem aop_semAt {P : Program} {o : Oper} {ρa : Operand → AV} {H : AH} {r : AO} (h : aop P o ρa H = some r) (rd : Option Nat) (ρ : Operand → Value) : o.semAt rd ρ = execOp ρ o := by
  cases rd with
  | none => rfl
  | some l =>
    unfold Oper.semAt
    unfold aop at h
    cases ho : o.op <;> rw [ho] at h <;> first | rfl | (cases h; done)
theorem opStep_ok {P : Program} {r : Option Nat} {call : CallF} {rnd : RndF} (hP : P.funcs.all (fun fn => !(fn.name == "runtime.NumGoroutine")) = true) (hC : CallOk P call) (hR : RndOk P rnd) : StOk P r (opStep P call rnd) := by
  intro o ρ H v ch h
  unfold opStep at h
  split at h
  · cases h
  · rename_i v' ch' hop
    cases h
    refine ⟨fun w0 φ w a K Q hr hρ hK => ⟨fun _ _ => trivial, ?_⟩, fun H' lo hh => by subst hh; exact aop_keeps hop⟩
    rw [aop_semAt hop]
    obtain ⟨n, u, w', φ', h1, h2, h3, h4, h5⟩ := aop_ok (P := P) hP hr hop hρ
    rw [h1]
    have hch : ChC w0 φ H φ' w' ch := by
      cases ch with
      | none => obtain ⟨rfl, rfl⟩ := h5; exact ⟨rfl, hr⟩
      | some q => exact h5.1
    rcases h2 with rfl | ⟨rfl, rfl⟩
    · exact hK _ _ φ' h3 h4 hch
    · exact hK _ _ φ' h3 h4 hch
  · rename_i f args hop
    refine ⟨fun w0 φ w a K Q hr hρ hK => ⟨fun _ _ => trivial, ?_⟩, fun H' lo hh => (hC _ _ _ _ _ h).2 _ _ hh⟩
    rw [aop_semAt hop]
    obtain ⟨us, h1, h2⟩ := aop_ok (P := P) hP hr hop hρ
    rw [h1]
    rw [Oper.uponIn_enter]
    refine ⟨fun hd => by simp [wideR, Fence.wide] at hd, ?_⟩
    have := (callsIn_wide (n := 0)).2 ((hC _ _ _ _ _ h).1 w0 φ w us hr h2)
    refine CallsIn.mono (F := Fence.wide) this ?_
    rintro e w' ⟨u, φ', rfl, h3, h4, h5⟩
    exact hK u w' φ' h3 h4 h5
  · rename_i b fr as bd hop
    obtain ⟨hr1, hr2⟩ := hR _ _ _ _ _ _ _ h
    refine ⟨fun w0 φ w a K Q hr hρ hK => ⟨fun _ _ => trivial, ?_⟩, hr2⟩
    rw [aop_semAt hop]
    obtain ⟨l, tm, fn, h1, h2, h3⟩ := aop_ok (P := P) hP hr hop hρ
    rw [h2]
    rw [Oper.uponIn_round]
    refine ⟨fun hd => by simp [wideR, Fence.wide] at hd, ?_⟩
    refine RoundIn.mono (F := Fence.wide) (hr1 w0 φ w l tm fn hr h1 h3) ?_
    rintro e w' ⟨u, φ', rfl, h4, h5, h6⟩
    exact hK u w' φ' h4 h5 h6

/-! ### A list of operations -/
noncomputable def evOpsI (st : StF) (ops : Array Oper) : List Oper → List AV → AH → Nat → Option (List AV × AH × Nat)
  | [], fr, H, lo => some (fr, H, lo)
  | o :: r, fr, H, lo =>
    match awanted ops o fr with
    | none => none
    | some false => evOpsI st ops r (aput fr o.dst (.tuple [])) H lo
    | some true =>
      match st o (aeval fr) H with
      | none => none
      | some (v, none) => evOpsI st ops r (aput fr o.dst v) H lo
      | some (v, some (H', wr)) => evOpsI st ops r (aput fr o.dst v) H' (min lo wr)
theorem evOpsI_keeps {P : Program} {r0 : Option Nat} {st : StF} (hS : StOk P r0 st) {ops : Array Oper} : ∀ (l : List Oper) {fr fr' : List AV} {H H' : AH} {lo lo' : Nat}, evOpsI st ops l fr H lo = some (fr', H', lo') → lo' ≤ lo ∧ Keeps lo' H H' := by
  intro l
  induction l with
  | nil => intro fr fr' H H' lo lo' h; simp only [evOpsI] at h; cases h; exact ⟨Nat.le_refl _, Keeps.refl _ _⟩
  | cons o r ih =>
    intro fr fr' H H' lo lo' h
    simp only [evOpsI] at h
    split at h
    · cases h
    · exact ih h
    · split at h
      · cases h
      · exact ih h
      · rename_i v H1 wr hst
        obtain ⟨h1, h2⟩ := ih h
        exact ⟨by omega, (((hS _ _ _ _ _ hst).2 _ _ rfl).mono (by omega)).trans h2⟩
theorem evOpsI_ok {P : Program} {r0 : Option Nat} {st : StF} (hS : StOk P r0 st) {w0 : Base} {D : List Deferred} {ops : Array Oper} {Q : Exit → Act → World → Prop} : ∀ (l : List Oper) {fr fr' : List AV} {H H' : AH} {lo lo' : Nat} {φ : List Loc} {a : Act} {w : World},
    evOpsI st ops l fr H lo = some (fr', H', lo') → VRs φ fr a.tmps.toList → a.defers = D → Rel w0 φ H w →
    (∀ φ' a' w', Ext φ φ' → VRs φ' fr' a'.tmps.toList → a'.defers = D → Rel w0 φ' H' w' → Q .normal a' w') → wpListIn (wideR r0) 0 P ops Q l a w := by
  intro l
  induction l with
  | nil =>
    intro fr fr' H H' lo lo' φ a w h ha hd hr hQ
    simp only [evOpsI] at h
    cases h
    exact hQ φ a w (Ext.refl _) ha hd hr
  | cons o r ih =>
    intro fr fr' H H' lo lo' φ a w h ha hd hr hQ
    have hput : ∀ u, (a.put o.dst u).defers = D := fun u => by cases o.dst <;> exact hd
    simp only [evOpsI] at h
    simp only [wpListIn]
    split at h
    · cases h
    · rename_i hw
      rw [awanted_ok hw ha]
      simp only [Bool.false_eq_true, if_false]
      exact ⟨fun _ _ => trivial, ih h (aput_ok ha o.dst (.tuple .nil)) (hput _) hr hQ⟩
    · rename_i hw
      rw [awanted_ok hw ha]
      simp only [if_true]
      split at h
      · cases h
      · rename_i v hst
        refine (hS _ _ _ _ _ hst).1 w0 φ w a _ Q hr (aeval_ok ha) fun u w' φ' h3 h4 h5 => ?_
        obtain ⟨rfl, h6⟩ := h5
        exact ih h (aput_ok ha o.dst h4) (hput _) h6 hQ
      · rename_i v H1 wr hst
        refine (hS _ _ _ _ _ hst).1 w0 φ w a _ Q hr (aeval_ok ha) fun u w' φ' h3 h4 h5 => ?_
        exact ih h (aput_ok (ha.mono h3) o.dst h4) (hput _) h5 fun φ2 a2 w2 x => hQ φ2 a2 w2 (h3.trans x)

/-! ### The evaluation -/
noncomputable def cStepI (st : StF) (ops : Array Oper) (bs : List Nat) (i : Nat) (o : Oper) (fr : List AV) (H : AH) : Option (AV × Option (AH × Nat)) :=
  match gwant ops ops.toList bs i o fr with
  | none => none
  | some false => some (.tuple [], none)
  | some true =>
    st o (gρ ops.toList bs i fr) H
/-- In the text's order: the values; which operations change memory; the memories; the least block changed. -/
noncomputable def cLexI (st : StF) (ops : Array Oper) (bs : List Nat) : Nat → List Oper → List AV → AH → Nat → Option (List Rec × List Bool × List AH × Nat)
  | _, [], _, _, lo => some ([], [], [], lo)
  | i, o :: r, fr, H, lo =>
    match cStepI st ops bs i o fr H with
    | none => none
    | some (v, none) =>
      match cLexI st ops bs (i + 1) r (aput fr o.dst v) H lo with
      | some (rs, es, Hs, lo') => some (⟨v, none⟩ :: rs, false :: es, Hs, lo')
      | none => none
    | some (v, some (H', wr)) =>
      match cLexI st ops bs (i + 1) r (aput fr o.dst v) H' (min lo wr) with
      | some (rs, es, Hs, lo') => some (⟨v, none⟩ :: rs, true :: es, H' :: Hs, lo')
      | none => none
def cntT (es : List Bool) (j : Nat) : Nat := cntB (fun k => es.getD k false) j
theorem cntT_cons (e : Bool) (es : List Bool) (j : Nat) : cntT (e :: es) (j + 1) = (if e = true then 1 else 0) + cntT es j := by
  unfold cntT
  induction j with
  | zero => simp [cntB]
  | succ j ih =>
    rw [cntB, ih, cntB]
    simp only [List.getD_cons_succ]
    omega
theorem cLexI_ok {st : StF} {ops : Array Oper} {bs : List Nat} : ∀ (rest : List Oper) (i : Nat) (fr : List AV) (H : AH) (lo : Nat) (rs : List Rec) (es : List Bool) (Hs : List AH) (lo' : Nat), cLexI st ops bs i rest fr H lo = some (rs, es, Hs, lo') →
    rs.length = rest.length ∧ es.length = rest.length ∧ Hs.length = cntT es rest.length ∧ ∀ (j : Nat) (o : Oper), rest[j]? = some o → ∃ r, rs[j]? = some r ∧ ∃ Hj, (H :: Hs)[cntT es j]? = some Hj ∧
      (es.getD j false = false → cStepI st ops bs (i + j) o (foldD allD 0 ((updZ rest rs).take j) fr) Hj = some (r.v, none)) ∧
      (es.getD j false = true → ∃ H' wr, (H :: Hs)[cntT es j + 1]? = some H' ∧ cStepI st ops bs (i + j) o (foldD allD 0 ((updZ rest rs).take j) fr) Hj = some (r.v, some (H', wr)))
  | [], i, fr, H, lo, rs, es, Hs, lo', h => by
    simp only [cLexI] at h
    cases h
    exact ⟨rfl, rfl, rfl, fun j o h => by simp at h⟩
  | o :: rest, i, fr, H, lo, rs, es, Hs, lo', h => by
    have e1 : ∀ (v : AV) (rs : List Rec) (j : Nat), foldD allD 0 ((updZ (o :: rest) (⟨v, none⟩ :: rs)).take (j + 1)) fr = foldD allD 0 ((updZ rest rs).take j) (aput fr o.dst v) := by
      intro v rs j
      simp only [updZ, List.zip_cons_cons, List.map_cons, List.take_succ_cons]
      cases hd : o.dst with
      | none => rw [Option.map_none, foldD, foldD_shift]; rfl
      | some s => rw [Option.map_some, foldD, foldD_shift]; rfl
    simp only [cLexI] at h
    split at h
    · cases h
    · rename_i v hst
      split at h
      · rename_i rs1 es1 Hs1 lo1 hl
        cases h
        obtain ⟨h1, h2, h3, h4⟩ := cLexI_ok rest _ _ _ _ _ _ _ _ hl
        refine ⟨by simp [h1], by simp [h2], ?_, fun j o' hj => ?_⟩
        · rw [List.length_cons, cntT_cons]; simpa using h3
        · cases j with
          | zero =>
            simp at hj
            subst hj
            exact ⟨⟨v, none⟩, rfl, H, rfl, fun _ => by simpa [foldD] using hst, fun h => by simp at h⟩
          | succ j =>
            obtain ⟨r, g1, Hj, g2, g3, g4⟩ := h4 j o' (by simpa using hj)
            have ec : cntT (false :: es1) (j + 1) = cntT es1 j := by rw [cntT_cons]; simp
            refine ⟨r, by simpa using g1, Hj, by rw [ec]; exact g2, ?_, ?_⟩
            · rw [e1, show i + (j + 1) = i + 1 + j by omega, List.getD_cons_succ]; exact g3
            · rw [e1, show i + (j + 1) = i + 1 + j by omega, List.getD_cons_succ, ec]; exact g4
      · cases h
    · rename_i v H' wr hst
      split at h
      · rename_i rs1 es1 Hs1 lo1 hl
        cases h
        obtain ⟨h1, h2, h3, h4⟩ := cLexI_ok rest _ _ _ _ _ _ _ _ hl
        refine ⟨by simp [h1], by simp [h2], ?_, fun j o' hj => ?_⟩
        · rw [List.length_cons, List.length_cons, cntT_cons]; simp [h3]; omega
        · cases j with
          | zero =>
            simp at hj
            subst hj
            exact ⟨⟨v, none⟩, rfl, H, rfl, fun h => by simp at h, fun _ => ⟨H', wr, rfl, by simpa [foldD] using hst⟩⟩
          | succ j =>
            obtain ⟨r, g1, Hj, g2, g3, g4⟩ := h4 j o' (by simpa using hj)
            have ec : cntT (true :: es1) (j + 1) = cntT es1 j + 1 := by rw [cntT_cons]; simp; omega
            refine ⟨r, by simpa using g1, Hj, by rw [ec]; simpa using g2, ?_, ?_⟩
            · rw [e1, show i + (j + 1) = i + 1 + j by omega, List.getD_cons_succ]; exact g3
            · rw [e1, show i + (j + 1) = i + 1 + j by omega, List.getD_cons_succ, ec]
              intro he
              obtain ⟨H2, wr2, g5, g6⟩ := g4 he
              exact ⟨H2, wr2, by simpa using g5, g6⟩
      · cases h
theorem cLexI_keeps {P : Program} {r0 : Option Nat} {st : StF} (hS : StOk P r0 st) {ops : Array Oper} {bs : List Nat} : ∀ (rest : List Oper) (i : Nat) (fr : List AV) (H : AH) (lo : Nat) (rs : List Rec) (es : List Bool) (Hs : List AH) (lo' : Nat), cLexI st ops bs i rest fr H lo = some (rs, es, Hs, lo') →
    lo' ≤ lo ∧ ∀ He, (H :: Hs)[Hs.length]? = some He → Keeps lo' H He
  | [], i, fr, H, lo, rs, es, Hs, lo', h => by
    simp only [cLexI] at h
    cases h
    exact ⟨Nat.le_refl _, fun He h => by simp at h; subst h; exact Keeps.refl _ _⟩
  | o :: rest, i, fr, H, lo, rs, es, Hs, lo', h => by
    simp only [cLexI] at h
    split at h
    · cases h
    · split at h
      · rename_i hl
        cases h
        exact cLexI_keeps hS rest _ _ _ _ _ _ _ _ hl
      · cases h
    · rename_i v H' wr hst
      have hk : Keeps wr H H' := by
        unfold cStepI at hst
        split at hst
        · cases hst
        · cases hst
        · exact (hS _ _ _ _ _ hst).2 _ _ rfl
      split at h
      · rename_i rs1 es1 Hs1 lo1 hl
        cases h
        obtain ⟨h1, h2⟩ := cLexI_keeps hS rest _ _ _ _ _ _ _ _ hl
        refine ⟨by omega, fun He hHe => ?_⟩
        rw [List.length_cons, List.getElem?_cons_succ] at hHe
        exact (hk.mono (by omega)).trans (h2 He hHe)
      · cases h

def lowC (bs : List Nat) (es : List Bool) (n i : Nat) : Nat := cntB (fun k => es.getD k false && decide (k < i) && !unord bs i k) n
def hiC (bs : List Nat) (es : List Bool) (n i : Nat) : Nat := cntB (fun k => es.getD k false && (decide (k < i) || unord bs i k)) n
def calm (bs : List Nat) (es : List Bool) (i : Nat) : Nat → Bool
  | 0 => true
  | n + 1 => !(es.getD n false && unord bs i n) && calm bs es i n
theorem calm_ok {bs : List Nat} {es : List Bool} {i : Nat} : ∀ {n : Nat}, calm bs es i n = true → ∀ k, k < n → es.getD k false = true → unord bs i k = false
  | 0, _, k, hk, _ => by omega
  | n + 1, h, k, hk, he => by
    simp only [calm, Bool.and_eq_true] at h
    by_cases hkn : k = n
    · subst hkn
      have := h.1
      rw [he] at this
      simpa using this
    · exact calm_ok h.2 k (by omega) he
/-- What reads no memory. -/
def freeOp : Op → Bool
  | .alloc _ => false
  | op => pureOp op
theorem freeOp_pure {op : Op} (h : freeOp op = true) : pureOp op = true ∧ ∀ e, op ≠ .alloc e := by
  cases op <;> first | exact ⟨h, fun e he => by cases he⟩ | (simp [freeOp] at h; done)
def StFree (st : StF) : Prop := ∀ (o : Oper) (ρ : Operand → AV) (H H2 : AH) (v : AV), freeOp o.op = true → st o ρ H = some (v, none) → st o ρ H2 = some (v, none)
theorem opStep_free {P : Program} {call : CallF} {rnd : RndF} : StFree (opStep P call rnd) := by
  intro o ρ H H2 v hf h
  obtain ⟨hp, ha⟩ := freeOp_pure hf
  have hval : ∀ r, aop P o ρ H = some r → ∃ v ch, r = .val v ch := by
    intro r hc
    unfold aop at hc
    cases ho : o.op <;> rw [ho] at hc hp <;> first | (simp [pureOp] at hp; done) | skip
    all_goals (simp only at hc)
    all_goals first | (cases hc; exact ⟨_, _, rfl⟩) | ((repeat' split at hc) <;> first | (cases hc; done) | (cases hc; exact ⟨_, _, rfl⟩) | (simp only [Option.map_eq_some_iff] at hc; obtain ⟨_, _, rfl⟩ := hc; exact ⟨_, _, rfl⟩))
  unfold opStep at h ⊢
  split at h
  · cases h
  · rename_i v' ch hop
    cases h
    rw [aop_pure hp ha hop]
  · rename_i f args hop
    obtain ⟨_, _, e⟩ := hval _ hop
    cases e
  · rename_i b fr as bd hop
    obtain ⟨_, _, e⟩ := hval _ hop
    cases e
theorem cStepI_free {st : StF} (hF : StFree st) {ops : Array Oper} {bs : List Nat} {i : Nat} {o : Oper} {fr : List AV} {H H2 : AH} {v : AV} (hf : freeOp o.op = true) (h : cStepI st ops bs i o fr H = some (v, none)) : cStepI st ops bs i o fr H2 = some (v, none) := by
  unfold cStepI at h ⊢
  split at h
  · cases h
  · exact h
  · exact hF _ _ _ _ _ hf h

noncomputable def cSameI (st : StF) (ops : Array Oper) (bs : List Nat) (i : Nat) (o : Oper) (fr : List AV) (v : AV) (Hs : List AH) (k : Nat) : Nat → Bool
  | 0 => true
  | m + 1 => (match Hs[k + m]? with
    | some Hk => (match cStepI st ops bs i o fr Hk with | some (v', none) => valEqC v' v | _ => false)
    | none => false) && cSameI st ops bs i o fr v Hs k m
theorem cSameI_ok {st : StF} {ops : Array Oper} {bs : List Nat} {i : Nat} {o : Oper} {fr : List AV} {v : AV} {Hs : List AH} {k : Nat} : ∀ {m : Nat}, cSameI st ops bs i o fr v Hs k m = true → ∀ j, j < m → ∃ Hk, Hs[k + j]? = some Hk ∧ cStepI st ops bs i o fr Hk = some (v, none)
  | 0, _, j, hj => by omega
  | m + 1, h, j, hj => by
    simp only [cSameI, Bool.and_eq_true] at h
    by_cases hjm : j = m
    · subst hjm
      have h1 := h.1
      split at h1
      · rename_i Hk hk
        split at h1
        · rename_i v' hst
          exact ⟨Hk, hk, by rw [hst, valEqC_ok h1]⟩
        · cases h1
      · cases h1
    · exact cSameI_ok h.2 j (by omega)
noncomputable def cChkI (st : StF) (ops : Array Oper) (bs : List Nat) (es : List Bool) (Hs : List AH) (n : Nat) : Nat → List Oper → List Rec → List AV → Bool
  | _, [], _, _ => true
  | _, _ :: _, [], _ => false
  | i, o :: r, rc :: rs, fr =>
    (if (calm bs es i n || (freeOp o.op && !(es.getD i false))) = true then true else !(es.getD i false) && cSameI st ops bs i o fr rc.v Hs (lowC bs es n i) (hiC bs es n i + 1 - lowC bs es n i)) &&
    cChkI st ops bs es Hs n (i + 1) r rs (aput fr o.dst rc.v)
theorem cChkI_ok {st : StF} {ops : Array Oper} {bs : List Nat} {es : List Bool} {Hs : List AH} {n : Nat} : ∀ (rest : List Oper) (i : Nat) (rs : List Rec) (fr : List AV), cChkI st ops bs es Hs n i rest rs fr = true →
    ∀ (j : Nat) (o : Oper) (rc : Rec), rest[j]? = some o → rs[j]? = some rc → (calm bs es (i + j) n = true ∨ (freeOp o.op = true ∧ es.getD (i + j) false = false)) ∨
      (es.getD (i + j) false = false ∧ ∀ k, lowC bs es n (i + j) ≤ k → k ≤ hiC bs es n (i + j) → ∃ Hk, Hs[k]? = some Hk ∧ cStepI st ops bs (i + j) o (foldD allD 0 ((updZ rest rs).take j) fr) Hk = some (rc.v, none))
  | [], _, _, _, _, j, o, rc, h, _ => by simp at h
  | _ :: _, _, [], _, _, j, o, rc, _, h => by simp at h
  | o :: rest, i, rc :: rs, fr, h, j, o', rc', hj, hr => by
    simp only [cChkI, Bool.and_eq_true] at h
    cases j with
    | zero =>
      simp at hj hr
      subst hj; subst hr
      have h1 := h.1
      split at h1
      · rename_i hc
        rw [Bool.or_eq_true, Bool.and_eq_true] at hc
        exact .inl (hc.imp id fun h => ⟨h.1, by simpa using h.2⟩)
      · rw [Bool.and_eq_true] at h1
        refine .inr ⟨by simpa using h1.1, fun k hk1 hk2 => ?_⟩
        simp only [Nat.add_zero] at hk1 hk2 ⊢
        obtain ⟨Hk, g1, g2⟩ := cSameI_ok h1.2 (k - lowC bs es n i) (by omega)
        rw [show lowC bs es n i + (k - lowC bs es n i) = k by omega] at g1
        exact ⟨Hk, g1, by simpa [foldD] using g2⟩
    | succ j =>
      have ih := cChkI_ok rest (i + 1) rs _ h.2 j o' rc' (by simpa using hj) (by simpa using hr)
      have e1 : foldD allD 0 ((updZ (o :: rest) (rc :: rs)).take (j + 1)) fr = foldD allD 0 ((updZ rest rs).take j) (aput fr o.dst rc.v) := by
        simp only [updZ, List.zip_cons_cons, List.map_cons, List.take_succ_cons]
        cases hd : o.dst with
        | none => rw [Option.map_none, foldD, foldD_shift]; rfl
        | some s => rw [Option.map_some, foldD, foldD_shift]; rfl
      rw [e1, show i + (j + 1) = i + 1 + j by omega]
      exact ih

/-! ### Whatever the order -/
structure Chn (st : StF) (ops : Array Oper) (fr0 : List AV) (recs : List Rec) (es : List Bool) (Hs : List AH) : Prop where
  fwd : fwdB ops = true
  nd : nodupD ops.toList = true
  len : recs.length = ops.size
  step : ∀ (j : Nat) (o : Oper), ops[j]? = some o → ∃ r, recs[j]? = some r ∧ ∀ k, lowC (bsOf ops) es ops.size j ≤ k → k ≤ hiC (bsOf ops) es ops.size j → ∃ Hk, Hs[k]? = some Hk ∧
    (es.getD j false = false → cStepI st ops (bsOf ops) j o (foldD allD 0 ((updZ ops.toList recs).take j) fr0) Hk = some (r.v, none)) ∧
    (es.getD j false = true → ∃ H' wr, Hs[k + 1]? = some H' ∧ cStepI st ops (bsOf ops) j o (foldD allD 0 ((updZ ops.toList recs).take j) fr0) Hk = some (r.v, some (H', wr)))
def frC (ops : Array Oper) (recs : List Rec) (fr0 : List AV) (D : Nat → Bool) : List AV := foldD D 0 (updZ ops.toList recs) fr0
def cntD (es : List Bool) (d : Array Bool) (n : Nat) : Nat := cntB (fun k => es.getD k false && Dof d k) n
structure CInv (ops : Array Oper) (D : List Deferred) (fr0 : List AV) (recs : List Rec) (es : List Bool) (Hs : List AH) (w0 : Base) (φ0 : List Loc) (d : Array Bool) (a : Act) (w : World) : Prop where
  head : HeadInv .any ops ops.size d
  defers : a.defers = D
  rest : ∃ φ Hc, Ext φ0 φ ∧ Hs[cntD es d ops.size]? = some Hc ∧ Rel w0 φ Hc w ∧ VRs φ (frC ops recs fr0 (Dof d)) a.tmps.toList

section
variable {P : Program} {r0 : Option Nat} {st : StF} {ops : Array Oper} {D : List Deferred} {fr0 : List AV} {recs : List Rec} {es : List Bool} {Hs : List AH} {w0 : Base} {φ0 : List Loc} {Q : Exit → Act → World → Prop}
theorem Chn.mis (g : Chn st ops fr0 recs es Hs) {d : Array Bool} (inv : HeadInv .any ops ops.size d) {i k : Nat} (hr : i ∈ Region.ready .any ops d) (hk : k < ops.size) (hne : Dof d k ≠ decide (k < i)) : i = k ∨ unord (bsOf ops) i k = true := by
  obtain ⟨hun, oi, hoi, hall⟩ := mem_ready.1 hr
  have hif : d.getD i false = false := getD_both hun
  have hok : ops[k]? = some ops[k] := Array.getElem?_eq_getElem hk
  by_cases hlt : k < i
  · right
    rw [decide_eq_true hlt] at hne
    have hkf : d.getD k false = false := by simpa [Dof] using hne
    refine unord_of (by omega) ?_ ?_
    · cases h : ((bsOf ops).getD i 0).testBit k with
      | false => rfl
      | true => rw [bs_closed g.fwd inv.closed i hoi hall h] at hkf; cases hkf
    · cases h : ((bsOf ops).getD k 0).testBit i with
      | false => rfl
      | true => have := bs_lt g.fwd k hok h; omega
  · rw [decide_eq_false hlt] at hne
    have hkt : d.getD k false = true := by simpa [Dof] using hne
    have hik : i ≠ k := fun e => by subst e; rw [hif] at hkt; cases hkt
    right
    refine unord_of hik ?_ ?_
    · cases h : ((bsOf ops).getD i 0).testBit k with
      | false => rfl
      | true => have := bs_lt g.fwd i hoi h; omega
    · cases h : ((bsOf ops).getD k 0).testBit i with
      | false => rfl
      | true => rw [bs_closed g.fwd inv.closed k hok (inv.closed k _ hok hkt) h] at hif; cases hif
theorem Chn.slot (g : Chn st ops fr0 recs es Hs) {d : Array Bool} (inv : HeadInv .any ops ops.size d) {i : Nat} (hr : i ∈ Region.ready .any ops d) {s : Tmp} (hs : hidB (bsOf ops) i s 0 ops.toList = false) :
    (frC ops recs fr0 (Dof d))[s]? = (foldD allD 0 ((updZ ops.toList recs).take i) fr0)[s]? := by
  rw [lt_lex, frC]
  refine foldD_get _ 0 _ _ (fun j u hu hub => ?_) rfl rfl
  rw [Nat.zero_add]
  obtain ⟨o, r, h1, h2, h3, _⟩ := updZ_inv hu
  have hjn : j < ops.size := by rw [← g.len]; exact lt_of_some h2
  refine Decidable.byContradiction fun hne => ?_
  rcases g.mis inv hr hjn hne with e | hu
  · subst e
    have : Dof d i = false := getD_both (mem_ready.1 hr).1
    rw [this] at hne
    simp at hne
  · exact hidB_ok hs j o h1 (by rwa [Nat.zero_add]) (by rw [h3, hub])
theorem Chn.frame (g : Chn st ops fr0 recs es Hs) {d : Array Bool} (inv : HeadInv .any ops ops.size d) {i : Nat} (hr : i ∈ Region.ready .any ops d) {o : Oper} {rc : Rec} (ho : ops.toList[i]? = some o) (hrc : recs[i]? = some rc) :
    frC ops recs fr0 (Dof (d.setIfInBounds i true)) = aput (frC ops recs fr0 (Dof d)) o.dst rc.v := by
  have hun := (mem_ready.1 hr).1
  have hi : i < ops.size := by have := lt_of_some ho; simpa using this
  have hu := updZ_get ho hrc
  cases hd : o.dst with
  | none =>
    rw [hd] at hu
    exact foldD_skip hu fun j hj => Dof_set hj
  | some s =>
    rw [hd] at hu
    refine foldD_insert (b := s) (x := rc.v) _ 0 i _ hu ?_ ?_ ?_ ?_
    · rw [Nat.zero_add]; exact Dof_self (by rw [inv.size]; exact hi)
    · rw [Nat.zero_add]; exact getD_both hun
    · intro j hj; exact Dof_set (by omega)
    · intro j u hj hu' _ he
      obtain ⟨o', r', h1, h2, h3, _⟩ := updZ_inv hu'
      exact nodupD_ok g.nd (show i ≠ j by omega) ho h1 hd (by rw [h3, he])
theorem Chn.low (g : Chn st ops fr0 recs es Hs) {d : Array Bool} (inv : HeadInv .any ops ops.size d) {i : Nat} (hr : i ∈ Region.ready .any ops d) : lowC (bsOf ops) es ops.size i ≤ cntD es d ops.size := by
  refine cntB_le fun k hk h => ?_
  simp only [Bool.and_eq_true, Bool.not_eq_true', decide_eq_true_eq] at h ⊢
  refine ⟨h.1.1, ?_⟩
  refine Decidable.byContradiction fun hne => ?_
  rcases g.mis inv hr hk (by rw [decide_eq_true h.1.2]; exact hne) with e | hu
  · omega
  · rw [h.2] at hu; cases hu
theorem Chn.hi (g : Chn st ops fr0 recs es Hs) {d : Array Bool} (inv : HeadInv .any ops ops.size d) {i : Nat} (hr : i ∈ Region.ready .any ops d) : cntD es d ops.size ≤ hiC (bsOf ops) es ops.size i := by
  refine cntB_le fun k hk h => ?_
  simp only [Bool.and_eq_true, Bool.or_eq_true, decide_eq_true_eq] at h ⊢
  refine ⟨h.1, ?_⟩
  by_cases hlt : k < i
  · exact .inl hlt
  · right
    rcases g.mis inv hr hk (by rw [decide_eq_false hlt, h.2]; simp) with e | hu
    · subst e
      have : Dof d i = false := getD_both (mem_ready.1 hr).1
      rw [this] at h
      simp at h
    · exact hu

theorem Chn.next (g : Chn st ops fr0 recs es Hs) (hS : StOk P r0 st) {d : Array Bool} {a : Act} {w : World} (inv : CInv ops D fr0 recs es Hs w0 φ0 d a w) {i : Nat} (hr : i ∈ Region.ready .any ops d) {K : Act → World → Prop}
    (hK : ∀ a' w', CInv ops D fr0 recs es Hs w0 φ0 (d.setIfInBounds i true) a' w' → K a' w') : wpOpIn (wideR r0) 0 P ops Q i K a w := by
  obtain ⟨hun, o, hoi, _⟩ := mem_ready.1 hr
  have hi : i < ops.size := (Array.getElem?_eq_some_iff.1 hoi).1
  have ho : ops.toList[i]? = some o := by simpa using hoi
  obtain ⟨rc, hrc, hst0⟩ := g.step i o hoi
  obtain ⟨hinv, hdef, φ, Hc, hφ, hHc, hrel, hfr⟩ := inv
  obtain ⟨Hk, hHk, hst1, hst2⟩ := hst0 _ (g.low hinv hr) (g.hi hinv hr)
  rw [hHc] at hHk
  cases hHk
  have hslot := fun {s : Tmp} (hs : hidB (bsOf ops) i s 0 ops.toList = false) => g.slot hinv hr hs
  have hframe := g.frame hinv hr ho hrc
  have hput : ∀ u, (a.put o.dst u).defers = D := fun u => by cases o.dst <;> exact hdef
  have hDi : Dof d i = false := getD_both hun
  have hDi' : Dof (d.setIfInBounds i true) i = true := Dof_self (by rw [hinv.size]; exact hi)
  have hst : ∃ ch, cStepI st ops (bsOf ops) i o (foldD allD 0 ((updZ ops.toList recs).take i) fr0) Hc = some (rc.v, ch) ∧ ∀ φ' w', ChC w0 φ Hc φ' w' ch → ∃ Hc', Hs[cntD es (d.setIfInBounds i true) ops.size]? = some Hc' ∧ Rel w0 φ' Hc' w' := by
    cases he : es.getD i false with
    | false =>
      refine ⟨none, hst1 he, fun φ' w' hch => ?_⟩
      obtain ⟨rfl, h2⟩ := hch
      have e : cntD es (d.setIfInBounds i true) ops.size = cntD es d ops.size := cntB_congr fun k _ => by
        by_cases hki : k = i
        · subst hki; rw [he]; rfl
        · rw [Dof_set hki]
      exact ⟨Hc, by rw [e]; exact hHc, h2⟩
    | true =>
      obtain ⟨H', wr, h1, h2⟩ := hst2 he
      refine ⟨some (H', wr), h2, fun φ' w' hch => ?_⟩
      have e : cntD es (d.setIfInBounds i true) ops.size = cntD es d ops.size + 1 := cntB_ins hi (fun k _ hki => by rw [Dof_set hki]) (by rw [hDi, Bool.and_false]) (by rw [hDi', he]; rfl)
      exact ⟨H', by rw [e]; exact h1, hch⟩
  obtain ⟨ch, hst, hnext⟩ := hst
  have fin : ∀ (u : Value) (w' : World) (φ' : List Loc), Ext φ φ' → ChC w0 φ Hc φ' w' ch → VR φ' rc.v u → K (a.put o.dst u) w' := by
    intro u w' φ' h1 h2 h3
    obtain ⟨Hc', h4, h5⟩ := hnext φ' w' h2
    exact hK _ _ ⟨hinv.set hr hi, hput u, φ', Hc', hφ.trans h1, h4, h5, by rw [hframe]; exact aput_ok (hfr.mono h1) o.dst h3⟩
  unfold wpOpIn
  simp only [hoi]
  unfold cStepI at hst
  split at hst
  · cases hst
  · rename_i hw
    rw [awanted_ok (gwant_ok hw fun s hs => hslot hs) hfr]
    simp only [Bool.false_eq_true, if_false]
    have e0 := Option.some.inj hst
    have e1 : rc.v = .tuple [] := (congrArg Prod.fst e0).symm
    have e2 : ch = none := (congrArg Prod.snd e0).symm
    exact ⟨fun _ _ => trivial, fin undef w φ (Ext.refl _) (by subst e2; exact ⟨rfl, hrel⟩) (by rw [e1]; exact .tuple .nil)⟩
  · rename_i hw
    rw [awanted_ok (gwant_ok hw fun s hs => hslot hs) hfr]
    simp only [if_true]
    have hρ : ∀ x, VR φ (gρ ops.toList (bsOf ops) i (foldD allD 0 ((updZ ops.toList recs).take i) fr0) x) (a.eval x) := by
      intro x
      cases x with
      | tmp s =>
        unfold gρ
        by_cases hh : hidB (bsOf ops) i s 0 ops.toList = true
        · simp only [hh, if_true]; exact .bad _
        · simp only [hh]
          have := aeval_ok hfr (.tmp s)
          simp only [aeval, List.getD_eq_getElem?_getD, hslot (by simpa using hh)] at this
          simpa [aeval, List.getD_eq_getElem?_getD] using this
      | const c => exact aeval_ok hfr (.const c)
      | global c => exact aeval_ok hfr (.global c)
      | func c => exact aeval_ok hfr (.func c)
    exact (hS _ _ _ _ _ hst).1 w0 φ w a _ Q hrel hρ fun u w' φ' h3 h4 h5 => fin u w' φ' h3 h5 h4
theorem Chn.run (g : Chn st ops fr0 recs es Hs) (hS : StOk P r0 st)
    (hQ : ∀ φ Hc a w, Ext φ0 φ → Hs[cntT es ops.size]? = some Hc → VRs φ (frC ops recs fr0 allD) a.tmps.toList → a.defers = D → Rel w0 φ Hc w → Q .normal a w) :
    ∀ (f : Nat) (d : Array Bool) (a : Act) (w : World), cnt d ops.size = f → CInv ops D fr0 recs es Hs w0 φ0 d a w → wpAnyIn (wideR r0) 0 P .any ops Q f d a w := by
  intro f
  induction f with
  | zero =>
    intro d a w hc inv
    have hall := cnt_zero hc
    obtain ⟨hinv, hdef, φ, Hc, hφ, hHc, hrel, hfr⟩ := inv
    have e1 : frC ops recs fr0 (Dof d) = frC ops recs fr0 allD := by
      apply List.ext_getElem?
      intro b
      refine foldD_get _ 0 _ _ (fun j u hu _ => ?_) rfl rfl
      rw [Nat.zero_add]
      obtain ⟨o, r, h1, h2, _, _⟩ := updZ_inv hu
      exact hall j (by rw [← g.len]; exact lt_of_some h2)
    have e2 : cntD es d ops.size = cntT es ops.size := cntB_congr fun k hk => by
      have := hall k hk
      unfold Dof
      rw [this, Bool.and_true]
    rw [e1] at hfr
    rw [e2] at hHc
    have hfin := hQ φ Hc a w hφ hHc hfr hdef hrel
    refine ⟨?_, hfin⟩
    apply List.eq_nil_iff_forall_not_mem.2
    intro j hj
    obtain ⟨h1, o, h2, _⟩ := mem_ready.1 hj
    have hj' := (Array.getElem?_eq_some_iff.1 h2).1
    have := hall j hj'
    rw [getD_both h1] at this
    cases this
  | succ f ih =>
    intro d a w hc inv
    obtain ⟨k, hkn, hkf, hkb⟩ := cnt_pos (d := d) (n := ops.size) (by omega)
    have hok : ops[k]? = some ops[k] := Array.getElem?_eq_getElem hkn
    have hsz := inv.head.size
    have hks : k < d.size := by rw [hsz]; exact hkn
    have hkr : k ∈ Region.ready .any ops d := mem_ready.2 ⟨getD_in hks hkf, _, hok, fun e he hb => hkb e.on (fwdB_ok g.fwd hok e he hb)⟩
    refine ⟨fun h0 => (by rw [h0] at hkr; cases hkr), fun i hi => ?_⟩
    have hin : i < ops.size := by
      obtain ⟨_, o, h2, _⟩ := mem_ready.1 hi
      exact (Array.getElem?_eq_some_iff.1 h2).1
    refine g.next hS inv hi fun a' w' inv' => ih _ a' w' ?_ inv'
    have := cnt_set (d := d) (by rw [hsz]; exact hin) (getD_both (mem_ready.1 hi).1) hin
    omega
end

noncomputable def evChainI (st : StF) (ops : Array Oper) (fr : List AV) (H : AH) (lo : Nat) : Option (List AV × AH × Nat) :=
  match cLexI st ops (bsOf ops) 0 ops.toList fr H lo with
  | none => none
  | some (recs, es, Hs, lo') =>
    if cChkI st ops (bsOf ops) es (H :: Hs) ops.size 0 ops.toList recs fr = true then
      match (H :: Hs)[Hs.length]? with
      | some He => some (frC ops recs fr allD, He, lo')
      | none => none
    else none
section
variable {st : StF} {ops : Array Oper}
theorem evChainI_split (hF : StFree st) {fr : List AV} {H : AH} {lo : Nat} {fr' : List AV} {H' : AH} {lo' : Nat} (hf : fwdB ops = true) (hn : nodupD ops.toList = true) (h : evChainI st ops fr H lo = some (fr', H', lo')) :
    ∃ recs es Hs, cLexI st ops (bsOf ops) 0 ops.toList fr H lo = some (recs, es, Hs, lo') ∧ Chn st ops fr recs es (H :: Hs) ∧ (H :: Hs)[Hs.length]? = some H' ∧ Hs.length = cntT es ops.size ∧ fr' = frC ops recs fr allD := by
  unfold evChainI at h
  split at h
  · cases h
  · rename_i recs es Hs lo1 hl
    split at h
    · rename_i hk
      split at h
      · rename_i He hHe
        cases h
        obtain ⟨h1, h2, h3, h4⟩ := cLexI_ok _ _ _ _ _ _ _ _ _ hl
        simp only [Array.length_toList] at h1 h2 h3
        refine ⟨recs, es, Hs, hl, ⟨hf, hn, h1, fun j o hj => ?_⟩, hHe, h3, rfl⟩
        obtain ⟨r, g1, Hj, g2, g3, g4⟩ := h4 j o (by simpa using hj)
        rw [Nat.zero_add] at g3 g4
        have hjn := (Array.getElem?_eq_some_iff.1 hj).1
        refine ⟨r, g1, fun k hk1 hk2 => ?_⟩
        have := cChkI_ok _ _ _ _ hk j o r (by simpa using hj) g1
        rw [Nat.zero_add] at this
        rcases this with (hc | ⟨hc, he⟩) | ⟨he, hs⟩
        · have e1 : lowC (bsOf ops) es ops.size j = cntT es j := by
            have key : ∀ n, j ≤ n → n ≤ ops.size → cntB (fun k => es.getD k false && decide (k < j) && !unord (bsOf ops) j k) n = cntB (fun k => es.getD k false) j := by
              intro n
              induction n with
              | zero => intro hjn _; obtain rfl : j = 0 := by omega
                        rfl
              | succ n ih =>
                intro hjn hns
                by_cases hjn' : j = n + 1
                · subst hjn'
                  refine cntB_congr fun k hk => ?_
                  rw [decide_eq_true hk, Bool.and_true]
                  cases hek : es.getD k false with
                  | false => rfl
                  | true => rw [calm_ok hc k (by omega) hek]; rfl
                · rw [cntB, ih (by omega) (by omega), decide_eq_false (by omega)]
                  simp
            exact key ops.size (by omega) (Nat.le_refl _)
          have e2 : hiC (bsOf ops) es ops.size j = lowC (bsOf ops) es ops.size j := by
            refine cntB_congr fun k hk => ?_
            cases hek : es.getD k false with
            | false => rfl
            | true => rw [calm_ok hc k hk hek]; simp
          have ek : k = cntT es j := by omega
          subst ek
          exact ⟨Hj, g2, g3, g4⟩
        · have hle : hiC (bsOf ops) es ops.size j ≤ cntT es ops.size := cntB_le fun k _ h => by
            simp only [Bool.and_eq_true] at h
            exact h.1
          have hk3 : k < (H :: Hs).length := by rw [List.length_cons, h3]; omega
          exact ⟨_, List.getElem?_eq_getElem hk3, fun _ => cStepI_free hF hc (g3 he), fun h => by rw [he] at h; cases h⟩
        · obtain ⟨Hk, q1, q2⟩ := hs k hk1 hk2
          exact ⟨Hk, q1, fun _ => q2, fun h => by rw [he] at h; cases h⟩
      · cases h
    · cases h
theorem evChainI_keeps {P : Program} {r0 : Option Nat} (hS : StOk P r0 st) (hF : StFree st) (hf : fwdB ops = true) (hn : nodupD ops.toList = true) {fr : List AV} {H : AH} {lo : Nat} {fr' : List AV} {H' : AH} {lo' : Nat} (h : evChainI st ops fr H lo = some (fr', H', lo')) : lo' ≤ lo ∧ Keeps lo' H H' := by
  obtain ⟨recs, es, Hs, hl, _, hH, _, _⟩ := evChainI_split hF hf hn h
  obtain ⟨h1, h2⟩ := cLexI_keeps hS _ _ _ _ _ _ _ _ _ hl
  exact ⟨h1, h2 _ hH⟩
theorem evChainI_ok {P : Program} {r0 : Option Nat} {D : List Deferred} (hm : P.follows .mixedOrders = true) (hS : StOk P r0 st) (hF : StFree st) (hf : fwdB ops = true) (hn : nodupD ops.toList = true) {id : Nat} {Q : Exit → Act → World → Prop} {fr fr' : List AV} {H H' : AH} {lo lo' : Nat} {w0 : Base} {φ : List Loc} {a : Act} {w : World}
    (h : evChainI st ops fr H lo = some (fr', H', lo')) (ha : VRs φ fr a.tmps.toList) (hd : a.defers = D) (hr : Rel w0 φ H w)
    (hQ : ∀ φ' a' w', Ext φ φ' → VRs φ' fr' a'.tmps.toList → a'.defers = D → Rel w0 φ' H' w' → Q .normal a' w') : (Code.region id ops true).wpIn (wideR r0) 0 P Q a w := by
  obtain ⟨recs, es, Hs, hl, g, hH, hlen, rfl⟩ := evChainI_split hF hf hn h
  refine wpIn_region_any hm ?_
  have hcnt : cnt (Array.replicate ops.size false) ops.size = ops.size := by
    have : ∀ m, cnt (Array.replicate ops.size false) m = m := by
      intro m
      induction m with
      | zero => rfl
      | succ m ih => rw [cnt, ih, getD_replicate_false]; simp
    exact this _
  have e3 : ∀ {α : Type} (us : List (Option (Nat × α))) (k : Nat) (l : List α), foldD (Dof (Array.replicate ops.size false)) k us l = l := by
    intro α us
    induction us with
    | nil => intro _ _; rfl
    | cons u us ih =>
      intro k l
      cases u with
      | none => exact ih _ _
      | some u =>
        rw [foldD, show Dof (Array.replicate ops.size false) k = false from getD_replicate_false _ _]
        exact ih _ _
  have e4 : cntD es (Array.replicate ops.size false) ops.size = 0 := by
    rw [← cntB_zero ops.size]
    refine cntB_congr fun k _ => ?_
    rw [show Dof (Array.replicate ops.size false) k = false from getD_replicate_false _ _, Bool.and_false]
  have inv0 : CInv ops D fr recs es (H :: Hs) w0 φ (Array.replicate ops.size false) a { w with drawn := w.drawn + 1 } := by
    refine ⟨⟨by simp, fun j oj _ hl => (by rw [getD_replicate_false] at hl; cases hl), fun t h1 ht => by omega⟩, hd, φ, H, Ext.refl _, by rw [e4]; rfl, hr.drew, ?_⟩
    rw [frC, e3]; exact ha
  have key := g.run (Q := Q) (D := D) hS (fun φ1 Hc a1 w1 hφ1 hHc ha1 hd1 hr1 => by
    rw [← hlen, hH] at hHc
    cases hHc
    exact hQ φ1 a1 w1 hφ1 ha1 hd1 hr1) _ _ a _ hcnt inv0
  exact key
end
end Go.Ve


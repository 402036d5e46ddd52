/- The evaluator's operations, continued: operators, conversions, indexes, slices, literals. -/
import Derived.Test.YtkgkbpfjdlnoeaaDoorVe2
import Derived.Test.YtkgkbpfjdlnoeaaDoorVeN
namespace Go.Ve
open Go Go.RowKit

section
variable {P : Program} {w0 : Base} {w : World} {φ : List Loc} {H : AH}

/-! ### Operators -/
theorem toList_mk (s : List UInt8) : (⟨⟨s⟩⟩ : ByteArray).toList = s := by rw [ByteArray.toList_eq]
theorem size_mk (s : List UInt8) : (⟨⟨s⟩⟩ : ByteArray).size = s.length := rfl

def astrOp (op : BinOp) (a b : List UInt8) : Option AV :=
  match op with
  | .add => if a.length + b.length ≤ maxLen then some (.str (a ++ b)) else none
  | .eql => some (.bool (a == b))
  | .neq => some (.bool !(a == b))
  | .lss => some (.bool (Op.bytesLess a b))
  | .leq => some (.bool (Op.bytesLess a b || a == b))
  | .gtr => some (.bool !(Op.bytesLess a b || a == b))
  | .geq => some (.bool !(Op.bytesLess a b))
  | _ => none
theorem maxLen_i64 : (maxLen : Int) ≤ IntKind.i64.max := by decide
theorem astrOp_ok {op : BinOp} {t : TypeId} {a b : List UInt8} {v : AV} (h : astrOp op a b = some v) :
    ∃ u, VR φ v u ∧ (binOp op t (.string ⟨⟨a⟩⟩) (.string ⟨⟨b⟩⟩)).run P w = .ok u w := by
  have e : ∀ op, binOp op t (.string ⟨⟨a⟩⟩) (.string ⟨⟨b⟩⟩) = Op.stringOp op ⟨⟨a⟩⟩ ⟨⟨b⟩⟩ := fun op => by cases op <;> rfl
  rw [e]
  cases op <;> simp only [astrOp] at h <;> try cases h
  · split at h
    · rename_i hl
      cases h
      refine ⟨_, .str _, ?_⟩
      have h2 : ¬ (((a.length + b.length : Nat) : Int) > IntKind.i64.max) := by have := maxLen_i64; omega
      simp only [Op.stringOp, size_mk]
      rw [if_neg h2]
      rfl
    · cases h
  all_goals
    refine ⟨_, .bool _, ?_⟩
    simp only [Op.stringOp, toList_mk]; rfl

/-- Which kind of reference it is, and whether it is nil. -/
def anil : AV → Option (Nat × Bool)
  | .nilptr => some (0, true)
  | .ptr _ _ => some (0, false)
  | .gptr _ _ => some (0, false)
  | .nilsl => some (1, true)
  | .sl .. => some (1, false)
  | .sle .. => some (1, false)
  | .slz => some (1, false)
  | .nilmap => some (2, true)
  | .map _ => some (2, false)
  | .nilfn => some (3, true)
  | .fn .. => some (3, false)
  | .niliface => some (4, true)
  | .iface .. => some (4, false)
  | _ => none
def kindOf : TypeDesc → Option Nat
  | .pointer _ => some 0
  | .slice _ => some 1
  | .map _ _ => some 2
  | .func _ _ _ => some 3
  | .interface _ => some 4
  | _ => none
def isConstO : Operand → Bool
  | .const _ => true
  | _ => false
def aeqNil (P : Program) (t : TypeId) (xo yo : Operand) (x y : AV) : Option Bool :=
  match anil x, anil y, (P.underlying t).bind kindOf with
  | some (k, a), some (k', b), some k'' =>
    if k = k' ∧ k = k'' ∧ (a || b) = true ∧ (k = 4 → a = true → b = true → (isConstO xo || isConstO yo) = true) then some (a && b) else none
  | _, _, _ => none

theorem aeqNil_ok {t : TypeId} {xo yo : Operand} {x y : AV} {xu yu : Value} {r : Bool} (h : aeqNil P t xo yo x y = some r) (hx : VR φ x xu) (hy : VR φ y yu) (op : BinOp) (hop : op = .eql ∨ op = .neq) :
    ((do eqGuard op t xo yo xu yu; binOp op t xu yu : Sem Value)).run P w = .ok (.bool (if op = .eql then r else !r)) w := by
  unfold aeqNil at h
  split at h
  · rename_i k a k' b k'' h1 h2 h3
    split at h
    · rename_i hc
      obtain ⟨rfl, rfl, hab, hif⟩ := hc
      cases h
      cases hu : P.underlying t with
      | none => simp [hu] at h3
      | some d =>
        simp only [hu, Option.bind_some] at h3
        have hg : (eqGuard op t xo yo xu yu).run P w = .ok () w := by
          cases hx <;> simp [anil] at h1 <;> obtain ⟨rfl, rfl⟩ := h1 <;> cases hy <;> simp [anil] at h2 <;> rcases hop with rfl | rfl <;> simp only [eqGuard] <;>
            first
              | rfl
              | (subst h2
                 have := hif rfl rfl rfl
                 cases xo <;> cases yo <;> simp [isConstO] at this <;> rfl)
        have hb : (Op.equal t xu yu).run P w = .ok (a && b) w := by
          show (Op.equalIn (9999 + 1) t xu yu).run P w = .ok (a && b) w
          generalize 9999 = D
          cases hx <;> simp [anil] at h1 <;> obtain ⟨rfl, rfl⟩ := h1 <;> cases hy <;> simp [anil] at h2 <;> try subst h2
          all_goals first
            | (simp at hab; done)
            | (cases d <;> simp [kindOf] at h3
               unfold Op.equalIn; rw [Sem.run_bind, run_underlying hu]; first | rfl | (cases a <;> rfl) | (cases b <;> rfl))
        have hbin : (binOp op t xu yu).run P w = .ok (.bool (if op = .eql then (a && b) else !(a && b))) w := by
          cases hx <;> simp [anil] at h1 <;> obtain ⟨rfl, rfl⟩ := h1 <;> cases hy <;> simp [anil] at h2 <;> rcases hop with rfl | rfl <;> simp only [binOp, Sem.run_bind, hb] <;> rfl
        simp only [Sem.run_bind, hg, Result.andThen_ok, hbin]
    · cases h
  · cases h

def abinOp (P : Program) (op : BinOp) (t : TypeId) (xo yo : Operand) (x y : AV) : Option AV :=
  match x, y with
  | .str a, .str b => astrOp op a b
  | .nan k, .float k' _ => if k = k' then (nanCmp op).map .bool else none
  | .float k _, .nan k' => if k = k' then (nanCmp op).map .bool else none
  | .nan k, .nan k' => if k = k' then (nanCmp op).map .bool else none
  | x, y =>
    match x.sc, y.sc with
    | some a, some b => (pureRun P (do eqGuard op t xo yo a b; binOp op t a b : Sem Value)).map ofV1
    | _, _ =>
      match op with
      | .eql => (aeqNil P t xo yo x y).map .bool
      | .neq => (aeqNil P t xo yo x y).map fun b => .bool !b
      | _ => none
theorem nanBin_ok {op : BinOp} {t : TypeId} {xo yo : Operand} {k k' : FloatKind} {a b : Nat} {v : AV} (h : (if k = k' then (nanCmp op).map AV.bool else none) = some v) (hn : k = k' → k.format.order a b = none) :
    ∃ u, VR φ v u ∧ ((do eqGuard op t xo yo (.float k a) (.float k' b); binOp op t (.float k a) (.float k' b) : Sem Value)).run P w = .ok u w := by
  split at h
  · rename_i hk
    subst hk
    cases hc : nanCmp op with
    | none => rw [hc] at h; cases h
    | some r =>
      rw [hc] at h
      cases h
      refine ⟨.bool r, .bool r, ?_⟩
      have hg : (eqGuard op t xo yo (.float k a) (.float k b)).run P w = .ok () w := by
        unfold eqGuard
        cases op <;> rfl
      have h1 := nanCmp_ok (P := P) (w := w) hc (hn rfl)
      simp only [Sem.run_bind, hg, Result.andThen_ok]
      unfold binOp
      cases op <;> simp [nanCmp] at hc <;> simpa using h1
  · cases h
theorem abinOp_ok {op : BinOp} {t : TypeId} {xo yo : Operand} {x y v : AV} {xu yu : Value} (h : abinOp P op t xo yo x y = some v) (hx : VR φ x xu) (hy : VR φ y yu) :
    ∃ u, VR φ v u ∧ ((do eqGuard op t xo yo xu yu; binOp op t xu yu : Sem Value)).run P w = .ok u w := by
  unfold abinOp at h
  split at h
  · rename_i a b
    cases hx; cases hy
    obtain ⟨u, h1, h2⟩ := astrOp_ok (P := P) (w := w) (t := t) (φ := φ) h
    refine ⟨u, h1, ?_⟩
    have hg : (eqGuard op t xo yo (.string ⟨⟨a⟩⟩) (.string ⟨⟨b⟩⟩)).run P w = .ok () w := by
      unfold eqGuard
      cases op <;> rfl
    simp only [Sem.run_bind, hg, Result.andThen_ok, h2]
  · rename_i k k' b
    cases hx with
    | nan hn =>
      cases hy
      exact nanBin_ok h fun _ => nan_order_l hn
  · rename_i k a k'
    cases hx
    cases hy with
    | nan hn => exact nanBin_ok h fun e => by subst e; exact nan_order_r hn
  · rename_i k k'
    cases hx with
    | nan hn =>
      cases hy
      exact nanBin_ok h fun _ => nan_order_l hn
  · split at h
    · rename_i a b ha hb
      cases hr : pureRun P (do eqGuard op t xo yo a b; binOp op t a b : Sem Value) with
      | none => rw [hr] at h; cases h
      | some u =>
        rw [hr] at h
        cases h
        rw [sc_ok ha hx, sc_ok hb hy]
        exact ⟨u, ofV1_ok φ u, pureRun_ok w hr⟩
    · split at h
      · cases hr : aeqNil P t xo yo x y with
        | none => rw [hr] at h; cases h
        | some r => rw [hr] at h; cases h; exact ⟨_, .bool r, aeqNil_ok hr hx hy .eql (.inl rfl)⟩
      · cases hr : aeqNil P t xo yo x y with
        | none => rw [hr] at h; cases h
        | some r => rw [hr] at h; cases h; exact ⟨_, .bool (!r), aeqNil_ok hr hx hy .neq (.inr rfl)⟩
      · cases h

/-- Arithmetic whose answer is no number: which one is drawn. -/
def afl : AV → Option (Option Nat)
  | .float .f64 n => some (some n)
  | .nan .f64 => some none
  | _ => none
def ananOp (op : BinOp) (x y : AV) : Option AV :=
  match afl x, afl y with
  | some (some a), some (some b) => if farith op a b = some none then some (.nan .f64) else none
  | some none, some _ => if (farith op 0 0).isSome then some (.nan .f64) else none
  | some _, some none => if (farith op 0 0).isSome then some (.nan .f64) else none
  | _, _ => none
theorem ananOp_ok {op : BinOp} {t : TypeId} {xo yo : Operand} {x y v : AV} {xu yu : Value} (h : ananOp op x y = some v) (hx : VR φ x xu) (hy : VR φ y yu) :
    ∃ u, VR φ v u ∧ ((do eqGuard op t xo yo xu yu; binOp op t xu yu : Sem Value)).run P w = .ok u { w with drawn := w.drawn + 1 } := by
  have key : ∀ a b, farith op a b = some none → v = .nan .f64 → ∃ u, VR φ v u ∧ ((do eqGuard op t xo yo (.float .f64 a) (.float .f64 b); binOp op t (.float .f64 a) (.float .f64 b) : Sem Value)).run P w = .ok u { w with drawn := w.drawn + 1 } := fun a b hf hv => by
    subst hv
    obtain ⟨r, h1, h2⟩ := farith_nan (P := P) (w := w) hf
    refine ⟨_, .nan h1, ?_⟩
    have hg : (eqGuard op t xo yo (.float .f64 a) (.float .f64 b)).run P w = .ok () w := by
      unfold eqGuard
      cases op <;> rfl
    simp only [Sem.run_bind, hg, Result.andThen_ok]
    unfold binOp
    cases op <;> simp [farith] at hf <;> simpa using h2
  have flt : ∀ {x : AV} {xu : Value} {o : Option Nat}, VR φ x xu → afl x = some o → ∃ n, xu = .float .f64 n ∧ (∀ a, o = some a → n = a) ∧ (o = none → NaNF .f64 n) := fun {x xu o} hv ha => by
    cases hv with
    | float k n =>
      cases k <;> simp [afl] at ha
      subst ha
      exact ⟨n, rfl, fun a e => by cases e; rfl, fun e => by cases e⟩
    | nan hn =>
      rename_i k n
      cases k <;> simp [afl] at ha
      subst ha
      exact ⟨n, rfl, fun a e => (by cases e), fun _ => hn⟩
    | _ => simp [afl] at ha
  unfold ananOp at h
  split at h
  · rename_i a b ha hb
    obtain ⟨n, rfl, e1, _⟩ := flt hx ha
    obtain ⟨m, rfl, e2, _⟩ := flt hy hb
    have e1 := e1 a rfl
    have e2 := e2 b rfl
    subst e1; subst e2
    split at h
    · rename_i hf; cases h; exact key _ _ hf rfl
    · cases h
  · rename_i o ha hb
    obtain ⟨n, rfl, _, e1⟩ := flt hx ha
    obtain ⟨m, rfl, _, _⟩ := flt hy hb
    split at h
    · rename_i hf; cases h; exact key _ _ (farith_l (e1 rfl) hf) rfl
    · cases h
  · rename_i o hb _ ha
    obtain ⟨n, rfl, _, _⟩ := flt hx (by assumption)
    obtain ⟨m, rfl, _, e1⟩ := flt hy (by assumption)
    split at h
    · rename_i hf; cases h; exact key _ _ (farith_r (e1 rfl) hf) rfl
    · cases h
  · cases h

/-! ### Indexes -/
def aindexAt (P : Program) (t : TypeId) (x i : AV) : Option AV :=
  match i with
  | .int _ n =>
    match P.underlying t, x with
    | some (.slice e), .sl b off len _ _ =>
      match P.info? e with
      | some inf => if 0 ≤ n ∧ n < (len : Int) then some (.ptr b (off + n.toNat * inf.size)) else none
      | none => none
    | some (.array len e), .ptr b off =>
      match P.info? e with
      | some inf => if 0 ≤ n ∧ n < (len : Int) then some (.ptr b (off + n.toNat * inf.size)) else none
      | none => none
    | some (.array len e), .gptr g off =>
      match P.info? e with
      | some inf => if 0 ≤ n ∧ n < (len : Int) then some (.gptr g (off + n.toNat * inf.size)) else none
      | none => none
    | _, _ => none
  | _ => none
theorem gptr_add {φ : List Loc} (g off n : Nat) : VR φ (.gptr g (off + n)) (.pointer (some ((⟨g, off, none⟩ : Addr).add n))) := by
  rw [add_mk]; exact .gptr g (off + n)
theorem ptr_add {l : Loc} {b off n : Nat} (hl : φ[b]? = some l) : VR φ (.ptr b (off + n)) (.pointer (some ((⟨l.blk, l.sh + off, none⟩ : Addr).add n))) := by
  rw [add_mk, Nat.add_assoc]; exact .ptr hl
theorem aindexAt_ok {t : TypeId} {x i v : AV} {xu iu : Value} (h : aindexAt P t x i = some v) (hx : VR φ x xu) (hi : VR φ i iu) :
    ∃ u, VR φ v u ∧ (Instr.indexAt t xu iu).run P w = .ok u w := by
  unfold aindexAt at h
  split at h
  · cases hi
    rename_i k n
    split at h
    · rename_i e b off len cap ex hu
      split at h
      · rename_i inf hinf
        split at h
        · rename_i hc
          cases h
          cases hx with
          | sl hl =>
            refine ⟨_, ptr_add hl, ?_⟩
            simp [Instr.indexAt, asIntOf, underlying, hu, hc, sizeOf, typeInfo, hinf]
        · cases h
      · cases h
    · rename_i len e b off hu
      split at h
      · rename_i inf hinf
        split at h
        · rename_i hc
          cases h
          cases hx with
          | ptr hl =>
            refine ⟨_, ptr_add hl, ?_⟩
            simp [Instr.indexAt, asIntOf, underlying, hu, hc, sizeOf, typeInfo, hinf, Instr.sureAddr]
        · cases h
      · cases h
    · rename_i len e g off hu
      split at h
      · rename_i inf hinf
        split at h
        · rename_i hc
          cases h
          cases hx with
          | gptr =>
            refine ⟨_, gptr_add _ _ _, ?_⟩
            simp [Instr.indexAt, asIntOf, underlying, hu, hc, sizeOf, typeInfo, hinf, Instr.sureAddr]
        · cases h
      · cases h
    · cases h
  · cases h

/-- A part of a struct or an array. -/
def apart (P : Program) (t : TypeId) (cs : List AV) (off : Nat) : Option AV :=
  match isAggP P t with
  | some true =>
    match P.info? t with
    | some i => some (.agg ((cs.drop off).take i.size))
    | none => none
  | some false => cs[off]?
  | none => none
theorem apart_ok {t : TypeId} {cs : List AV} {us : Array Value} {off : Nat} {v : AV} (h : apart P t cs off = some v) (hc : VRs φ cs us.toList) :
    ∃ u, VR φ v u ∧ (part t us off).run P w = .ok u w := by
  unfold apart at h
  split at h
  · rename_i hg
    split at h
    · rename_i i hi
      cases h
      refine ⟨.agg (us.extract off (off + i.size)), .agg ?_, ?_⟩
      · have e : (us.extract off (off + i.size)).toList = (us.toList.drop off).take i.size := by
          simp [Array.toList_extract, List.extract]
        rw [e]
        exact (hc.drop off).take i.size
      · simp [part, isAgg_ok hg, sizeOf, typeInfo, hi]
    · cases h
  · rename_i hg
    obtain ⟨u, h1, h2⟩ := hc.get h
    refine ⟨u, h2, ?_⟩
    have h3 : us[off]? = some u := by simpa using h1
    simp [part, isAgg_ok hg, h3]
  · cases h
def afield (P : Program) (t : TypeId) (x : AV) (f : Nat) : Option AV :=
  match P.underlying t, x with
  | some (.struct fs), .agg cs =>
    match fs[f]? with
    | some fd => apart P fd.type cs fd.offset
    | none => none
  | _, _ => none
theorem afield_ok {t : TypeId} {x v : AV} {xu : Value} {f : Nat} (h : afield P t x f = some v) (hx : VR φ x xu) : ∃ u, VR φ v u ∧ (Instr.field t xu f).run P w = .ok u w := by
  unfold afield at h
  split at h
  · rename_i fs cs hu
    split at h
    · rename_i fd hf
      cases hx with
      | agg hc =>
        obtain ⟨u, h1, h2⟩ := apart_ok (P := P) (w := w) h hc
        exact ⟨u, h1, by simp [Instr.field, underlying, hu, hf, asAgg, h2]⟩
    · cases h
  · cases h
def afieldAt (P : Program) (s : TypeId) (x : AV) (f : Nat) : Option AV :=
  match P.underlying s with
  | some (.struct fs) =>
    match fs[f]? with
    | some fd =>
      match P.info? fd.type, x with
      | some i, .ptr b off => if i.size = 0 then none else some (.ptr b (off + fd.offset))
      | _, _ => none
    | none => none
  | _ => none
theorem afieldAt_ok {t : TypeId} {x v : AV} {xu : Value} {f : Nat} (h : afieldAt P t x f = some v) (hx : VR φ x xu) : ∃ u, VR φ v u ∧ (Instr.fieldAt t xu f).run P w = .ok u w := by
  unfold afieldAt at h
  split at h
  · rename_i fs hu
    split at h
    · rename_i fd hf
      split at h
      · rename_i i b off hi
        split at h
        · cases h
        · rename_i hz
          cases h
          cases hx with
          | ptr hl =>
            refine ⟨_, ptr_add hl, ?_⟩
            simp [Instr.fieldAt, underlying, hu, hf, Instr.sureAddr, fieldPlace, sizeOf, typeInfo, hi, hz]
      · cases h
    · cases h
  · cases h
def aindex (P : Program) (t : TypeId) (x i : AV) : Option AV :=
  match i with
  | .int _ n =>
    match P.underlying t, x with
    | some .string, .str s =>
      if 0 ≤ n then
        match s[n.toNat]? with
        | some b => some (.int .u8 b.toNat)
        | none => none
      else none
    | some (.array len e), .agg cs =>
      match P.info? e with
      | some inf => if 0 ≤ n ∧ n < (len : Int) then apart P e cs (n.toNat * inf.size) else none
      | none => none
    | _, _ => none
  | _ => none
theorem aindex_ok {t : TypeId} {x i v : AV} {xu iu : Value} (h : aindex P t x i = some v) (hx : VR φ x xu) (hi : VR φ i iu) : ∃ u, VR φ v u ∧ (Instr.index t xu iu).run P w = .ok u w := by
  unfold aindex at h
  split at h
  · cases hi
    rename_i k n
    split at h
    · rename_i s hu
      split at h
      · rename_i h0
        split at h
        · rename_i b hb
          cases h
          cases hx
          refine ⟨_, .int _ _, ?_⟩
          have hb2 : (⟨⟨s⟩⟩ : ByteArray)[n.toNat]? = some b := by
            have hlt := (List.getElem?_eq_some_iff.1 hb).1
            rw [getElem?_pos (⟨⟨s⟩⟩ : ByteArray) n.toNat (by simpa [size_mk] using hlt)]
            rw [List.getElem?_eq_getElem hlt] at hb
            exact hb
          simp [Instr.index, asIntOf, underlying, hu, h0, hb2]
        · cases h
      · cases h
    · rename_i len e cs hu
      split at h
      · rename_i inf hinf
        split at h
        · rename_i hc
          cases hx with
          | agg hcs =>
            obtain ⟨u, h1, h2⟩ := apart_ok (P := P) (w := w) h hcs
            exact ⟨u, h1, by simp [Instr.index, asIntOf, underlying, hu, hc, sizeOf, typeInfo, hinf, h2]⟩
        · cases h
      · cases h
    · cases h
  · cases h
def aextract (x : AV) (i : Nat) : Option AV :=
  match x with
  | .tuple vs => vs[i]?
  | _ => none
theorem aextract_ok {x v : AV} {xu : Value} {i : Nat} (h : aextract x i = some v) (hx : VR φ x xu) : ∃ u, VR φ v u ∧ (Instr.extract xu i).run P w = .ok u w := by
  unfold aextract at h
  split at h
  · cases hx with
    | tuple hc =>
      obtain ⟨u, h1, h2⟩ := hc.get h
      have h3 := h1
      simp only [Array.getElem?_toList] at h3
      exact ⟨u, h2, by simp [Instr.extract, h3]⟩
  · cases h

/-! ### Slice expressions -/
def abound (x : AV) (y : Nat) : Option Nat :=
  match x with
  | .int _ n => if 0 ≤ n ∧ n ≤ (y : Int) then some n.toNat else none
  | _ => none
theorem abound_ok {x : AV} {xu : Value} {y y' n : Nat} (h : abound x y = some n) (hx : VR φ x xu) (hy : y ≤ y') (code : BoundsCode) : n ≤ y ∧ (Instr.sliceBound xu y' code).run P w = .ok n w := by
  unfold abound at h
  split at h
  · cases hx
    rename_i k n
    split at h
    · rename_i hc
      cases h
      refine ⟨by omega, ?_⟩
      have : 0 ≤ n ∧ n ≤ (y' : Int) := by omega
      simp [Instr.sliceBound, asIntOf, this]
    · cases h
  · cases h
def aboundO (x : Option AV) (y d : Nat) : Option Nat :=
  match x with
  | some x => abound x y
  | none => some d
/-- An operand that may lack. -/
def VRo (φ : List Loc) : Option AV → Option Value → Prop
  | some v, some u => VR φ v u
  | none, none => True
  | _, _ => False
theorem bounds2_ok {lo hi : Option AV} {lou hiu : Option Value} {len cap cap' l h : Nat} {s : Bool} (hh : aboundO hi cap len = some h) (hl : aboundO lo h 0 = some l) (hlo : VRo φ lo lou) (hhi : VRo φ hi hiu) (hcap : cap ≤ cap') (hlen : len ≤ cap) :
    l ≤ h ∧ h ≤ cap ∧ (Instr.sliceBounds s len cap' lou hiu none).run P w = .ok (l, h, cap') w := by
  have h1 : h ≤ cap ∧ (match hiu with | some v => Instr.sliceBound v cap' (if s then .sliceAcap else .sliceAlen) | none => pure len : Sem Nat).run P w = .ok h w := by
    cases hi with
    | none => cases hiu with
      | none => simp [aboundO] at hh; subst hh; exact ⟨hlen, rfl⟩
      | some _ => exact hhi.elim
    | some x => cases hiu with
      | none => exact hhi.elim
      | some u => exact abound_ok (P := P) (w := w) hh hhi hcap _
  have h2 : l ≤ h ∧ (match lou with | some v => Instr.sliceBound v h .sliceB | none => pure 0 : Sem Nat).run P w = .ok l w := by
    cases lo with
    | none => cases lou with
      | none => simp [aboundO] at hl; subst hl; exact ⟨Nat.zero_le _, rfl⟩
      | some _ => exact hlo.elim
    | some x => cases lou with
      | none => exact hlo.elim
      | some u => exact abound_ok (P := P) (w := w) hl hlo (Nat.le_refl _) _
  refine ⟨h2.1, h1.1, ?_⟩
  have h3 := h1.2
  have h4 := h2.2
  unfold Instr.sliceBounds
  cases hiu <;> cases lou <;> simp_all
theorem bounds3_ok {lo : Option AV} {lou : Option Value} {hi mx : AV} {hiu mxu : Value} {len cap cap' l h m : Nat} {s : Bool} (hm : abound mx cap = some m) (hh : abound hi m = some h) (hl : aboundO lo h 0 = some l) (hlo : VRo φ lo lou) (hhi : VR φ hi hiu) (hmx : VR φ mx mxu) (hcap : cap ≤ cap') :
    l ≤ h ∧ h ≤ m ∧ m ≤ cap ∧ (Instr.sliceBounds s len cap' lou (some hiu) (some mxu)).run P w = .ok (l, h, m) w := by
  have h0 := abound_ok (P := P) (w := w) hm hmx hcap (if s then .slice3Acap else .slice3Alen)
  have h1 := abound_ok (P := P) (w := w) hh hhi (Nat.le_refl _) .slice3B
  have h2 : l ≤ h ∧ (match lou with | some v => Instr.sliceBound v h .slice3C | none => pure 0 : Sem Nat).run P w = .ok l w := by
    cases lo with
    | none => cases lou with
      | none => simp [aboundO] at hl; subst hl; exact ⟨Nat.zero_le _, rfl⟩
      | some _ => exact hlo.elim
    | some x => cases lou with
      | none => exact hlo.elim
      | some u => exact abound_ok (P := P) (w := w) hl hlo (Nat.le_refl _) _
  refine ⟨h2.1, h1.1, h0.1, ?_⟩
  have h3 := h0.2
  have h4 := h1.2
  have h5 := h2.2
  unfold Instr.sliceBounds
  cases lou <;> simp_all

def aslice (P : Program) (t : TypeId) (x : AV) (lo hi mx : Option AV) : Option AV :=
  match P.underlying t with
  | some .string =>
    match x, mx with
    | .str s, none =>
      match aboundO hi s.length s.length with
      | some h =>
        match aboundO lo h 0 with
        | some l => some (.str ((s.drop l).take (h - l)))
        | none => none
      | none => none
    | _, _ => none
  | some (.slice e) =>
    match P.info? e with
    | none => none
    | some inf =>
      match x with
      | .sl b off len cap ex =>
        if len ≤ cap then
          match mx with
          | some m =>
            match abound m cap, hi with
            | some m, some h =>
              match abound h m with
              | some h =>
                match aboundO lo h 0 with
                | some l => some (.sl b (if m = l then off else off + l * inf.size) (h - l) (m - l) true)
                | none => none
              | none => none
            | _, _ => none
          | none =>
            match aboundO hi cap len with
            | some h =>
              match aboundO lo h 0 with
              | some l =>
                if ex then some (.sl b (if cap = l then off else off + l * inf.size) (h - l) (cap - l) true)
                else if l = cap then some (.sle b off (l * inf.size))
                else some (.sl b (off + l * inf.size) (h - l) (cap - l) false)
              | none => none
            | none => none
        else none
      | .nilsl =>
        match mx with
        | some _ => none
        | none =>
          match aboundO hi 0 0 with
          | some h =>
            match aboundO lo h 0 with
            | some _ => some .nilsl
            | none => none
          | none => none
      | .sle b off adv =>
        match mx with
        | some m =>
          match abound m 0, hi with
          | some m, some h =>
            match abound h m with
            | some h =>
              match aboundO lo h 0 with
              | some _ => some .slz
              | none => none
            | none => none
          | _, _ => none
        | none =>
          match aboundO hi 0 0 with
          | some h =>
            match aboundO lo h 0 with
            | some _ => some (.sle b off adv)
            | none => none
          | none => none
      | .slz =>
        match mx with
        | some m =>
          match abound m 0, hi with
          | some m, some h =>
            match abound h m with
            | some h =>
              match aboundO lo h 0 with
              | some _ => some .slz
              | none => none
            | none => none
          | _, _ => none
        | none =>
          match aboundO hi 0 0 with
          | some h =>
            match aboundO lo h 0 with
            | some _ => some .slz
            | none => none
          | none => none
      | _ => none
  | some (.array n e) =>
    match P.info? e, x, mx with
    | some inf, .ptr b off, none =>
      match aboundO hi n n with
      | some h =>
        match aboundO lo h 0 with
        | some l => some (.sl b (if n = l then off else off + l * inf.size) (h - l) (n - l) true)
        | none => none
      | none => none
    | _, _, _ => none
  | _ => none
end
end Go.Ve

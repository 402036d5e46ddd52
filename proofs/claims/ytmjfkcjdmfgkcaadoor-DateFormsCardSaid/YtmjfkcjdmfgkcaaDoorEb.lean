/- Functions that have no body: what the model says of them, for the few that are used. -/
import Derived.Test.YtmjfkcjdmfgkcaaDoorEa
import Derived.Lib.Bytealg
import Derived.Lib.UnsafeStr
import Derived.Lib.Builder
import Derived.Lib.MakeNoZero
import Derived.RangeFuncRecord
import Derived.StillTail
import Derived.Deep.Quiet
import Derived.Scope
namespace Go.Ve
open Go Go.RowKit

theorem nextNone1 : Extern.allNextRows.lookup "math.Float64bits" = none := by kernel_rfl
theorem nextNone2 : Extern.allNextRows.lookup "math.Float64frombits" = none := by kernel_rfl
theorem nextNone0 : Extern.allNextRows.lookup "" = none := by kernel_rfl
theorem gen1 : Extern.allGenericRows.lookup "math.Float64bits" = none := by kernel_rfl
theorem gen2 : Extern.allGenericRows.lookup "math.Float64frombits" = none := by kernel_rfl
theorem typ1 : Extern.allTypedRows.lookup "math.Float64bits" = none := by kernel_rfl
theorem typ2 : Extern.allTypedRows.lookup "math.Float64frombits" = none := by kernel_rfl
theorem row1 : Extern.allRows.lookup "math.Float64bits" = some Extern.MathFloatBits.float64bits := by kernel_rfl
theorem row2 : Extern.allRows.lookup "math.Float64frombits" = some Extern.MathFloatBits.float64frombits := by kernel_rfl

theorem bits1 (b : Nat) : Extern.MathFloatBits.float64bits [.float .f64 b].toArray = pure (.int .u64 b) := rfl
theorem bits2 (n : Int) : Extern.MathFloatBits.float64frombits [.int .u64 n].toArray = pure (.float .f64 n.toNat) := rfl
theorem nextNone3 : Extern.allNextRows.lookup "math.archFloor" = none := by kernel_rfl
theorem nextNone4 : Extern.allNextRows.lookup "math.archTrunc" = none := by kernel_rfl
theorem gen3 : Extern.allGenericRows.lookup "math.archFloor" = none := by kernel_rfl
theorem gen4 : Extern.allGenericRows.lookup "math.archTrunc" = none := by kernel_rfl
theorem typ3 : Extern.allTypedRows.lookup "math.archFloor" = none := by kernel_rfl
theorem typ4 : Extern.allTypedRows.lookup "math.archTrunc" = none := by kernel_rfl
theorem row3 : Extern.allRows.lookup "math.archFloor" = some (Extern.MathFloor.toIntegral "math.archFloor" .down) := by kernel_rfl
theorem row4 : Extern.allRows.lookup "math.archTrunc" = some (Extern.MathFloor.toIntegral "math.archTrunc" .zero) := by kernel_rfl
def aintegral (way : Ieee.Toward) (b : Nat) : Option AV :=
  match FloatKind.f64.decode b with
  | .nan _ _ => none
  | d => some (.float .f64 (FloatKind.f64.encode (d.integral way)))
theorem aintegral_ok {P : Program} {w : World} {φ : List Loc} {way : Ieee.Toward} {nm : String} {b : Nat} {v : AV} (h : aintegral way b = some v) : ∃ u, (Extern.MathFloor.toIntegral nm way #[.float .f64 b]).run P w = .ok u w ∧ VR φ v u := by
  have e : Extern.MathFloor.toIntegral nm way #[.float .f64 b] = (fun d : Ieee.Datum => match d with
    | .nan s t => if FloatKind.f64.format.quiet t = t then pure (.float .f64 b) else do
      let kept ← choose (.extern "math.Floor,Ceil,Trunc,RoundToEven.signallingNaN kept" 2)
      pure (.float .f64 (if kept == 1 then b else FloatKind.f64.encode (.nan s (FloatKind.f64.format.quiet t))))
    | d => pure (.float .f64 (FloatKind.f64.encode (d.integral way)))) (FloatKind.f64.decode b) := rfl
  rw [e]
  unfold aintegral at h
  generalize FloatKind.f64.decode b = d at *
  cases d with
  | nan s t => cases h
  | number n m p => cases h; exact ⟨_, rfl, .float _ _⟩
  | infinity n => cases h; exact ⟨_, rfl, .float _ _⟩
/-- Those that are pure: what the model says, and what it comes to. -/
noncomputable def idxR (s : List UInt8) (c : Nat) : Int := List.rec (motive := fun _ => Nat → Int) (fun _ => -1) (fun x _ ih i => cond (Nat.beq x.toNat c) (Int.ofNat i) (ih (Nat.succ i))) s 0
theorem idxR_eq (s : List UInt8) (c : UInt8) : idxR s c.toNat = Lib.indexByte s c := by
  have key : ∀ (s : List UInt8) (i : Nat), (List.rec (motive := fun _ => Nat → Int) (fun _ => -1) (fun x _ ih i => cond (Nat.beq x.toNat c.toNat) (Int.ofNat i) (ih (Nat.succ i))) s : Nat → Int) i = if Lib.indexByte s c = -1 then -1 else Lib.indexByte s c + i := by
    intro s
    induction s with
    | nil => intro i; rfl
    | cons x t ih =>
      intro i
      have e : (List.rec (motive := fun _ => Nat → Int) (fun _ => -1) (fun x _ ih i => cond (Nat.beq x.toNat c.toNat) (Int.ofNat i) (ih (Nat.succ i))) (x :: t) : Nat → Int) i = cond (Nat.beq x.toNat c.toNat) (Int.ofNat i) ((List.rec (motive := fun _ => Nat → Int) (fun _ => -1) (fun x _ ih i => cond (Nat.beq x.toNat c.toNat) (Int.ofNat i) (ih (Nat.succ i))) t : Nat → Int) (Nat.succ i)) := rfl
      rw [e, ih]
      have hge := Lib.indexByte_ge t c
      by_cases hx : x = c
      · subst hx
        simp [Lib.indexByte]
      · have h1 : (Nat.beq x.toNat c.toNat) = false := by
          cases hb : Nat.beq x.toNat c.toNat with
          | false => rfl
          | true => exact absurd (UInt8.toNat_inj.1 (Nat.eq_of_beq_eq_true hb)) hx
        have h2 : (x == c) = false := by simpa using hx
        rw [h1]
        simp only [cond, Lib.indexByte, h2, Bool.false_eq_true, if_false]
        by_cases h3 : Lib.indexByte t c = -1
        · simp [h3]
        · have h4 : (Lib.indexByte t c == -1) = false := by simpa using h3
          simp only [h4, Bool.false_eq_true, if_false]
          rw [if_neg h3, if_neg (by omega)]
          push_cast
          omega
  have := key s 0
  refine this.trans ?_
  split
  · rename_i h; exact h.symm
  · simp
noncomputable def cntR (s : List UInt8) (c : Nat) : Nat := List.rec (motive := fun _ => Nat → Nat) (fun n => n) (fun x _ ih n => cond (Nat.beq x.toNat c) (ih (Nat.succ n)) (ih n)) s 0
theorem cntR_eq (s : List UInt8) (c : UInt8) : cntR s c.toNat = s.count c := by
  have key : ∀ (s : List UInt8) (n : Nat), (List.rec (motive := fun _ => Nat → Nat) (fun n => n) (fun x _ ih n => cond (Nat.beq x.toNat c.toNat) (ih (Nat.succ n)) (ih n)) s : Nat → Nat) n = n + s.count c := by
    intro s
    induction s with
    | nil => intro n; rfl
    | cons x t ih =>
      intro n
      have e : (List.rec (motive := fun _ => Nat → Nat) (fun n => n) (fun x _ ih n => cond (Nat.beq x.toNat c.toNat) (ih (Nat.succ n)) (ih n)) (x :: t) : Nat → Nat) n = cond (Nat.beq x.toNat c.toNat) ((List.rec (motive := fun _ => Nat → Nat) (fun n => n) (fun x _ ih n => cond (Nat.beq x.toNat c.toNat) (ih (Nat.succ n)) (ih n)) t : Nat → Nat) (Nat.succ n)) ((List.rec (motive := fun _ => Nat → Nat) (fun n => n) (fun x _ ih n => cond (Nat.beq x.toNat c.toNat) (ih (Nat.succ n)) (ih n)) t : Nat → Nat) n) := rfl
      rw [e, ih, ih]
      by_cases hx : x = c
      · subst hx
        simp; omega
      · have h1 : (Nat.beq x.toNat c.toNat) = false := by
          cases hb : Nat.beq x.toNat c.toNat with
          | false => rfl
          | true => exact absurd (UInt8.toNat_inj.1 (Nat.eq_of_beq_eq_true hb)) hx
        have h2 : (x == c) = false := by simpa using hx
        rw [h1, List.count_cons, h2]
        simp
  have := key s 0
  rw [Nat.zero_add] at this
  exact this
noncomputable def aext2 (nm : String) (args : List AV) : Option AV :=
  if nm == "internal/bytealg.IndexByteString" then
    match args with
    | [.str s, .int .u8 c] => some (.int .i64 (idxR s (Nat.mod c.toNat 256)))
    | _ => none
  else if nm == "internal/bytealg.CountString" then
    match args with
    | [.str s, .int .u8 c] => some (.int .i64 (.ofNat (cntR s (Nat.mod c.toNat 256))))
    | _ => none
  else if nm == "internal/abi.NoEscape" then
    match args with
    | [x] => some x
    | _ => none
  else none
theorem rowA : Extern.allRows.lookup "internal/bytealg.IndexByteString" = some Extern.BytealgIndexByte.indexByte := by kernel_rfl
theorem rowB : Extern.allRows.lookup "internal/bytealg.CountString" = some Extern.BytealgCount.count := by kernel_rfl
theorem rowC : Extern.allRows.lookup "internal/abi.NoEscape" = some Extern.AbiNoEscape.same := by kernel_rfl
theorem nxA : Extern.allNextRows.lookup "internal/bytealg.IndexByteString" = none := by kernel_rfl
theorem nxB : Extern.allNextRows.lookup "internal/bytealg.CountString" = none := by kernel_rfl
theorem nxC : Extern.allNextRows.lookup "internal/abi.NoEscape" = none := by kernel_rfl
theorem gnA : Extern.allGenericRows.lookup "internal/bytealg.IndexByteString" = none := by kernel_rfl
theorem gnB : Extern.allGenericRows.lookup "internal/bytealg.CountString" = none := by kernel_rfl
theorem gnC : Extern.allGenericRows.lookup "internal/abi.NoEscape" = none := by kernel_rfl
theorem tyA : Extern.allTypedRows.lookup "internal/bytealg.IndexByteString" = none := by kernel_rfl
theorem tyB : Extern.allTypedRows.lookup "internal/bytealg.CountString" = none := by kernel_rfl
theorem tyC : Extern.allTypedRows.lookup "internal/abi.NoEscape" = none := by kernel_rfl
theorem aext2_ok {P : Program} {w : World} {φ : List Loc} {nm : String} {args : List AV} {us : List Value} {v : AV} (h : aext2 nm args = some v) (hv : VRs φ args us) :
    nm ≠ "runtime.NumGoroutine" ∧ Extern.allNextRows.lookup nm = none ∧ Extern.allGenericRows.lookup nm = none ∧ Extern.allTypedRows.lookup nm = none ∧ ∃ sem, Extern.allRows.lookup nm = some sem ∧ ∃ u, (sem us.toArray).run P w = .ok u w ∧ VR φ v u := by
  unfold aext2 at h
  split at h
  · rename_i hn
    have hn := eq_of_beq hn
    subst hn
    split at h
    · cases h
      cases hv with
      | cons h1 h2 =>
        cases h1
        cases h2 with
        | cons h3 h4 =>
          cases h3; cases h4
          rename_i s c
          refine ⟨by decide, nxA, gnA, tyA, _, rowA, _, ?_, .int _ _⟩
          have e : Nat.mod c.toNat 256 = (c.toNat.toUInt8).toNat := by simp [Nat.toUInt8]; rfl
          rw [e, idxR_eq]
          exact Lib.run_indexByteString ⟨⟨s⟩⟩ c w
    · cases h
  · split at h
    · rename_i hn
      have hn := eq_of_beq hn
      subst hn
      split at h
      · cases h
        cases hv with
        | cons h1 h2 =>
          cases h1
          cases h2 with
          | cons h3 h4 =>
            cases h3; cases h4
            rename_i s c
            refine ⟨by decide, nxB, gnB, tyB, _, rowB, _, ?_, .int _ _⟩
            have e : Nat.mod c.toNat 256 = (c.toNat.toUInt8).toNat := by simp [Nat.toUInt8]; rfl
            rw [e, cntR_eq]
            exact Lib.run_countString ⟨⟨s⟩⟩ c w
      · cases h
    · split at h
      · rename_i hn
        have hn := eq_of_beq hn
        subst hn
        split at h
        · cases h
          cases hv with
          | cons h1 h2 =>
            cases h2
            exact ⟨by decide, nxC, gnC, tyC, _, rowC, _, rfl, h1⟩
        · cases h
      · cases h
/-- A function without a body, of those that are known. -/
noncomputable def aextern (fn : Func) (args : List AV) : Option AV :=
  if fn.body.isNone && fn.origin == "" then
    if fn.name == "math.Float64bits" then
      match args with
      | [.float .f64 b] => some (.int .u64 (b : Nat))
      | _ => none
    else if fn.name == "math.Float64frombits" then
      match args with
      | [.int .u64 n] => some (.float .f64 n.toNat)
      | _ => none
    else if fn.name == "math.archFloor" then
      match args with
      | [.float .f64 b] => aintegral .down b
      | _ => none
    else if fn.name == "math.archTrunc" then
      match args with
      | [.float .f64 b] => aintegral .zero b
      | _ => none
    else aext2 fn.name args
  else none

theorem aextern_ok {P : Program} {w : World} {φ : List Loc} {f : FuncId} {fn : Func} (hf : P.funcs[f]? = some fn) {args : List AV} {us : List Value} {v : AV} (h : aextern fn args = some v) (hv : VRs φ args us) :
    ∃ u, (callFunc f us.toArray).run P w = .ok (.value u) w ∧ VR φ v u := by
  unfold aextern at h
  split at h
  · rename_i hb
    simp only [Bool.and_eq_true, beq_iff_eq] at hb
    split at h
    · rename_i hn
      have hn := eq_of_beq hn
      split at h
      · cases h
        cases hv with
        | cons h1 h2 =>
          cases h1; cases h2
          refine ⟨_, ?_, .int _ _⟩
          simp [callFunc, hf, hn, hb, Extern.findNext, Extern.find, nextNone1, nextNone0, gen1, typ1, row1, bits1]
          exact Option.isNone_iff_eq_none.1 hb.1
      · cases h
    · split at h
      · rename_i hn
        have hn := eq_of_beq hn
        split at h
        · cases h
          cases hv with
          | cons h1 h2 =>
            cases h1; cases h2
            refine ⟨_, ?_, .float _ _⟩
            simp [callFunc, hf, hn, hb, Extern.findNext, Extern.find, nextNone2, nextNone0, gen2, typ2, row2, bits2]
            exact Option.isNone_iff_eq_none.1 hb.1
        · cases h
      · split at h
        · rename_i hn
          have hn := eq_of_beq hn
          split at h
          · cases hv with
            | cons h1 h2 =>
              cases h1; cases h2
              obtain ⟨u, h3, h4⟩ := aintegral_ok (P := P) (w := w) (φ := φ) (nm := "math.archFloor") h
              refine ⟨u, ?_, h4⟩
              simp [callFunc, hf, hn, hb, Extern.findNext, Extern.find, nextNone3, nextNone0, gen3, typ3, row3, h3]
              exact Option.isNone_iff_eq_none.1 hb.1
          · cases h
        · split at h
          · rename_i hn
            have hn := eq_of_beq hn
            split at h
            · cases hv with
              | cons h1 h2 =>
                cases h1; cases h2
                obtain ⟨u, h3, h4⟩ := aintegral_ok (P := P) (w := w) (φ := φ) (nm := "math.archTrunc") h
                refine ⟨u, ?_, h4⟩
                simp [callFunc, hf, hn, hb, Extern.findNext, Extern.find, nextNone4, nextNone0, gen4, typ4, row4, h3]
                exact Option.isNone_iff_eq_none.1 hb.1
            · cases h
          · obtain ⟨e0, e1, e2, e3, sem, e4, u, e5, e6⟩ := aext2_ok (P := P) (w := w) h hv
            refine ⟨u, ?_, e6⟩
            simp [callFunc, hf, hb, e0, Extern.findNext, Extern.find, e1, nextNone0, e2, e3, e4, e5]
            exact Option.isNone_iff_eq_none.1 hb.1
  · cases h
end Go.Ve

namespace Go.Ve
open Go Go.RowKit

section
variable {P : Program} {w0 : Base} {w : World} {φ : List Loc} {H : AH}

def keyV : AV → Option Value
  | .bool b => some (.bool b)
  | .int k n => some (.int k n)
  | .str s => some (.string ⟨⟨s⟩⟩)
  | _ => none
theorem keyV_ok {v : AV} {u u' : Value} (h : keyV v = some u) (hv : VR φ v u') : u' = u := by
  cases hv <;> simp [keyV] at h <;> exact h
def plainKey : TypeDesc → Bool
  | .int _ => true
  | .string => true
  | .bool => true
  | _ => false
theorem checkKey_ok {t : TypeId} {d : TypeDesc} (hd : P.underlying t = some d) (hp : plainKey d = true) (e : Bool) (k : Value) : (Instr.checkKey e 10000 t k).run P w = .ok () w := by
  show (Instr.checkKey e (9999 + 1) t k).run P w = .ok () w
  unfold Instr.checkKey
  rw [Sem.run_bind, run_underlying hd]
  cases d <;> first | (simp [plainKey] at hp; done) | rfl

def afind (d : TypeDesc) (k : Value) : List (AV × AV) → Nat → Option (Option (Nat × AV))
  | [], _ => some none
  | e :: es, i =>
    match keyV e.1 with
    | none => none
    | some u =>
      match Instr.sameNow d k u with
      | some true => some (some (i, e.2))
      | some false => afind d k es (i + 1)
      | none => none
theorem afind_ok {d : TypeDesc} {k : Value} : ∀ {es : List (AV × AV)} {ms : List MapEntry} {i : Nat} {r : Option (Nat × AV)}, afind d k es i = some r → EntryR φ es ms →
    match r with
    | none => Instr.findNow d k ms i = some none
    | some (j, v) => i ≤ j ∧ ∃ u m e, Instr.findNow d k ms i = some (some (j, u)) ∧ VR φ v u ∧ ms[j - i]? = some m ∧ es[j - i]? = some e ∧ keyV e.1 = some m.key ∧ Instr.sameNow d k m.key = some true
  | [], [], i, r, h, _ => by simp only [afind] at h; cases h; rfl
  | e :: es, m :: ms, i, r, h, hm => by
    simp only [afind] at h
    split at h
    · cases h
    · rename_i u hu
      have hk := keyV_ok hu hm.1
      simp only [Instr.findNow]
      split at h
      · rename_i hs
        cases h
        rw [hk, hs]
        exact ⟨Nat.le_refl _, m.val, m, e, rfl, hm.2.1, by simp, by simp, by rw [hu, hk], by rw [hk]; exact hs⟩
      · rename_i hs
        rw [hk, hs]
        have ih := afind_ok h hm.2.2
        split
        · exact ih
        · rename_i j v
          obtain ⟨h1, u2, m2, e2, h2, h3, h4, h5, h6⟩ := ih
          have : j - i = (j - (i + 1)) + 1 := by omega
          exact ⟨by omega, u2, m2, e2, h2, h3, by rw [this]; simpa using h4, by rw [this]; simpa using h5, h6⟩
      · cases h
  | [], _ :: _, _, _, _, h => h.elim
  | _ :: _, [], _, _, _, h => h.elim

def entriesOf (H : AH) : AV → Option (List (AV × AV))
  | .nilmap => some []
  | .map b =>
    match H[b]? with
    | some (.map es _) => some es
    | _ => none
  | _ => none

def azeroV (P : Program) (t : TypeId) : Option AV :=
  match P.info? t with
  | some i => i.zero.map ofV
  | none => none
theorem azeroV_ok {t : TypeId} {v : AV} (h : azeroV P t = some v) (φ : List Loc) : ∃ z, VR φ v z ∧ (zeroValue t).run P w = .ok z w := by
  unfold azeroV at h
  split at h
  · rename_i i hi
    cases hz : i.zero with
    | none => simp [hz] at h
    | some z =>
      simp [hz] at h; subst h
      exact ⟨z, ofV_ok φ z, by simp [zeroValue, typeInfo, hi, hz]⟩
  · cases h

def alookup (P : Program) (t : TypeId) (x k : AV) (ok : Bool) (H : AH) : Option AV :=
  match P.underlying t with
  | some (.map kt et) =>
    match P.underlying kt, keyV k, entriesOf H x with
    | some d, some ku, some es =>
      if plainKey d then
        match afind d ku es 0 with
        | some (some r) => some (if ok then .tuple [r.2, .bool true] else r.2)
        | some none => (azeroV P et).map fun z => if ok then .tuple [z, .bool false] else z
        | none => none
      else none
    | _, _, _ => none
  | _ => none
theorem findKey_ok {kt : TypeId} {d : TypeDesc} (hd : P.underlying kt = some d) {k : Value} {ms : List MapEntry} {r : Option (Nat × Value)} (h : Instr.findNow d k ms 0 = some r) : (Instr.findKey kt k ms).run P w = .ok r w := by
  unfold Instr.findKey
  rw [Sem.run_bind, run_underlying hd]
  simp only [Result.andThen_ok, h]
  rfl
theorem alookup_ok (hr : Rel w0 φ H w) {t : TypeId} {x k v : AV} {xu ku : Value} {ok : Bool} (h : alookup P t x k ok H = some v) (hx : VR φ x xu) (hk : VR φ k ku) :
    ∃ u, VR φ v u ∧ (Instr.lookup t xu ku ok).run P w = .ok u w := by
  unfold alookup at h
  split at h
  · rename_i kt et hu
    split at h
    · rename_i d ku' es hd hku hes
      split at h
      · rename_i hp
        have hkk := keyV_ok hku hk
        subst hkk
        have key : ∃ ms : Array MapEntry, EntryR φ es ms.toList ∧ ((xu = .map none ∧ ms = #[]) ∨ ∃ r c, xu = .map (some r) ∧ w.heap[r]? = some (.map ms c)) := by
          unfold entriesOf at hes
          split at hes
          · cases hes
            cases hx
            exact ⟨#[], trivial, .inl ⟨rfl, rfl⟩⟩
          · split at hes
            · rename_i b es' ro hb
              cases hes
              cases hx with
              | map hl =>
                obtain ⟨_, ms, c, h2, h3⟩ := hr.blocks _ _ _ hb hl
                exact ⟨ms, h3.e, .inr ⟨_, c, rfl, h2⟩⟩
            · cases hes
          · cases hes
        obtain ⟨ms, h1, h2⟩ := key
        split at h
        · rename_i r hf
          cases h
          obtain ⟨_, u, m, e, h3, h4, _⟩ := afind_ok hf h1
          refine ⟨if ok then .tuple #[u, .bool true] else u, ?_, ?_⟩
          · cases ok
            · exact h4
            · exact .tuple (.cons h4 (.cons (.bool _) .nil))
          · unfold Instr.lookup
            rcases h2 with ⟨rfl, rfl⟩ | ⟨r, c, rfl, h2⟩
            · simp only [Instr.findNow] at h3
              cases h3
            · simp [run_underlying hu, getObj, Sem.run, h2, checkKey_ok hd hp, findKey_ok hd h3]
        · rename_i hf
          have h3 := afind_ok hf h1
          cases hz : azeroV P et with
          | none => rw [hz] at h; cases h
          | some z =>
            rw [hz] at h; cases h
            obtain ⟨zv, h4, h5⟩ := azeroV_ok (w := w) hz φ
            refine ⟨if ok then .tuple #[zv, .bool false] else zv, ?_, ?_⟩
            · cases ok
              · exact h4
              · exact .tuple (.cons h4 (.cons (.bool _) .nil))
            · unfold Instr.lookup
              rcases h2 with ⟨rfl, rfl⟩ | ⟨r, c, rfl, h2⟩
              · simp [run_underlying hu, checkKey_ok hd hp, findKey_ok hd h3, h5]
              · simp [run_underlying hu, getObj, Sem.run, h2, checkKey_ok hd hp, findKey_ok hd h3, h5]
        · cases h
      · cases h
    · cases h
  · cases h

/-! ### Changes -/
def amapUpdate (P : Program) (t : TypeId) (m k x : AV) (H : AH) : Option AH :=
  match P.underlying t with
  | some (.map kt _) =>
    match m with
    | .map b =>
      match P.underlying kt, keyV k, H[b]? with
      | some d, some ku, some (.map es false) =>
        if plainKey d then
          match afind d ku es 0 with
          | some (some r) => some (H.set b (.map (es.set r.1 (k, x)) false))
          | some none => some (H.set b (.map (es ++ [(k, x)]) false))
          | none => none
        else none
      | _, _, _ => none
    | _ => none
  | _ => none
def adelete (P : Program) (t : TypeId) (m k : AV) (H : AH) : Option AH :=
  match P.underlying t with
  | some (.map kt _) =>
    match m with
    | .map b =>
      match P.underlying kt, keyV k, H[b]? with
      | some d, some ku, some (.map es false) =>
        if plainKey d then
          match afind d ku es 0 with
          | some (some r) => some (H.set b (.map (es.eraseIdx r.1) false))
          | some none => some (H.set b (.map es false))
          | none => none
        else none
      | _, _, _ => none
    | _ => none
  | _ => none
theorem EntryR.set : ∀ {es : List (AV × AV)} {ms : List MapEntry} {i : Nat} {e : AV × AV} {m : MapEntry}, EntryR φ es ms → VR φ e.1 m.key → VR φ e.2 m.val → EntryR φ (es.set i e) (ms.set i m)
  | [], [], _, _, _, _, _, _ => trivial
  | _ :: _, _ :: _, 0, _, _, h, h1, h2 => ⟨h1, h2, h.2.2⟩
  | _ :: _, _ :: _, _ + 1, _, _, h, h1, h2 => ⟨h.1, h.2.1, EntryR.set h.2.2 h1 h2⟩
  | [], _ :: _, _, _, _, h, _, _ => h.elim
  | _ :: _, [], _, _, _, h, _, _ => h.elim
theorem EntryR.snoc : ∀ {es : List (AV × AV)} {ms : List MapEntry} {e : AV × AV} {m : MapEntry}, EntryR φ es ms → VR φ e.1 m.key → VR φ e.2 m.val → EntryR φ (es ++ [e]) (ms ++ [m])
  | [], [], _, _, _, h1, h2 => ⟨h1, h2, trivial⟩
  | _ :: _, _ :: _, _, _, h, h1, h2 => ⟨h.1, h.2.1, EntryR.snoc h.2.2 h1 h2⟩
  | [], _ :: _, _, _, h, _, _ => h.elim
  | _ :: _, [], _, _, h, _, _ => h.elim
theorem EntryR.erase : ∀ {es : List (AV × AV)} {ms : List MapEntry} {i : Nat}, EntryR φ es ms → EntryR φ (es.eraseIdx i) (ms.eraseIdx i)
  | [], [], _, _ => trivial
  | _ :: _, _ :: _, 0, h => h.2.2
  | _ :: _, _ :: _, _ + 1, h => ⟨h.1, h.2.1, EntryR.erase h.2.2⟩
  | [], _ :: _, _, h => h.elim
  | _ :: _, [], _, h => h.elim
/-- A map's entries are others. -/
theorem Rel.setMap (hr : Rel w0 φ H w) {b : Nat} {es es' : List (AV × AV)} {l : Loc} (hb : H[b]? = some (.map es false)) (hl : φ[b]? = some l) {ms' : Array MapEntry} {c' : Nat} (he : EntryB φ es' ms'.toList c') :
    Rel w0 φ (H.set b (.map es' false)) { w with heap := w.heap.setIfInBounds l.blk (.map ms' c') } := by
  obtain ⟨h1, ms, c, h2, h3⟩ := hr.blocks _ _ _ hb hl
  have hlt : l.blk < w.heap.size := (Array.getElem?_eq_some_iff.1 h2).1
  refine hr.upd (k := .map es false) hb rfl hl rfl rfl rfl (by simp) (fun j hj _ => ?_) ⟨h1, ms', c', ?_, he⟩
  · simp only [Array.getElem?_setIfInBounds]
    rw [if_neg (Ne.symm hj)]
  · simp [hlt]
theorem same_bits {d : TypeDesc} {a b : Value} (h : Instr.sameNow d a b = some true) : Instr.sameBits 10000 b a = true := by
  show Instr.sameBits (9999 + 1) b a = true
  unfold Instr.sameNow at h
  split at h
  · split at h
    · rename_i hk
      simp at h
      simp [Instr.sameBits, hk, h]
    · cases h
  · rename_i a b
    simp only [Option.some.injEq] at h
    have e : a = b := by cases a; cases b; exact congrArg ByteArray.mk (eq_of_beq h)
    subst e
    exact h
  · simp only [Option.some.injEq] at h
    rename_i a b
    cases a <;> cases b <;> first | rfl | (exact h)
  · cases h
theorem list_modify_set {α : Type} (f : α → α) : ∀ (l : List α) (i : Nat) (a : α), l[i]? = some a → l.modify i f = l.set i (f a)
  | [], _, _, h => by simp at h
  | x :: l, 0, a, h => by simp at h; subst h; rfl
  | x :: l, i + 1, a, h => by
    simp at h
    simp [list_modify_set f l i a h]
theorem amapUpdate_ok (hr : Rel w0 φ H w) {t : TypeId} {m k x : AV} {mu ku xu : Value} {H' : AH} (h : amapUpdate P t m k x H = some H') (hm : VR φ m mu) (hk : VR φ k ku) (hx : VR φ x xu) :
    ∃ w', (Instr.mapUpdate t mu ku xu).run P w = .ok () w' ∧ Rel w0 φ H' w' ∧ ∃ b, m = .map b ∧ Keeps b H H' := by
  unfold amapUpdate at h
  split at h
  · rename_i kt et hu
    split at h
    · rename_i b
      split at h
      · rename_i d ku' es hd hku hb
        split at h
        · rename_i hp
          have hkk := keyV_ok hku hk
          subst hkk
          cases hm with
          | map hl =>
            rename_i l
            obtain ⟨h1, ms, c, h2, h3⟩ := hr.blocks _ _ _ hb hl
            have pre : ∀ f : Option (Nat × Value) → Sem Unit, ∀ r, Instr.findNow d ku ms.toList 0 = some r → (do
                Instr.checkKey false 10000 kt ku
                f (← Instr.findKey kt ku ms.toList)).run P w = (f r).run P w := fun f r hfr => by
              rw [Sem.run_bind, checkKey_ok hd hp]
              simp only [Result.andThen_ok]
              rw [Sem.run_bind, findKey_ok hd hfr]
              rfl
            split at h
            · rename_i r hf
              cases h
              obtain ⟨_, u, m0, e, h4, h5, h6, h7, h8, h9⟩ := afind_ok hf h3.e
              simp only [Nat.sub_zero] at h6 h7
              refine ⟨_, ?_, hr.setMap hb hl (ms' := ms.modify r.1 fun e => { e with key := ku, val := xu }) (c' := c) ?_, b, rfl, Keeps.set _ _ _⟩
              · unfold Instr.mapUpdate
                rw [Sem.run_bind, run_underlying hu]
                simp only [Result.andThen_ok]
                rw [Sem.run_bind]
                simp only [getObj, Sem.run, h2, Result.andThen_ok]
                refine (pre _ _ h4).trans ?_
                have h6' : ms[r.1]? = some m0 := by simpa using h6
                simp only [Instr.keyThatStays, h6', Option.map_some, Option.getD_some, same_bits h9, if_true]
                simp [setObj, Sem.run, h2]
              · rw [Array.toList_modify, list_modify_set _ _ _ _ h6]
                refine ⟨h3.e.set hk hx, fun x hx => ?_⟩
                rcases List.mem_or_eq_of_mem_set hx with hx | rfl
                · exact h3.b x hx
                · exact h3.b m0 (List.mem_of_getElem? h6)
            · rename_i hf
              cases h
              have h4 := afind_ok hf h3.e
              refine ⟨_, ?_, hr.setMap hb hl (ms' := ms.push { key := ku, val := xu, born := c }) (c' := c + 1) ?_, b, rfl, Keeps.set _ _ _⟩
              · unfold Instr.mapUpdate
                rw [Sem.run_bind, run_underlying hu]
                simp only [Result.andThen_ok]
                rw [Sem.run_bind]
                simp only [getObj, Sem.run, h2, Result.andThen_ok]
                refine (pre _ _ h4).trans ?_
                simp [setObj, Sem.run, h2]
              · rw [Array.toList_push]
                refine ⟨h3.e.snoc hk hx, fun x hx => ?_⟩
                rcases List.mem_append.1 hx with hx | hx
                · exact Nat.lt_succ_of_lt (h3.b x hx)
                · rw [List.mem_singleton] at hx
                  subst hx
                  exact Nat.lt_succ_self c
            · cases h
        · cases h
      · cases h
    · cases h
  · cases h
theorem adelete_ok (hr : Rel w0 φ H w) {t ty : TypeId} {ts : List TypeId} {m k : AV} {mu ku : Value} {H' : AH} (h : adelete P t m k H = some H') (hm : VR φ m mu) (hk : VR φ k ku) :
    ∃ w', (Builtin.delete_ (t :: ts).toArray ty [mu, ku].toArray).run P w = .ok (.tuple #[]) w' ∧ Rel w0 φ H' w' ∧ ∃ b, m = .map b ∧ Keeps b H H' := by
  unfold adelete at h
  split at h
  · rename_i kt et hu
    split at h
    · rename_i b
      split at h
      · rename_i d ku' es hd hku hb
        split at h
        · rename_i hp
          have hkk := keyV_ok hku hk
          subst hkk
          cases hm with
          | map hl =>
            rename_i l
            obtain ⟨h1, ms, c, h2, h3⟩ := hr.blocks _ _ _ hb hl
            have pre : ∀ (f : Option (Nat × Value) → Sem Value) (e : Bool), ∀ r, Instr.findNow d ku ms.toList 0 = some r → (do
                Instr.checkKey e 10000 kt ku
                f (← Instr.findKey kt ku ms.toList)).run P w = (f r).run P w := fun f e r hfr => by
              rw [Sem.run_bind, checkKey_ok hd hp]
              simp only [Result.andThen_ok]
              rw [Sem.run_bind, findKey_ok hd hfr]
              rfl
            split at h
            · rename_i r hf
              cases h
              obtain ⟨_, u, m0, e, h4, h5, h6, h7, h8, h9⟩ := afind_ok hf h3.e
              refine ⟨_, ?_, hr.setMap hb hl (ms' := ms.eraseIdxIfInBounds r.1) (c' := c) ?_, b, rfl, Keeps.set _ _ _⟩
              · unfold Builtin.delete_
                simp only [List.getElem?_toArray, List.getElem?_cons_zero, List.getElem?_cons_succ]
                rw [Sem.run_bind, run_underlying hu]
                simp only [Result.andThen_ok]
                simp [getObj, Sem.run, h2, checkKey_ok hd hp, findKey_ok hd h4, setObj]
              · rw [Array.toList_eraseIdxIfInBounds]
                exact ⟨h3.e.erase, fun x hx => h3.b x (List.mem_of_mem_eraseIdx hx)⟩
            · rename_i hf
              cases h
              have h4 := afind_ok hf h3.e
              refine ⟨_, ?_, hr.setMap hb hl (ms' := ms) (c' := c) h3, b, rfl, Keeps.set _ _ _⟩
              unfold Builtin.delete_
              simp only [List.getElem?_toArray, List.getElem?_cons_zero, List.getElem?_cons_succ]
              rw [Sem.run_bind, run_underlying hu]
              simp only [Result.andThen_ok]
              simp [getObj, Sem.run, h2, checkKey_ok hd hp, findKey_ok hd h4, setObj]
            · cases h
        · cases h
      · cases h
    · cases h
  · cases h
theorem Rel.newMap (hr : Rel w0 φ H w) : Rel w0 (φ ++ [⟨w.heap.size, 0, 0⟩]) (H ++ [.map [] false]) { w with heap := w.heap.push (.map #[] 0) } := by
  refine hr.alloc (.map #[] 0) (l := ⟨w.heap.size, 0, 0⟩) rfl ⟨hr.below.fresh (Nat.le_refl _), #[], 0, ?_, trivial, fun x hx => by simp at hx⟩
  simp
def mapOf : AV → Nat
  | .map b => b
  | _ => 0
theorem amapUpdate_keeps {t : TypeId} {m k x : AV} {H' : AH} (h : amapUpdate P t m k x H = some H') : Keeps (mapOf m) H H' := by
  unfold amapUpdate at h
  (repeat' split at h) <;> first | (cases h; done) | (cases h; exact Keeps.set _ _ _)
theorem adelete_keeps {t : TypeId} {m k : AV} {H' : AH} (h : adelete P t m k H = some H') : Keeps (mapOf m) H H' := by
  unfold adelete at h
  (repeat' split at h) <;> first | (cases h; done) | (cases h; exact Keeps.set _ _ _)
end
end Go.Ve

namespace Go.Ve
open Go Go.RowKit

section
variable {P : Program} {w0 : Base} {w : World} {φ : List Loc} {H : AH}

def arange (P : Program) (t : TypeId) (x : AV) (H : AH) : Option AH :=
  match P.underlying t, x with
  | some .string, .str s => some (H ++ [.siter s 0])
  | _, _ => none
theorem arange_ok (hr : Rel w0 φ H w) {t : TypeId} {x : AV} {xu : Value} {H' : AH} (h : arange P t x H = some H') (hx : VR φ x xu) :
    ∃ u w' φ', (Instr.range t xu).run P w = .ok u w' ∧ Ext φ φ' ∧ VR φ' (.ptr H.length 0) u ∧ Rel w0 φ' H' w' := by
  unfold arange at h
  split at h
  · rename_i s hu
    cases h
    cases hx
    have hnew : Rel w0 (φ ++ [⟨w.heap.size, 0, 0⟩]) (H ++ [.siter s 0]) { w with heap := w.heap.push (.stringIter ⟨⟨s⟩⟩ 0) } := by
      refine hr.alloc (.stringIter ⟨⟨s⟩⟩ 0) (l := ⟨w.heap.size, 0, 0⟩) rfl ⟨hr.below.fresh (Nat.le_refl _), rfl, ?_⟩
      simp
    refine ⟨.pointer (some ⟨w.heap.size, 0, none⟩), _, _, ?_, Ext.snoc _ _, hr.newPtr 0 0, hnew⟩
    unfold Instr.range
    rw [Sem.run_bind, run_underlying hu]
    rfl
  · cases h
def anext (it : AV) (isString : Bool) (H : AH) : Option (AV × Option (AH × Nat)) :=
  match it, isString with
  | .ptr b 0, true =>
    match H[b]? with
    | some (.siter s pos) =>
      if pos < s.length then
        some (.tuple [.bool true, .int .i64 pos, .int .i32 (Utf8.decode ⟨⟨s⟩⟩ pos).1], some (H.set b (.siter s (pos + (Utf8.decode ⟨⟨s⟩⟩ pos).2)), b))
      else some (.tuple [.bool false], none)
    | _ => none
  | _, _ => none
theorem anext_ok (hr : Rel w0 φ H w) {it v : AV} {iu : Value} {isString : Bool} {ty : TypeId} {ch : Option (AH × Nat)} (h : anext it isString H = some (v, ch)) (hi : VR φ it iu) :
    ∃ u w', (Instr.next iu isString ty).run P w = .ok u w' ∧ VR φ v u ∧ ChOk w0 w φ H φ w' ch := by
  unfold anext at h
  split at h
  · rename_i b
    split at h
    · rename_i s pos hb
      cases hi with
      | ptr hl =>
        rename_i l
        obtain ⟨h1, h2, h3⟩ := hr.blocks _ _ _ hb hl
        have hlt : l.blk < w.heap.size := (Array.getElem?_eq_some_iff.1 h3).1
        split at h
        · rename_i hp
          cases h
          refine ⟨.tuple #[.bool true, goInt pos, .int .i32 (Utf8.decode ⟨⟨s⟩⟩ pos).1], { w with heap := w.heap.setIfInBounds l.blk (.stringIter ⟨⟨s⟩⟩ (pos + (Utf8.decode ⟨⟨s⟩⟩ pos).2)) }, ?_, .tuple (.cons (.bool _) (.cons (.int _ _) (.cons (.int _ _) .nil))), ?_, Keeps.set _ _ _⟩
          · unfold Instr.next
            simp only [h2]
            have hs : (⟨⟨s⟩⟩ : ByteArray).size = s.length := rfl
            simp [getObj, Sem.run, h3, hs, hp, setObj]
          · refine hr.upd (k := .siter s pos) hb rfl hl rfl rfl rfl (by simp) (fun j hj _ => ?_) ⟨h1, h2, ?_⟩
            · simp only [Array.getElem?_setIfInBounds]
              rw [if_neg (Ne.symm hj)]
            · simp [hlt]
        · rename_i hp
          cases h
          refine ⟨.tuple #[.bool false], w, ?_, .tuple (.cons (.bool _) .nil), rfl, rfl⟩
          unfold Instr.next
          simp only [h2]
          have hs : (⟨⟨s⟩⟩ : ByteArray).size = s.length := rfl
          simp [getObj, Sem.run, h3, hs, hp]
    · cases h
  · cases h
theorem anext_keeps {it v : AV} {isString : Bool} {H' : AH} {lo : Nat} (h : anext it isString H = some (v, some (H', lo))) : Keeps lo H H' := by
  unfold anext at h
  (repeat' split at h) <;> first | (cases h; done) | (cases h; exact Keeps.set _ _ _)
end
end Go.Ve

namespace Go.Ve
open Go Go.RowKit

section
variable {P : Program} {w0 : Base} {w : World} {φ : List Loc} {H : AH}

theorem own_shape (hr : Rel w0 φ H w) {b esz : Nat} {vs : List AV} {l : Loc} (hb : H[b]? = some (.cells vs esz false)) (hl : φ[b]? = some l) :
    ∃ e n, w.shape? l.blk = some (e, n) ∧ l.sh + vs.length ≤ n ∧ ∀ t, tyOf esz = some t → e = t ∧ l.sh % szOf esz = 0 := by
  obtain ⟨⟨_, c, e, fz, h2, h3, _, h6⟩, _⟩ := hr.blocks b _ l hb hl
  exact ⟨e, c.size, by simp [World.shape?, h2], by omega, h6.1⟩

theorem liesAt_row {e : TypeId} {s : Nat} (hs : s ≠ 0) (hc : P.cellsOf e = s) (count off n : Nat) (h0 : off % s = 0) (hn : off / s + n ≤ count) : liesAt P P.depth e count off e n = true := by
  have hd : P.depth = (2 * (P.types.size + Made.depth) + 1) + 1 := rfl
  rw [hd]
  simp only [liesAt, Bool.or_eq_true]
  left
  rw [hd]
  simp [rowAt, hc, hn, hs, h0, sameLayout]

def aptr (P : Program) (src dst : TypeId) (x : AV) (H : AH) : Option AV :=
  match P.underlying src, P.underlying dst, x with
  | some (.pointer _), some .unsafePointer, .nilptr => some .nilptr
  | some .unsafePointer, some (.pointer _), .nilptr => some .nilptr
  | some (.pointer t), some .unsafePointer, .ptr b off =>
    match P.info? t, H[b]? with
    | some j, some (.cells vs _ false) => if j.size ≠ 0 ∧ off < vs.length then some (.ptr b off) else none
    | _, _ => none
  | some .unsafePointer, some (.pointer u), .ptr b off =>
    match P.info? u, H[b]? with
    | some j, some (.cells vs esz false) => if tyOf esz = some u ∧ szOf esz = j.size ∧ j.size ≠ 0 ∧ off % j.size = 0 ∧ off + j.size ≤ vs.length then some (.ptr b off) else none
    | _, _ => none
  | _, _, _ => none
theorem aptr_ok (hr : Rel w0 φ H w) {src dst : TypeId} {x v : AV} {xu : Value} (h : aptr P src dst x H = some v) (hx : VR φ x xu) : ∃ u, VR φ v u ∧ (convert src dst xu).run P w = .ok u w := by
  unfold aptr at h
  split at h
  · rename_i t hs hd
    cases h; cases hx
    refine ⟨_, .nilptr, ?_⟩
    simp [convert, run_underlying hs, run_underlying hd, Conv.unsafePointer]
  · rename_i t hs hd
    cases h; cases hx
    refine ⟨_, .nilptr, ?_⟩
    simp [convert, run_underlying hs, run_underlying hd, Conv.unsafePointer]
  · rename_i t b off hs hd
    split at h
    · rename_i j vs esz hj hb
      split at h
      · rename_i hc
        cases h
        cases hx with
        | ptr hl =>
          rename_i l
          obtain ⟨e, n, h1, h2, _⟩ := own_shape hr hb hl
          exact ⟨_, .ptr hl, Lib.run_to_unsafe w ⟨l.blk, l.sh + off, none⟩ hs hd hj hc.1 h1 (by simp; omega)⟩
      · cases h
    · cases h
  · rename_i u b off hs hd
    split at h
    · rename_i j vs esz hj hb
      split at h
      · rename_i hc
        obtain ⟨c1, c2, c3, c4, c5⟩ := hc
        cases h
        cases hx with
        | ptr hl =>
          rename_i l
          obtain ⟨e, n, h1, h2, h3⟩ := own_shape hr hb hl
          obtain ⟨h4, h5⟩ := h3 _ c1
          subst h4
          have hcell : P.cellsOf e = j.size := by simp [Program.cellsOf, hj]
          rw [c2] at h5
          refine ⟨_, .ptr hl, Lib.run_from_unsafe w ⟨l.blk, l.sh + off, none⟩ hs hd hj h1 ?_⟩
          refine liesAt_row c3 hcell _ _ _ ?_ ?_
          · show (l.sh + off) % j.size = 0
            rw [Nat.add_mod, h5, c4]; simp
          · show (l.sh + off) / j.size + 1 ≤ n / P.cellsOf e
            rw [hcell]
            have hpos : 0 < j.size := Nat.pos_of_ne_zero c3
            have : (l.sh + off + j.size) / j.size ≤ n / j.size := Nat.div_le_div_right (by omega)
            rwa [Nat.add_div_right _ hpos] at this
      · cases h
    · cases h
  · cases h

theorem run_loadB : ∀ (ns : List Int) (a : Addr) (s : List UInt8), (∀ j n, ns[j]? = some n → w.cell? (a.add j) = some (.int .u8 n)) →
    (loadBytes a ⟨⟨s⟩⟩ ns.length).run P w = .ok ⟨⟨s ++ ns.map fun n => UInt8.ofNat n.toNat⟩⟩ w
  | [], a, s, _ => by simp [loadBytes]
  | n :: ns, a, s, h => by
    have h0 : w.cell? a = some (.int .u8 n) := by
      have := h 0 n rfl
      simpa [Addr.add] using this
    have ih := run_loadB ns (a.add 1) (s ++ [UInt8.ofNat n.toNat]) (fun j y hy => by
      have := h (j + 1) y (by simpa using hy)
      have e : (a.add 1).add j = a.add (j + 1) := by
        unfold Addr.add
        by_cases hj : j = 0
        · subst hj; simp
        · simp [hj]; omega
      rw [e]; exact this)
    have hp : ByteArray.push (⟨⟨s⟩⟩ : ByteArray) n.toNat.toUInt8 = ⟨⟨s ++ [UInt8.ofNat n.toNat]⟩⟩ := congrArg ByteArray.mk (by apply Array.toList_inj.1; simp)
    simp only [List.length_cons, loadBytes, Sem.run_bind, run_load, h0, Result.andThen, hp]
    rw [ih]
    simp

/-- Freezing: the block is given up. -/
theorem Rel.freeze (hr : Rel w0 φ H w) {b esz : Nat} {vs : List AV} {l : Loc} (hb : H[b]? = some (.cells vs esz false)) (hl : φ[b]? = some l) (off n : Nat) : Rel w0 φ (H.set b .dead) (w.freeze ⟨l.blk, off, none⟩ n) := by
  refine hr.upd (k := .cells vs esz false) hb rfl hl ?_ ?_ ?_ ?_ ?_ trivial
  all_goals unfold World.freeze
  · split <;> rfl
  · split <;> rfl
  · split <;> rfl
  · split
    · exact Nat.le_refl _
    · simp
  · intro j hj _
    split
    · rfl
    · simp only [Array.getElem?_modify]
      rw [if_neg (Ne.symm hj)]

def aunsafe (P : Program) (b : Builtin) (ts : List TypeId) (xs : List AV) (H : AH) : Option (AV × Option (AH × Nat)) :=
  match b, ts, xs with
  | .unsafeSliceData, [_], [.nilsl] => some (.nilptr, none)
  | .unsafeSliceData, [_], [.sl b off _ cap _] => if cap ≠ 0 then some (.ptr b off, none) else none
  | .unsafeString, [_, _], [.nilptr, .int .i64 n] => if n = 0 then some (.str [], none) else none
  | .unsafeString, [pt, _], [.ptr b off, .int .i64 n] =>
    if n = 0 then some (.str [], none)
    else
      match P.underlying pt, H[b]? with
      | some (.pointer e), some (.cells vs esz false) =>
        if 0 < n ∧ n ≤ 9223372036854775807 ∧ tyOf esz = some e ∧ P.cellsOf e = 1 ∧ off + n.toNat ≤ vs.length then
          match abytes ((vs.drop off).take n.toNat) with
          | some s => some (.str s, some (H.set b .dead, b))
          | none => none
        else none
      | _, _ => none
  | _, _, _ => none
theorem aunsafe_ok (hr : Rel w0 φ H w) {b : Builtin} {ts : List TypeId} {type : TypeId} {consts : Array Bool} {xs : List AV} {us : List Value} {v : AV} {ch : Option (AH × Nat)} (h : aunsafe P b ts xs H = some (v, ch)) (hx : VRs φ xs us) :
    ∃ u w' φ', (builtin b ts.toArray type consts us.toArray).run P w = .ok (.value u) w' ∧ Ext φ φ' ∧ VR φ' v u ∧ ChOk w0 w φ H φ' w' ch := by
  unfold aunsafe at h
  split at h
  · cases h
    cases hx with
    | cons hx hn =>
      cases hn; cases hx
      exact ⟨_, w, φ, by simp [builtin, Lib.run_unsafeSliceData_nil], Ext.refl _, .nilptr, rfl, rfl⟩
  · rename_i b off len cap ex
    split at h
    · rename_i hc
      cases h
      cases hx with
      | cons hx hn =>
        cases hn
        cases hx with
        | sl hl =>
          refine ⟨_, w, φ, ?_, Ext.refl _, .ptr hl, rfl, rfl⟩
          have := fun ts ty a n => Lib.run_unsafeSliceData_row (P := P) w ts ty a n (cap + if ex = true then 0 else (Loc.slk ‹Loc›)) (by omega)
          simp [builtin, this]
    · cases h
  · rename_i pt it n
    split at h
    · rename_i h0
      cases h; subst h0
      cases hx with
      | cons hx hn =>
        cases hn with
        | cons hi hn =>
          cases hn; cases hx; cases hi
          exact ⟨_, w, φ, by simp [builtin, Lib.run_unsafeString_none]; rfl, Ext.refl _, .str [], rfl, rfl⟩
    · cases h
  · rename_i pt it b off n
    cases hx with
    | cons hx hn =>
      cases hn with
      | cons hi hn =>
        cases hn; cases hi
        cases hx with
        | ptr hl =>
          rename_i l
          split at h
          · rename_i h0
            cases h; subst h0
            exact ⟨_, w, φ, by simp [builtin, Lib.run_unsafeString_none]; rfl, Ext.refl _, .str [], rfl, rfl⟩
          · rename_i h0
            split at h
            · rename_i e vs esz hp hb
              split at h
              · rename_i hc
                obtain ⟨c1, c2, c3, c4, c5⟩ := hc
                split at h
                · rename_i s hs
                  cases h
                  obtain ⟨e', m, g1, g2, g3⟩ := own_shape hr hb hl
                  obtain ⟨g4, g5⟩ := g3 _ c3
                  subst g4
                  obtain ⟨vals, h1, h2, h3⟩ := ((hr.blocks b _ l hb hl).cellsR).get off _ c5
                  obtain ⟨ns, h4, h5⟩ := abytes_ok hs h2
                  subst h4
                  have hlen : ns.length = n.toNat := by simpa using h1
                  have hload := run_loadB (P := P) (w := w) ns ⟨l.blk, l.sh + off, none⟩ [] (fun j x hj => by
                    rw [add_mk]
                    exact h3 j _ (by simp [hj]))
                  rw [hlen] at hload
                  have hlies : liesAt P P.depth e' (m / P.cellsOf e') (l.sh + off) e' n.toNat = true := liesAt_row (by decide) c4 _ _ _ (Nat.mod_one _) (by rw [c4]; simp; omega)
                  refine ⟨.string ⟨⟨s⟩⟩, w.freeze ⟨l.blk, l.sh + off, none⟩ n.toNat, φ, ?_, Ext.refl _, .str s, hr.freeze hb hl _ _, Keeps.set _ _ _⟩
                  have hdef : Builtin.unsafeString_ #[pt, it] type #[.pointer (some ⟨l.blk, l.sh + off, none⟩), .int .i64 n] =
                      (do
                        let n ← asInt (.int .i64 n)
                        if n < 0 then runtimePanic (.error "unsafe.String: len out of range")
                        if n > IntKind.i64.max then unsupported (.unsafePointer "String: a length above the largest int")
                        if n = 0 then pure (.string .empty)
                        else if ← variablesAt ⟨l.blk, l.sh + off, none⟩ (← elemOf pt) n.toNat then do
                          let s ← loadBytes ⟨l.blk, l.sh + off, none⟩ .empty n.toNat
                          freeze ⟨l.blk, l.sh + off, none⟩ n.toNat
                          pure (.string s)
                        else unsupported (.unsafePointer "String: not so many bytes at ptr")) := rfl
                  have hmax : IntKind.i64.max = 9223372036854775807 := rfl
                  have hneg : ¬ n < 0 := by omega
                  have h63 : ¬ (9223372036854775807 : Int) < n := by omega
                  have hemp : (ByteArray.empty) = (⟨⟨[]⟩⟩ : ByteArray) := rfl
                  have hfin : (Builtin.unsafeString_ #[pt, it] type #[.pointer (some ⟨l.blk, l.sh + off, none⟩), .int .i64 n]).run P w = .ok (.string ⟨⟨s⟩⟩) (w.freeze ⟨l.blk, l.sh + off, none⟩ n.toNat) := by
                    rw [hdef, hemp]
                    simp [asInt, asIntOf, hmax, h63, hneg, h0, variablesAt, g1, elemOf, run_underlying hp, hlies, hload, h5]
                  simp [builtin, hfin]
                · cases h
              · cases h
            · cases h
  · cases h
theorem aunsafe_keeps {b : Builtin} {ts : List TypeId} {xs : List AV} {v : AV} {H' : AH} {lo : Nat} (h : aunsafe P b ts xs H = some (v, some (H', lo))) : Keeps lo H H' := by
  unfold aunsafe at h
  (repeat' split at h) <;> first | (cases h; done) | (cases h; exact Keeps.set _ _ _)

/-! ### New memory of whatever bytes -/
def anoz (P : Program) (fn : Func) (args : List AV) (H : AH) : Option (AV × AH) :=
  if fn.body.isNone && fn.origin == "" && fn.name == "internal/bytealg.MakeNoZero" then
    match fn.resultTypes.toList, args with
    | [t], [.int .i64 n] =>
      match P.underlying t with
      | some (.slice e) => if 0 ≤ n ∧ n ≤ 281474976710656 then some (.sl H.length 0 n.toNat n.toNat false, H ++ [.cells (List.replicate n.toNat .bad) (btag P e 1) false]) else none
      | _ => none
    | _, _ => none
  else none
theorem nextNoneZ : Extern.allNextRows.lookup "internal/bytealg.MakeNoZero" = none := by kernel_rfl
theorem nextNoneE : Extern.allNextRows.lookup "" = none := by kernel_rfl
theorem genZ : Extern.allGenericRows.lookup "internal/bytealg.MakeNoZero" = none := by kernel_rfl
theorem typZ : Extern.allTypedRows.lookup "internal/bytealg.MakeNoZero" = some Extern.BytealgMakeNoZero.makeNoZero := by kernel_rfl
theorem anoz_ok (hr : Rel w0 φ H w) {f : FuncId} {fn : Func} (hf : P.funcs[f]? = some fn) {args : List AV} {us : List Value} {v : AV} {H' : AH} (h : anoz P fn args H = some (v, H')) (hv : VRs φ args us) :
    ∃ u w' φ', (callFunc f us.toArray).run P w = .ok (.value u) w' ∧ Ext φ φ' ∧ VR φ' v u ∧ Rel w0 φ' H' w' := by
  unfold anoz at h
  split at h
  · rename_i hb
    simp only [Bool.and_eq_true, beq_iff_eq] at hb
    obtain ⟨⟨hb1, hb2⟩, hb3⟩ := hb
    split at h
    · rename_i t n ht
      split at h
      · rename_i e hu
        split at h
        · rename_i hn
          cases h
          cases hv with
          | cons h1 h2 =>
            cases h1; cases h2
            obtain ⟨m, rfl⟩ : ∃ m : Nat, n = (m : Int) := ⟨n.toNat, by omega⟩
            have hrt : fn.resultTypes = #[t] := by apply Array.toList_inj.1; rw [ht]
            obtain ⟨cs, g1, g2, _⟩ := Lib.run_makeNoZero (P := P) w fn.params t e hu m (by omega)
            have hsp : cs = (cs.toList.take m).toArray ++ (cs.toList.drop m).toArray := by apply Array.toList_inj.1; simp
            have hlen : cs.toList.length = cs.size := by simp
            have hd : Rel w0 φ H w.drew.drew := (hr.drew').drew'
            have hall : VRs φ (List.replicate m AV.bad) ((cs.toList.take m).toArray).toList := by
              refine VRs.of_get (by simp; omega) (fun j v u hj _ => ?_)
              have := List.mem_of_getElem? hj
              rw [(List.mem_replicate.1 this).2]
              exact .bad u
            have hnew := hd.newCells e hall (btag P e 1) (cs.size - m) (cs.toList.drop m).toArray (by rw [szOf_btag (by omega)]; simp) (fun t h => (tyOf_btag (by omega) h).1)
            rw [← hsp] at hnew
            have hsl := newSl (φ := φ) (H := H) hr.len ⟨w.heap.size, 0, cs.size - m⟩ m m
            simp only at hsl
            rw [show m + (cs.size - m) = cs.size by omega] at hsl
            refine ⟨_, _, φ ++ [⟨w.heap.size, 0, cs.size - m⟩], ?_, Ext.snoc _ _, by simpa using hsl, by simpa using hnew⟩
            have hg := g1
            rw [← hrt] at hg
            simp [callFunc, hf, hb2, hb3, Option.isNone_iff_eq_none.1 hb1, Extern.findNext, Extern.find, nextNoneZ, nextNoneE, genZ, typZ, hg]
            rfl
        · cases h
      · cases h
    · cases h
  · cases h
theorem anoz_keeps {fn : Func} {args : List AV} {v : AV} {H' : AH} (h : anoz P fn args H = some (v, H')) : Keeps H.length H H' := by
  unfold anoz at h
  (repeat' split at h) <;> first | (cases h; done) | (cases h; exact Keeps.append _ _ _)

/-! ### A pointer and itself -/
def aptrEq (P : Program) (op : BinOp) (t : TypeId) (x y : AV) : Option Bool :=
  match P.underlying t, x, y with
  | some (.pointer e), .ptr b off, .ptr b' off' =>
    if b = b' ∧ off = off' ∧ (P.info? e).isSome = true then
      match op with
      | .eql => some true
      | .neq => some false
      | _ => none
    else none
  | _, _, _ => none
theorem aptrEq_ok {op : BinOp} {t : TypeId} {xo yo : Operand} {x y : AV} {xu yu : Value} {r : Bool} (h : aptrEq P op t x y = some r) (hx : VR φ x xu) (hy : VR φ y yu) :
    ((do eqGuard op t xo yo xu yu; binOp op t xu yu : Sem Value)).run P w = .ok (.bool r) w := by
  unfold aptrEq at h
  split at h
  · rename_i e b off b' off' hu
    split at h
    · rename_i hc
      obtain ⟨rfl, rfl, hi⟩ := hc
      obtain ⟨j, hj⟩ := Option.isSome_iff_exists.1 hi
      cases hx with
      | ptr h1 =>
        rename_i l
        cases hy with
        | ptr h2 =>
          rw [h1] at h2; cases h2
          have heq : ∀ d : Nat, (Op.equalIn (d + 1) t (.pointer (some ⟨l.blk, l.sh + off, none⟩)) (.pointer (some ⟨l.blk, l.sh + off, none⟩))).run P w = .ok true w := fun d => by
            simp [Op.equalIn, run_underlying hu, sizeOf, typeInfo, hj, run_sameAddr_same]
          split at h
          · cases h
            have hg : (eqGuard .eql t xo yo (.pointer (some ⟨l.blk, l.sh + off, none⟩)) (.pointer (some ⟨l.blk, l.sh + off, none⟩))).run P w = .ok () w := rfl
            simp only [Sem.run_bind, hg, Result.andThen_ok]
            simp only [binOp]
            simp [Op.equal, Op.maxDepth, heq 9999]
          · cases h
            have hg : (eqGuard .neq t xo yo (.pointer (some ⟨l.blk, l.sh + off, none⟩)) (.pointer (some ⟨l.blk, l.sh + off, none⟩))).run P w = .ok () w := rfl
            simp only [Sem.run_bind, hg, Result.andThen_ok]
            simp only [binOp]
            simp [Op.equal, Op.maxDepth, heq 9999]
          · cases h
    · cases h
  · cases h
/-! ### Pointers to two variables, or to two places of one -/
def bareB : Option ABlk → Bool
  | some (.cells _ esz false) => szOf esz == 0
  | _ => false
def aptrNe (P : Program) (op : BinOp) (t : TypeId) (x y : AV) (H : AH) : Option Bool :=
  match P.underlying t, x, y with
  | some (.pointer e), .ptr b off, .ptr b' off' =>
    match P.info? e with
    | some i =>
      if i.size ≠ 0 ∧ ((b = b' ∧ off ≠ off') ∨ (b ≠ b' ∧ bareB H[b]? = true ∧ bareB H[b']? = true)) then
        match op with
        | .eql => some false
        | .neq => some true
        | _ => none
      else none
    | none => none
  | _, _, _ => none
theorem bare_cells (hr : Rel w0 φ H w) {b : Nat} {l : Loc} (h : bareB H[b]? = true) (hl : φ[b]? = some l) : ∃ vs esz, H[b]? = some (.cells vs esz false) ∧ ∃ c e, w.heap[l.blk]? = some (.cells c e (0, 0)) := by
  unfold bareB at h
  split at h
  · rename_i vs esz hb
    obtain ⟨⟨_, c, e, fz, h2, _, _, h6⟩, _⟩ := hr.blocks b _ l hb hl
    have := h6.2 (by simpa using h)
    subst this
    exact ⟨vs, esz, hb, c, e, h2⟩
  · cases h
theorem aptrNe_ok (hr : Rel w0 φ H w) {op : BinOp} {t : TypeId} {xo yo : Operand} {x y : AV} {xu yu : Value} {r : Bool} (h : aptrNe P op t x y H = some r) (hx : VR φ x xu) (hy : VR φ y yu) :
    ((do eqGuard op t xo yo xu yu; binOp op t xu yu : Sem Value)).run P w = .ok (.bool r) w := by
  unfold aptrNe at h
  split at h
  · rename_i e b off b' off' hu
    split at h
    · rename_i j hj
      split at h
      · rename_i hc
        obtain ⟨hsz, hc⟩ := hc
        cases hx with
        | ptr h1 =>
          rename_i l
          cases hy with
          | ptr h2 =>
            rename_i l'
            have hsame : (sameAddr ⟨l.blk, l.sh + off, none⟩ ⟨l'.blk, l'.sh + off', none⟩).run P w = .ok false w := by
              rcases hc with ⟨rfl, hoff⟩ | ⟨hne, hb1, hb2⟩
              · rw [h1] at h2; cases h2
                have : ¬ l.sh + off = l.sh + off' := by omega
                have h3 : ((⟨l.blk, l.sh + off, none⟩ : Addr) == ⟨l.blk, l.sh + off', none⟩) = false := by
                  rw [beq_eq_false_iff_ne]
                  intro he
                  exact this (congrArg Addr.off he)
                unfold sameAddr
                rw [if_pos (beq_self_eq_true l.blk), h3]
                rfl
              · obtain ⟨vs, e1, g1, c1, t1, g2⟩ := bare_cells hr hb1 h1
                obtain ⟨vs', e2, g3, c2, t2, g4⟩ := bare_cells hr hb2 h2
                have hbl : l.blk ≠ l'.blk := fun he => hne (hr.inj b b' _ _ l l' g1 g3 h1 h2 rfl rfl he)
                exact run_sameAddr_other w (fun he => hbl (congrArg Addr.block he)) g2 g4
            have heq : ∀ d : Nat, (Op.equalIn (d + 1) t (.pointer (some ⟨l.blk, l.sh + off, none⟩)) (.pointer (some ⟨l'.blk, l'.sh + off', none⟩))).run P w = .ok false w := fun d => by
              simp [Op.equalIn, run_underlying hu, sizeOf, typeInfo, hj, hsz, hsame]
            split at h
            · cases h
              have hg : (eqGuard .eql t xo yo (.pointer (some ⟨l.blk, l.sh + off, none⟩)) (.pointer (some ⟨l'.blk, l'.sh + off', none⟩))).run P w = .ok () w := rfl
              simp only [Sem.run_bind, hg, Result.andThen_ok]
              simp only [binOp]
              simp [Op.equal, Op.maxDepth, heq 9999]
            · cases h
              have hg : (eqGuard .neq t xo yo (.pointer (some ⟨l.blk, l.sh + off, none⟩)) (.pointer (some ⟨l'.blk, l'.sh + off', none⟩))).run P w = .ok () w := rfl
              simp only [Sem.run_bind, hg, Result.andThen_ok]
              simp only [binOp]
              simp [Op.equal, Op.maxDepth, heq 9999]
            · cases h
      · cases h
    · cases h
  · cases h
end
end Go.Ve

namespace Go.Ve
open Go Go.RowKit

inductive AO where
  | val (v : AV) (ch : Option (AH × Nat))
  | call (f : FuncId) (args : List AV)
  | round (b : Nat) (fr : List AV) (assign body : Code)

section
variable {P : Program} {w0 : Base} {w : World} {φ : List Loc} {H : AH}

def scs : List AV → Option (List Value)
  | [] => some []
  | x :: r =>
    match x.sc, scs r with
    | some u, some us => some (u :: us)
    | _, _ => none
theorem scs_ok : ∀ {vs : List AV} {us us' : List Value}, scs vs = some us → VRs φ vs us' → us' = us
  | [], us, us', h, hv => by cases hv; simp [scs] at h; exact h.symm
  | v :: vs, us, us', h, hv => by
    cases hv with
    | cons h1 h2 =>
      simp only [scs] at h
      split at h
      · rename_i u us1 hu hus
        cases h
        rw [sc_ok hu h1, scs_ok hus h2]
      · cases h

/-- A string as well. -/
def scS : AV → Option Value
  | .str s => some (.string ⟨⟨s⟩⟩)
  | v => v.sc
theorem scS_ok {v : AV} {u u' : Value} (h : scS v = some u) (hv : VR φ v u') : u' = u := by
  cases hv <;> simp [scS, AV.sc] at h <;> exact h
def scsS : List AV → Option (List Value)
  | [] => some []
  | x :: r =>
    match scS x, scsS r with
    | some u, some us => some (u :: us)
    | _, _ => none
theorem scsS_ok : ∀ {vs : List AV} {us us' : List Value}, scsS vs = some us → VRs φ vs us' → us' = us
  | [], us, us', h, hv => by cases hv; simp [scsS] at h; exact h.symm
  | v :: vs, us, us', h, hv => by
    cases hv with
    | cons h1 h2 =>
      simp only [scsS] at h
      split at h
      · rename_i u us1 hu hus
        cases h
        rw [scS_ok hu h1, scsS_ok hus h2]
      · cases h

/-- Structs of plain data, compared. -/
def aaggEq (P : Program) (op : BinOp) (t : TypeId) (xo yo : Operand) (x y : AV) : Option Bool :=
  match x, y with
  | .agg a, .agg b =>
    match scsS a, scsS b with
    | some us, some vs =>
      match pureRun P (do eqGuard op t xo yo (.agg us.toArray) (.agg vs.toArray); binOp op t (.agg us.toArray) (.agg vs.toArray) : Sem Value) with
      | some (.bool r) => some r
      | _ => none
    | _, _ => none
  | .iface t1 a, .iface t2 b =>
    match scS a, scS b with
    | some u, some v =>
      match pureRun P (do eqGuard op t xo yo (.iface t1 u) (.iface t2 v); binOp op t (.iface t1 u) (.iface t2 v) : Sem Value) with
      | some (.bool r) => some r
      | _ => none
    | _, _ => none
  | _, _ => none
theorem aaggEq_ok {op : BinOp} {t : TypeId} {xo yo : Operand} {x y : AV} {xu yu : Value} {r : Bool} (h : aaggEq P op t xo yo x y = some r) (hx : VR φ x xu) (hy : VR φ y yu) :
    ((do eqGuard op t xo yo xu yu; binOp op t xu yu : Sem Value)).run P w = .ok (.bool r) w := by
  unfold aaggEq at h
  split at h
  · rename_i a b
    split at h
    · rename_i us vs h1 h2
      split at h
      · rename_i r' hp
        cases h
        cases hx with
        | agg ha =>
          cases hy with
          | agg hb =>
            have e1 := scsS_ok h1 ha
            have e2 := scsS_ok h2 hb
            subst e1; subst e2
            simpa using pureRun_ok w hp
      · cases h
    · cases h
  · rename_i t1 a t2 b
    split at h
    · rename_i u v h1 h2
      split at h
      · rename_i r' hp
        cases h
        cases hx with
        | iface _ ha =>
          cases hy with
          | iface _ hb =>
            rw [scS_ok h1 ha, scS_ok h2 hb]
            exact pureRun_ok w hp
      · cases h
    · cases h
  · cases h
def aeqX (P : Program) (op : BinOp) (t : TypeId) (xo yo : Operand) (x y : AV) : Option Bool :=
  match aptrEq P op t x y with
  | some b => some b
  | none => aaggEq P op t xo yo x y
theorem aeqX_ok {op : BinOp} {t : TypeId} {xo yo : Operand} {x y : AV} {xu yu : Value} {r : Bool} (h : aeqX P op t xo yo x y = some r) (hx : VR φ x xu) (hy : VR φ y yu) :
    ((do eqGuard op t xo yo xu yu; binOp op t xu yu : Sem Value)).run P w = .ok (.bool r) w := by
  unfold aeqX at h
  split at h
  · rename_i b hb
    cases h
    exact aptrEq_ok hb hx hy
  · exact aaggEq_ok h hx hy
def alenOf (P : Program) (t : TypeId) (H : AH) (x : AV) : Option Nat :=
  match P.underlying t with
  | some .string =>
    match x with
    | .str s => some s.length
    | _ => none
  | some (.slice _) =>
    match x with
    | .sl _ _ len _ _ => some len
    | .nilsl => some 0
    | .sle .. => some 0
    | .slz => some 0
    | _ => none
  | some (.array n _) => some n
  | some (.pointer a) =>
    match P.underlying a with
    | some (.array n _) => some n
    | _ => none
  | some (.map _ _) =>
    match x with
    | .nilmap => some 0
    | .map b =>
      match H[b]? with
      | some (.map es _) => some es.length
      | _ => none
    | _ => none
  | _ => none
theorem EntryR.length : ∀ {es : List (AV × AV)} {ms : List MapEntry}, EntryR φ es ms → es.length = ms.length
  | [], [], _ => rfl
  | _ :: _, _ :: _, h => by simp [EntryR.length h.2.2]
  | [], _ :: _, h => h.elim
  | _ :: _, [], h => h.elim
theorem alenOf_ok (hr : Rel w0 φ H w) {t ty : TypeId} {x : AV} {xu : Value} {n : Nat} (h : alenOf P t H x = some n) (hx : VR φ x xu) : (Builtin.len_ #[t] ty #[xu]).run P w = .ok (.int .i64 n) w := by
  unfold alenOf at h
  split at h
  · rename_i hu
    cases hx <;> simp at h
    subst h
    simp [Builtin.len_, run_underlying hu, size_mk, goInt]
  · rename_i e hu
    cases hx <;> simp at h <;> subst h <;> simp [Builtin.len_, run_underlying hu, goInt]
  · rename_i m e hu
    cases h
    simp [Builtin.len_, run_underlying hu, goInt]
  · rename_i a hu
    split at h
    · rename_i m e ha
      cases h
      simp [Builtin.len_, run_underlying hu, run_underlying ha, goInt]
    · cases h
  · rename_i k e hu
    cases hx <;> simp at h
    · subst h; simp [Builtin.len_, run_underlying hu, goInt]
    · rename_i b l hl
      split at h
      · rename_i es ro hb
        cases h
        obtain ⟨_, ms, c, h2, h3⟩ := hr.blocks _ _ _ hb hl
        have hlen := h3.e.length
        simp only [Array.length_toList] at hlen
        simp [Builtin.len_, run_underlying hu, goInt, getObj, Sem.run, h2, hlen]
      · cases h
  · cases h

/-- The block that an append may give up or write. -/
def wrOf (H : AH) : AV → Nat
  | .sl b _ _ _ _ => b
  | .sle b _ _ => b
  | _ => H.length

/-- clear of a slice: zero values. -/
def aclear (P : Program) (t : TypeId) (x : AV) (H : AH) : Option (Option (AH × Nat)) :=
  match P.underlying t, x with
  | some (.slice _), .nilsl => some none
  | some (.slice e), .sl b off len _ _ =>
    if len = 0 then some none
    else
      match azero P e, H[b]? with
      | some z, some (.cells vs esz false) =>
        if AV.allOne (azeros len z) = true ∧ off + (azeros len z).length ≤ vs.length then some (some (H.set b (.cells (setManyF vs off (azeros len z)) esz false), b)) else none
      | _, _ => none
  | _, _ => none
theorem aclear_ok (hr : Rel w0 φ H w) {t ty : TypeId} {x : AV} {xu : Value} {ch : Option (AH × Nat)} (h : aclear P t x H = some ch) (hx : VR φ x xu) :
    ∃ w', (Builtin.clear_ #[t] ty #[xu]).run P w = .ok (.tuple #[]) w' ∧ (match ch with | none => w' = w | some (H', lo) => Rel w0 φ H' w' ∧ Keeps lo H H') := by
  unfold aclear at h
  split at h
  · rename_i e hu _h
    cases h; cases hx
    exact ⟨w, by simp [Builtin.clear_, run_underlying hu], rfl⟩
  · rename_i e b off len cap ex hu _h
    split at h
    · rename_i h0
      cases h; subst h0
      cases hx with
      | sl hl => exact ⟨w, by simp [Builtin.clear_, run_underlying hu], rfl⟩
    · rename_i h0
      split at h
      · rename_i z vs esz hz hb
        split at h
        · rename_i hc
          obtain ⟨hone, hle⟩ := hc
          rw [setManyF_eq] at h
          cases h
          cases hx with
          | sl hl =>
            rename_i l
            obtain ⟨i, zv, h1, h2, h3⟩ := azero_ok hz φ
            obtain ⟨n, rfl⟩ : ∃ n, len = n + 1 := ⟨len - 1, by omega⟩
            obtain ⟨w', h4, h5⟩ := storeCells_ok (P := P) hl (azeros (n + 1) z) _ vs off 0 H w hr hb (azeros_ok h3 (n + 1)) (allOne_mem hone) (by omega)
            have hzero : (zeroValue e).run P w = .ok zv w := by simp [zeroValue, typeInfo, h1, h2]
            have hz2 : (Builtin.zeroCells zv.cells (n + 1)).toList = (List.replicate (n + 1) zv.cells.toList).flatten := range_mod zv.cells (n + 1)
            refine ⟨w', ?_, by simpa using h5, Keeps.set _ _ _⟩
            rw [← hz2] at h4
            simp [Builtin.clear_, run_underlying hu, hzero, h4]
        · cases h
      · cases h
  · cases h

def abuiltin (P : Program) (b : Builtin) (ts : List TypeId) (xs : List AV) (H : AH) : Option (AV × Option (AH × Nat)) :=
  match b, ts, xs with
  | .len, [t], [x] => (alenOf P t H x).map fun n => (.int .i64 n, none)
  | .cap, [t], [x] =>
    match P.underlying t, x with
    | some (.slice _), .sl _ _ _ c true => some (.int .i64 c, none)
    | some (.slice _), .nilsl => some (.int .i64 0, none)
    | _, _ => none
  | .append, [t, t2], [s, x] => (aappend P t t2 s x H).map fun r => (r.1, some (r.2, wrOf H s))
  | .copy, [t, _], [d, s] => acopy P t d s H
  | .clear, [t], [x] => (aclear P t x H).map fun ch => (.tuple [], ch)
  | .min, _, xs =>
    match scs xs with
    | some us => (pureRun P (Builtin.min_ #[] 0 us.toArray)).map fun v => (ofV1 v, none)
    | none => none
  | .max, _, xs =>
    match scs xs with
    | some us => (pureRun P (Builtin.max_ #[] 0 us.toArray)).map fun v => (ofV1 v, none)
    | none => none
  | .delete, t :: _, [m, k] => (adelete P t m k H).map fun H' => (.tuple [], some (H', mapOf m))
  | b, ts, xs => aunsafe P b ts xs H

theorem aappend_keeps {t t2 : TypeId} {s x v : AV} {H' : AH} (h : aappend P t t2 s x H = some (v, H')) : Keeps (wrOf H s) H H' := by
  unfold aappend at h
  split at h
  · split at h
    · split at h
      · split at h
        · cases h
        · split at h
          · split at h
            · cases h; exact Keeps.refl _ _
            · split at h
              · cases h; exact Keeps.append _ _ _
              · cases h
          · split at h
            · split at h
              · split at h
                · cases h; exact Keeps.refl _ _
                · split at h
                  · split at h
                    · cases h; exact Keeps.set _ _ _
                    · cases h
                  · split at h
                    · split at h
                      · cases h; exact Keeps.append _ _ _
                      · split at h
                        · cases h; exact (Keeps.set _ _ _).trans (Keeps.append _ _ _)
                        · cases h
                    · cases h
              · cases h
            · cases h
          · split at h
            · cases h; exact Keeps.refl _ _
            · split at h
              · split at h
                · split at h
                  · cases h; exact (Keeps.set _ _ _).trans (Keeps.append _ _ _)
                  · cases h
                · cases h
              · cases h
          · split at h
            · cases h; exact Keeps.refl _ _
            · split at h
              · cases h; exact Keeps.append _ _ _
              · cases h
          · cases h
      · cases h
    · cases h
  · cases h

theorem abuiltin_ok (hr : Rel w0 φ H w) {b : Builtin} {ts : List TypeId} {type : TypeId} {consts : Array Bool} {xs : List AV} {us : List Value} {v : AV} {ch : Option (AH × Nat)} (h : abuiltin P b ts xs H = some (v, ch)) (hx : VRs φ xs us) :
    ∃ u w' φ', (builtin b ts.toArray type consts us.toArray).run P w = .ok (.value u) w' ∧ Ext φ φ' ∧ VR φ' v u ∧ ChOk w0 w φ H φ' w' ch := by
  unfold abuiltin at h
  split at h
  · rename_i t x
    cases hx with
    | cons hx hn =>
      cases hn
      cases hl : alenOf P t H x with
      | none => rw [hl] at h; cases h
      | some n =>
        rw [hl] at h; cases h
        exact ⟨_, w, φ, by simp [builtin, alenOf_ok (P := P) hr hl hx], Ext.refl _, .int _ _, rfl, rfl⟩
  · rename_i t x
    cases hx with
    | cons hx hn =>
      cases hn
      split at h
      · rename_i e b off len c hu
        cases h
        cases hx with
        | sl hl => exact ⟨_, w, φ, by simp [builtin, Builtin.cap_, run_underlying hu, goInt], Ext.refl _, .int _ _, rfl, rfl⟩
      · rename_i e hu
        cases h
        cases hx
        exact ⟨_, w, φ, by simp [builtin, Builtin.cap_, run_underlying hu, goInt], Ext.refl _, .int _ _, rfl, rfl⟩
      · cases h
  · rename_i t t2 s x
    cases hx with
    | cons hs hn =>
      cases hn with
      | cons hx hn =>
        cases hn
        cases ha : aappend P t t2 s x H with
        | none => rw [ha] at h; cases h
        | some r =>
          obtain ⟨v', H'⟩ := r
          rw [ha] at h; cases h
          obtain ⟨u, w', φ', h1, h2, h3, h4⟩ := aappend_ok (P := P) (ty := type) hr ha hs hx
          exact ⟨u, w', φ', by simp [builtin, h1], h2, h3, h4, aappend_keeps ha⟩
  · rename_i t t2 d s
    cases hx with
    | cons hd hn =>
      cases hn with
      | cons hs hn =>
        cases hn
        obtain ⟨u, w', h1, h2, h3⟩ := acopy_ok (P := P) (sT := t2) (ty := type) hr h hd hs
        refine ⟨u, w', φ, by simp [builtin, h1], Ext.refl _, h2, ?_⟩
        cases ch with
        | none => exact ⟨h3, rfl⟩
        | some c => exact h3
  · rename_i t x
    cases hx with
    | cons hx hn =>
      cases hn
      cases ha : aclear P t x H with
      | none => rw [ha] at h; cases h
      | some c =>
        rw [ha] at h; cases h
        obtain ⟨w', h1, h2⟩ := aclear_ok (P := P) (ty := type) hr ha hx
        refine ⟨_, w', φ, by simp [builtin, h1], Ext.refl _, .tuple .nil, ?_⟩
        cases ch with
        | none => exact ⟨h2, rfl⟩
        | some c => exact h2
  · split at h
    · rename_i us' hs
      cases hp : pureRun P (Builtin.min_ #[] 0 us'.toArray) with
      | none => rw [hp] at h; cases h
      | some r =>
        rw [hp] at h; cases h
        have he := scs_ok hs hx
        subst he
        have := pureRun_ok w hp
        refine ⟨r, w, φ, ?_, Ext.refl _, ofV1_ok _ _, rfl, rfl⟩
        have e : Builtin.min_ ts.toArray type us.toArray = Builtin.min_ #[] 0 us.toArray := rfl
        simp [builtin, e, this]
    · cases h
  · split at h
    · rename_i us' hs
      cases hp : pureRun P (Builtin.max_ #[] 0 us'.toArray) with
      | none => rw [hp] at h; cases h
      | some r =>
        rw [hp] at h; cases h
        have he := scs_ok hs hx
        subst he
        have := pureRun_ok w hp
        refine ⟨r, w, φ, ?_, Ext.refl _, ofV1_ok _ _, rfl, rfl⟩
        have e : Builtin.max_ ts.toArray type us.toArray = Builtin.max_ #[] 0 us.toArray := rfl
        simp [builtin, e, this]
    · cases h
  · rename_i t ts m k
    cases hx with
    | cons hm hn =>
      cases hn with
      | cons hk hn =>
        cases hn
        cases ha : adelete P t m k H with
        | none => rw [ha] at h; cases h
        | some H' =>
          rw [ha] at h; cases h
          obtain ⟨w', h1, h2, _⟩ := adelete_ok (P := P) (ty := type) (ts := ts) hr ha hm hk
          refine ⟨.tuple #[], w', φ, ?_, Ext.refl _, .tuple .nil, h2, adelete_keeps ha⟩
          simp only [builtin]
          rw [Sem.run_bind, h1]
          rfl
  · exact aunsafe_ok hr h hx

def ptrOf : AV → Nat
  | .ptr b _ => b
  | _ => 0
theorem astore_keeps {t : TypeId} {p v : AV} {H' : AH} (h : astore P t H p v = some H') : Keeps (ptrOf p) H H' := by
  unfold astore at h
  split at h
  · split at h
    · split at h
      · cases h; exact Keeps.set _ _ _
      · cases h
    · cases h
  · cases h
theorem abuildSlice_keeps {t : TypeId} {n : Nat} {ps : List (Nat × AV)} {v : AV} {H' : AH} (h : abuildSlice P t n ps H = some (v, H')) : Keeps H.length H H' := by
  unfold abuildSlice at h
  split at h
  · split at h
    · split at h
      · split at h
        · cases h; exact Keeps.append _ _ _
        · cases h
      · cases h
    · cases h
  · cases h

def notBad : AV → Bool
  | .bad => false
  | _ => true
def isPlain : AV → Bool
  | .ptr .. | .gptr .. | .fn (.func _) _ _ | .yld _ | .map _ | .sl .. | .iface .. => true
  | _ => false

/-- The parameters of a round. -/
def aparams (ps : List Tmp) (args : List AV) (fr : List AV) : List AV := (ps.zip args).foldl (fun fr p => fr.set p.1 p.2) fr
theorem aparams_ok {ps : Array Tmp} {args fr : List AV} {us tm : Array Value} (hf : VRs φ fr tm.toList) (ha : VRs φ args us.toList) : VRs φ (aparams ps.toList args fr) ((ps.zip us).foldl (fun tmps (p : Tmp × Value) => tmps.setIfInBounds p.1 p.2) tm).toList := by
  unfold aparams
  rw [← Array.foldl_toList, Array.toList_zip]
  generalize ps.toList = pl
  generalize us.toList = ul at ha
  induction pl generalizing args ul fr tm with
  | nil => exact hf
  | cons p pl ih =>
    cases ha with
    | nil => exact hf
    | cons h1 h2 =>
      simp only [List.zip_cons_cons, List.foldl_cons]
      refine ih ?_ _ h2
      rw [Array.toList_setIfInBounds]
      exact hf.set p h1
noncomputable def acall (P : Program) (c : Call) (ρ : Operand → AV) (H : AH) : Option AO :=
  match c.callee with
  | .builtin b => (abuiltin P b c.argTypes.toList (c.args.toList.map ρ) H).map fun r => .val r.1 r.2
  | .value f =>
    match ρ f with
    | .fn (.func g) first cap =>
      match P.funcs[g]? with
      | some fn => if fn.body.isSome then some (.call g (first ++ c.args.toList.map ρ ++ cap)) else
        match anoz P fn (first ++ c.args.toList.map ρ ++ cap) H with
        | some r => some (.val r.1 (some (r.2, H.length)))
        | none => (aextern fn (first ++ c.args.toList.map ρ ++ cap)).map fun v => .val v none
      | none => none
    | .yld b =>
      match H[b]? with
      | some (.loop fr ps as bd _ _ _) => if c.args.size = ps.size then some (.round b (aparams ps.toList (c.args.toList.map ρ) fr) as bd) else none
      | _ => none
    | _ => none
  | _ => none

noncomputable def aop (P : Program) (o : Oper) (ρ : Operand → AV) (H : AH) : Option AO :=
  match o.op with
  | .move x => some (.val (ρ x) none)
  | .assign x => some (.val (ρ x) none)
  | .pick c a b =>
    match ρ c with
    | .bool t => some (.val (if t then ρ a else ρ b) none)
    | _ => none
  | .alloc e =>
    match azero P e with
    | some z => some (.val (.ptr H.length 0) (some (H ++ [.cells z (etag P e z.length) false], H.length)))
    | none => none
  | .box _ x => if notBad (ρ x) then some (.val (.ptr H.length 0) (some (H ++ [.cells (ρ x).cells 0 false], H.length))) else none
  | .build t ps => (abuild P t (ps.toList.map fun p => (p.1, ρ p.2))).map fun v => .val v none
  | .buildSlice t n ps => (abuildSlice P t n (ps.toList.map fun p => (p.1, ρ p.2)) H).map fun r => .val r.1 (some (r.2, H.length))
  | .load t a => (aload P t H (ρ a)).map fun v => .val v none
  | .store t a x => (astore P t H (ρ a) (ρ x)).map fun H' => .val (.tuple []) (some (H', ptrOf (ρ a)))
  | .nilCheck x => if isPlain (ρ x) then some (.val (ρ x) none) else none
  | .binOp op t x y _ =>
    match abinOp P op t x y (ρ x) (ρ y) with
    | some v => some (.val v none)
    | none =>
      match aeqX P op t x y (ρ x) (ρ y) with
      | some b => some (.val (.bool b) none)
      | none =>
        match ananOp op (ρ x) (ρ y) with
        | some v => some (.val v (some (H, H.length)))
        | none => (aptrNe P op t (ρ x) (ρ y) H).map fun b => .val (.bool b) (some (H, H.length))
  | .unOp op _ x =>
    match (ρ x).sc with
    | some a => (pureRun P (Op.unary op a)).map fun v => .val (ofV1 v) none
    | none => none
  | .convert s d x =>
    match aptr P s d (ρ x) H with
    | some v => some (.val v none)
    | none => (aconvert P s d (ρ x) H).map fun r => .val r.1 r.2
  | .makeInterface t x =>
    match P.underlying t with
    | some (.interface _) => none
    | some _ => some (.val (.iface t (ρ x)) none)
    | none => none
  | .makeFunc f first cap => some (.val (.fn f (first.toList.map ρ) (cap.toList.map ρ)) none)
  | .makeSlice t l c => (amakeSlice P t (ρ l) (ρ c) H).map fun r => .val r.1 (some (r.2, H.length))
  | .slice t x lo hi mx => (aslice P t (ρ x) (lo.map ρ) (hi.map ρ) (mx.map ρ)).map fun v => .val v none
  | .fieldAddr s x f => (afieldAt P s (ρ x) f).map fun v => .val v none
  | .field t x f => (afield P t (ρ x) f).map fun v => .val v none
  | .indexAddr t x i => (aindexAt P t (ρ x) (ρ i)).map fun v => .val v none
  | .index t x i => (aindex P t (ρ x) (ρ i)).map fun v => .val v none
  | .extract x i => (aextract (ρ x) i).map fun v => .val v none
  | .call c => acall P c ρ H
  | .makeMap t r =>
    match r with
    | none => some (.val (.map H.length) (some (H ++ [.map [] false], H.length)))
    | some x =>
      match P.underlying t, ρ x with
      | some (.map _ _), .int _ _ => some (.val (.map H.length) (some (H ++ [.map [] false], H.length)))
      | _, _ => none
  | .lookup t x k ok => (alookup P t (ρ x) (ρ k) ok H).map fun v => .val v none
  | .mapUpdate t m k x => (amapUpdate P t (ρ m) (ρ k) (ρ x) H).map fun H' => .val (.tuple []) (some (H', mapOf (ρ m)))
  | .insert t m k x => (amapUpdate P t (ρ m) (ρ k) (ρ x) H).map fun H' => .val (.tuple []) (some (H', mapOf (ρ m)))
  | .range t x => (arange P t (ρ x) H).map fun H' => .val (.ptr H.length 0) (some (H', H.length))
  | .next it s => (anext (ρ it) s H).map fun r => .val r.1 r.2
  | _ => none

/-- An operation does what the evaluator says. -/
def OpOk (P : Program) (w0 : Base) (w : World) (φ : List Loc) (H : AH) (ρ : Operand → Value) (o : Oper) : AO → Prop
  | .val v ch => ∃ n u w' φ', (execOp ρ o).run P w = .ok n w' ∧ (n = .value u ∨ (n = .skip ∧ u = undef)) ∧ Ext φ φ' ∧ VR φ' v u ∧ ChOk w0 w φ H φ' w' ch
  | .call f args => ∃ us, (execOp ρ o).run P w = .ok (.enter f us) w ∧ VRs φ args us.toList
  | .round b fr as bd => ∃ l tm fn, φ[b]? = some l ∧ (execOp ρ o).run P w = .ok (.round l.blk fn tm as bd) w ∧ VRs φ fr tm.toList

theorem opOk_val {ρ : Operand → Value} {o : Oper} {s : Sem Value} (he : execOp ρ o = (do pure (.value (← s)))) {v : AV} {u : Value} {ch : Option (AH × Nat)} {w' : World} {φ' : List Loc} (hs : s.run P w = .ok u w') (hx : Ext φ φ') (hv : VR φ' v u) (hc : ChOk w0 w φ H φ' w' ch) :
    OpOk P w0 w φ H ρ o (.val v ch) :=
  ⟨.value u, u, w', φ', by rw [he]; simp [hs], .inl rfl, hx, hv, hc⟩
theorem VRs.map_op {ρa : Operand → AV} {ρ : Operand → Value} (h : ∀ x, VR φ (ρa x) (ρ x)) (l : List Operand) : VRs φ (l.map ρa) (l.map ρ) := VRs.map_of l ρa ρ fun x _ => h x
theorem VRo.map_op {ρa : Operand → AV} {ρ : Operand → Value} (h : ∀ x, VR φ (ρa x) (ρ x)) : ∀ l : Option Operand, VRo φ (l.map ρa) (l.map ρ)
  | none => trivial
  | some x => h x
theorem PartsR.map_op {ρa : Operand → AV} {ρ : Operand → Value} (h : ∀ x, VR φ (ρa x) (ρ x)) : ∀ l : List (Nat × Operand), PartsR φ (l.map fun p => (p.1, ρa p.2)) (l.map fun p => (p.1, ρ p.2))
  | [] => trivial
  | _ :: r => ⟨rfl, h _, PartsR.map_op h r⟩

theorem acall_ok (hP : P.funcs.all (fun fn => !(fn.name == "runtime.NumGoroutine")) = true) (hr : Rel w0 φ H w) {o : Oper} {c : Call} {ρa : Operand → AV} {ρ : Operand → Value} {r : AO} (ho : o.op = .call c) (h : acall P c ρa H = some r) (hρ : ∀ x, VR φ (ρa x) (ρ x)) : OpOk P w0 w φ H ρ o r := by
  have hexec : execOp ρ o = (do let d ← resolve ρ c o.type; invoke d.target d.args) := by simp only [execOp, ho]
  unfold acall at h
  split at h
  · rename_i b hcal
    cases hb : abuiltin P b c.argTypes.toList (c.args.toList.map ρa) H with
    | none => rw [hb] at h; cases h
    | some q =>
      obtain ⟨v, ch⟩ := q
      rw [hb] at h; cases h
      obtain ⟨u, w', φ', h1, h2, h3, h4⟩ := abuiltin_ok (P := P) (type := o.type) (consts := c.args.map fun | .const _ => true | _ => false) hr hb (VRs.map_op hρ _)
      refine ⟨.value u, u, w', φ', ?_, .inl rfl, h2, h3, h4⟩
      rw [hexec]
      have e : (List.map ρ c.args.toList).toArray = c.args.map ρ := by rw [← Array.toList_map]
      rw [e] at h1
      simp only [resolve, hcal, pure_bind, invoke]
      exact h1
  · rename_i f hcal
    split at h
    · rename_i g first cap hf
      split at h
      · rename_i fn hg
        split at h
        · rename_i hbody
          cases h
          have hv := hρ f
          rw [hf] at hv
          generalize hfu : ρ f = fu at hv
          cases hv with
          | fn _ h1 h2 =>
            rename_i fs cs
            refine ⟨fs ++ c.args.map ρ ++ cs, ?_, ?_⟩
            · rw [hexec]
              have hname : (fn.name == "runtime.NumGoroutine") = false := by
                have hmem : fn ∈ P.funcs := Array.mem_of_getElem? hg
                have := (Array.all_eq_true_iff_forall_mem.1 hP) fn hmem
                simpa using this
              have hnone : fn.body.isNone = false := by cases hb : fn.body with | none => rw [hb] at hbody; cases hbody | some _ => rfl
              simp only [resolve, hcal, hfu, Deferred.ofValue, pure_bind, invoke, callFunc, Sem.run_bind, run_program, Result.andThen_ok, hg, hname, hnone, Bool.false_eq_true, if_false]
              rfl
            · simp only [Array.toList_append, Array.toList_map]
              exact (h1.append (VRs.map_op hρ _)).append h2
        · split at h
          · rename_i q hz
            obtain ⟨v, H'⟩ := q
            cases h
            have hv := hρ f
            rw [hf] at hv
            generalize hfu : ρ f = fu at hv
            cases hv with
            | fn _ h1 h2 =>
              rename_i fs cs
              obtain ⟨u, w', φ', h3, h4, h5, h6⟩ := anoz_ok (w := w) hr hg hz ((h1.append (VRs.map_op hρ c.args.toList)).append h2)
              refine ⟨.value u, u, w', φ', ?_, .inl rfl, h4, h5, h6, anoz_keeps hz⟩
              rw [hexec]
              simp only [resolve, hcal, hfu, Deferred.ofValue, pure_bind, invoke]
              rw [← h3]
              congr 2
              apply Array.toList_inj.1
              simp
          · cases he : aextern fn (first ++ c.args.toList.map ρa ++ cap) with
            | none => rw [he] at h; cases h
            | some v =>
              rw [he] at h
              cases h
              have hv := hρ f
              rw [hf] at hv
              generalize hfu : ρ f = fu at hv
              cases hv with
              | fn _ h1 h2 =>
                rename_i fs cs
                obtain ⟨u, h3, h4⟩ := aextern_ok (w := w) hg he ((h1.append (VRs.map_op hρ c.args.toList)).append h2)
                refine ⟨.value u, u, w, φ, ?_, .inl rfl, Ext.refl _, h4, ⟨rfl, rfl⟩⟩
                rw [hexec]
                simp only [resolve, hcal, hfu, Deferred.ofValue, pure_bind, invoke]
                rw [← h3]
                congr 2
                apply Array.toList_inj.1
                simp
      · cases h
    · rename_i b hf
      split at h
      · rename_i fr ps as bd st pd db hb
        split at h
        · rename_i hsz
          cases h
          have hv := hρ f
          rw [hf] at hv
          generalize hfu : ρ f = fu at hv
          cases hv with
          | yld hl =>
            rename_i l
            obtain ⟨_, tm, ld, f', _, h3, h4⟩ := hr.blocks b _ l hb hl
            refine ⟨l, _, f', hl, ?_, aparams_ok h3 (us := c.args.map ρ) (by rw [Array.toList_map]; exact VRs.map_op hρ _)⟩
            rw [hexec]
            simp only [resolve, hcal, hfu, Deferred.ofValue, pure_bind, invoke]
            rw [show (#[] ++ c.args.map ρ : Array Value) = c.args.map ρ by simp]
            exact run_yield h4 (by simpa using hsz)
        · cases h
      · cases h
    · cases h
  · cases h

set_option maxHeartbeats 2000000 in
theorem aop_ok (hP : P.funcs.all (fun fn => !(fn.name == "runtime.NumGoroutine")) = true) (hr : Rel w0 φ H w) {o : Oper} {ρa : Operand → AV} {ρ : Operand → Value} {r : AO} (h : aop P o ρa H = some r) (hρ : ∀ x, VR φ (ρa x) (ρ x)) : OpOk P w0 w φ H ρ o r := by
  unfold aop at h
  split at h
  case h_1 x ho =>
    cases h
    exact ⟨.value (ρ x), ρ x, w, φ, by simp [execOp, ho], .inl rfl, Ext.refl _, hρ x, rfl, rfl⟩
  case h_2 x ho =>
    cases h
    exact ⟨.value (ρ x), ρ x, w, φ, by simp [execOp, ho], .inl rfl, Ext.refl _, hρ x, rfl, rfl⟩
  case h_3 c a b ho =>
    split at h
    · rename_i t hc
      cases h
      have hv := hρ c
      rw [hc] at hv
      generalize hcu : ρ c = cu at hv
      cases hv
      refine ⟨.value (if t then ρ a else ρ b), if t then ρ a else ρ b, w, φ, by simp [execOp, ho, hcu, asBool], .inl rfl, Ext.refl _, ?_, rfl, rfl⟩
      cases t
      · exact hρ b
      · exact hρ a
    · cases h
  case h_4 e ho =>
    split at h
    · rename_i z hz
      cases h
      obtain ⟨i, zv, h1, h2, h3⟩ := azero_ok hz φ
      have hnew := hr.newCells e h3 (etag P e z.length) 0 #[] (by simp) (fun t h => tyOf_etag h)
      refine opOk_val (s := Instr.alloc e true (.tuple #[])) (by simp only [execOp, ho]) (u := .pointer (some ⟨w.heap.size, 0, none⟩)) (w' := { w with heap := w.heap.push (.cells zv.cells e) }) ?_ (Ext.snoc _ _) (hr.newPtr 0 0) ⟨by simpa using hnew, Keeps.append _ _ _⟩
      simp [Instr.alloc, zeroValue, typeInfo, h1, h2, newVar, newRow]
    · cases h
  case h_5 e x ho =>
    split at h
    · rename_i hb
      cases h
      have hcs := (hρ x).cells (by intro e; rw [e] at hb; cases hb)
      have hnew := hr.newCells e hcs 0 0 #[] (by simp)
      refine opOk_val (s := Instr.box e (ρ x)) (by simp only [execOp, ho]) (u := .pointer (some ⟨w.heap.size, 0, none⟩)) (w' := { w with heap := w.heap.push (.cells (ρ x).cells e) }) ?_ (Ext.snoc _ _) (hr.newPtr 0 0) ⟨by simpa using hnew, Keeps.append _ _ _⟩
      simp [Instr.box, newVar, newRow]
    · cases h
  case h_6 t ps ho =>
    cases hb : abuild P t (ps.toList.map fun p => (p.1, ρa p.2)) with
    | none => rw [hb] at h; cases h
    | some v =>
      rw [hb] at h; cases h
      obtain ⟨u, h1, h2⟩ := abuild_ok (P := P) (w := w) (qs := ps.map fun (i, x) => (i, ρ x)) hb (by simpa using PartsR.map_op hρ ps.toList)
      exact opOk_val (s := Instr.build t (ps.map fun (i, x) => (i, ρ x))) (by simp only [execOp, ho]) h2 (Ext.refl _) h1 ⟨rfl, rfl⟩
  case h_7 t n ps ho =>
    cases hb : abuildSlice P t n (ps.toList.map fun p => (p.1, ρa p.2)) H with
    | none => rw [hb] at h; cases h
    | some v =>
      obtain ⟨v, H'⟩ := v
      rw [hb] at h; cases h
      obtain ⟨u, w', φ', h1, h2, h3, h4⟩ := abuildSlice_ok (P := P) hr (qs := ps.map fun (i, x) => (i, ρ x)) hb (by simpa using PartsR.map_op hρ ps.toList)
      exact opOk_val (s := Instr.buildSlice t n (ps.map fun (i, x) => (i, ρ x))) (by simp only [execOp, ho]) h1 h2 h3 ⟨h4, abuildSlice_keeps hb⟩
  case h_8 t a ho =>
    cases hb : aload P t H (ρa a) with
    | none => rw [hb] at h; cases h
    | some v =>
      rw [hb] at h; cases h
      obtain ⟨ad, u, h1, h2, h3⟩ := aload_ok (P := P) hr (hρ a) hb
      exact opOk_val (s := Instr.loadAt t (ρ a)) (by simp only [execOp, ho]) (by simp [Instr.loadAt, h1, Instr.sureAddr, h3]) (Ext.refl _) h2 ⟨rfl, rfl⟩
  case h_9 t a x ho =>
    cases hb : astore P t H (ρa a) (ρa x) with
    | none => rw [hb] at h; cases h
    | some H' =>
      rw [hb] at h; cases h
      obtain ⟨ad, w', h1, h2, h3⟩ := astore_ok (P := P) hr (hρ a) (hρ x) hb
      refine ⟨.skip, undef, w', φ, ?_, .inr ⟨rfl, rfl⟩, Ext.refl _, .tuple .nil, h3, astore_keeps hb⟩
      simp [execOp, ho, Instr.storeAt, h1, Instr.sureAddr, h2]
  case h_10 x ho =>
    split at h
    · rename_i hp
      cases h
      have hv := hρ x
      refine ⟨.value (ρ x), ρ x, w, φ, ?_, .inl rfl, Ext.refl _, hv, rfl, rfl⟩
      simp only [execOp, ho]
      generalize ρ x = xu at hv
      generalize ρa x = xa at *
      cases hv <;> simp [isPlain] at hp <;> first | rfl | skip
      rename_i f _ _ _ _ _ _
      cases f <;> simp at hp
      rfl
    · cases h
  case h_11 op t x y yt ho =>
    cases hb : abinOp P op t x y (ρa x) (ρa y) with
    | none =>
      rw [hb] at h
      simp only at h
      split at h
      · rename_i b hq
        cases h
        exact opOk_val (s := (do eqGuard op t x y (ρ x) (ρ y); binOp op t (ρ x) (ρ y))) (by simp only [execOp, ho]) (aeqX_ok (P := P) (w := w) hq (hρ x) (hρ y)) (Ext.refl _) (.bool b) ⟨rfl, rfl⟩
      · cases hn : ananOp op (ρa x) (ρa y) with
        | none =>
          rw [hn] at h
          simp only at h
          cases hp : aptrNe P op t (ρa x) (ρa y) H with
          | none => rw [hp] at h; cases h
          | some b =>
            rw [hp] at h; cases h
            exact opOk_val (s := (do eqGuard op t x y (ρ x) (ρ y); binOp op t (ρ x) (ρ y))) (by simp only [execOp, ho]) (aptrNe_ok (P := P) hr hp (hρ x) (hρ y)) (Ext.refl _) (.bool b) ⟨hr, Keeps.refl _ _⟩
        | some v =>
          rw [hn] at h; cases h
          obtain ⟨u, h1, h2⟩ := ananOp_ok (P := P) (w := w) hn (hρ x) (hρ y)
          exact opOk_val (s := (do eqGuard op t x y (ρ x) (ρ y); binOp op t (ρ x) (ρ y))) (by simp only [execOp, ho]) h2 (Ext.refl _) h1 ⟨hr.drew, Keeps.refl _ _⟩
    | some v =>
      rw [hb] at h; cases h
      obtain ⟨u, h1, h2⟩ := abinOp_ok (P := P) (w := w) hb (hρ x) (hρ y)
      exact opOk_val (s := (do eqGuard op t x y (ρ x) (ρ y); binOp op t (ρ x) (ρ y))) (by simp only [execOp, ho]) h2 (Ext.refl _) h1 ⟨rfl, rfl⟩
  case h_12 op t x ho =>
    split at h
    · rename_i a ha
      cases hb : pureRun P (Op.unary op a) with
      | none => rw [hb] at h; cases h
      | some v =>
        rw [hb] at h; cases h
        refine opOk_val (s := Op.unary op (ρ x)) (by simp only [execOp, ho]) (u := v) (w' := w) ?_ (Ext.refl _) (ofV1_ok _ _) ⟨rfl, rfl⟩
        rw [sc_ok ha (hρ x)]
        exact pureRun_ok w hb
    · cases h
  case h_13 s d x ho =>
    split at h
    · rename_i v hp
      cases h
      obtain ⟨u, h1, h2⟩ := aptr_ok (P := P) hr hp (hρ x)
      exact opOk_val (s := convert s d (ρ x)) (by simp only [execOp, ho]) h2 (Ext.refl _) h1 ⟨rfl, rfl⟩
    · cases hb : aconvert P s d (ρa x) H with
      | none => rw [hb] at h; cases h
      | some q =>
        obtain ⟨v, ch⟩ := q
        rw [hb] at h; cases h
        obtain ⟨u, w', φ', h1, h2, h3, h4⟩ := aconvert_ok (P := P) hr hb (hρ x)
        exact opOk_val (s := convert s d (ρ x)) (by simp only [execOp, ho]) h1 h2 h3 h4
  case h_14 t x ho =>
    split at h
    · cases h
    · rename_i d hni hu
      cases h
      refine opOk_val (s := Instr.makeInterface t (ρ x)) (by simp only [execOp, ho]) (u := .iface t (ρ x)) (w' := w) ?_ (Ext.refl _) (.iface t (hρ x)) ⟨rfl, rfl⟩
      unfold Instr.makeInterface
      rw [Sem.run_bind, run_underlying hu]
      cases d <;> first | rfl | (exact absurd rfl (hni _))
    · cases h
  case h_15 f first cap ho =>
    cases h
    refine opOk_val (s := Instr.makeFunc f (first.map ρ) (cap.map ρ)) (by simp only [execOp, ho]) (u := .func f (first.map ρ) (cap.map ρ)) (w' := w) rfl (Ext.refl _) (.fn f ?_ ?_) ⟨rfl, rfl⟩
    · rw [Array.toList_map]; exact VRs.map_op hρ _
    · rw [Array.toList_map]; exact VRs.map_op hρ _
  case h_16 t l c ho =>
    cases hb : amakeSlice P t (ρa l) (ρa c) H with
    | none => rw [hb] at h; cases h
    | some q =>
      obtain ⟨v, H'⟩ := q
      rw [hb] at h; cases h
      obtain ⟨u, w', φ', h1, h2, h3, h4⟩ := amakeSlice_ok (P := P) hr hb (hρ l) (hρ c)
      refine opOk_val (s := Instr.makeSlice t (ρ l) (ρ c)) (by simp only [execOp, ho]) h1 h2 h3 ⟨h4, ?_⟩
      unfold amakeSlice at hb
      split at hb
      · split at hb
        · split at hb
          · cases hb; exact Keeps.append _ _ _
          · cases hb
        · cases hb
      · cases hb
  case h_17 t x lo hi mx ho =>
    cases hb : aslice P t (ρa x) (lo.map ρa) (hi.map ρa) (mx.map ρa) with
    | none => rw [hb] at h; cases h
    | some v =>
      rw [hb] at h; cases h
      obtain ⟨u, h1, h2⟩ := aslice_ok (P := P) (w := w) hb (hρ x) (VRo.map_op hρ lo) (VRo.map_op hρ hi) (VRo.map_op hρ mx)
      exact opOk_val (s := Instr.sliceAt t (ρ x) (lo.map ρ) (hi.map ρ) (mx.map ρ)) (by simp only [execOp, ho]) h2 (Ext.refl _) h1 ⟨rfl, rfl⟩
  case h_18 s x f ho =>
    cases hb : afieldAt P s (ρa x) f with
    | none => rw [hb] at h; cases h
    | some v =>
      rw [hb] at h; cases h
      obtain ⟨u, h1, h2⟩ := afieldAt_ok (P := P) (w := w) hb (hρ x)
      exact opOk_val (s := Instr.fieldAt s (ρ x) f) (by simp only [execOp, ho]) h2 (Ext.refl _) h1 ⟨rfl, rfl⟩
  case h_19 s x f ho =>
    cases hb : afield P s (ρa x) f with
    | none => rw [hb] at h; cases h
    | some v =>
      rw [hb] at h; cases h
      obtain ⟨u, h1, h2⟩ := afield_ok (P := P) (w := w) hb (hρ x)
      exact opOk_val (s := Instr.field s (ρ x) f) (by simp only [execOp, ho]) h2 (Ext.refl _) h1 ⟨rfl, rfl⟩
  case h_20 t x i ho =>
    cases hb : aindexAt P t (ρa x) (ρa i) with
    | none => rw [hb] at h; cases h
    | some v =>
      rw [hb] at h; cases h
      obtain ⟨u, h1, h2⟩ := aindexAt_ok (P := P) (w := w) hb (hρ x) (hρ i)
      exact opOk_val (s := Instr.indexAt t (ρ x) (ρ i)) (by simp only [execOp, ho]) h2 (Ext.refl _) h1 ⟨rfl, rfl⟩
  case h_21 t x i ho =>
    cases hb : aindex P t (ρa x) (ρa i) with
    | none => rw [hb] at h; cases h
    | some v =>
      rw [hb] at h; cases h
      obtain ⟨u, h1, h2⟩ := aindex_ok (P := P) (w := w) hb (hρ x) (hρ i)
      exact opOk_val (s := Instr.index t (ρ x) (ρ i)) (by simp only [execOp, ho]) h2 (Ext.refl _) h1 ⟨rfl, rfl⟩
  case h_22 x i ho =>
    cases hb : aextract (ρa x) i with
    | none => rw [hb] at h; cases h
    | some v =>
      rw [hb] at h; cases h
      obtain ⟨u, h1, h2⟩ := aextract_ok (P := P) (w := w) hb (hρ x)
      exact opOk_val (s := Instr.extract (ρ x) i) (by simp only [execOp, ho]) h2 (Ext.refl _) h1 ⟨rfl, rfl⟩
  case h_23 c ho => exact acall_ok hP hr ho h hρ
  case h_24 t r ho =>
    have hmap : VR (φ ++ [⟨w.heap.size, 0, 0⟩]) (.map H.length) (.map (some w.heap.size)) := by
      have e : (φ ++ [(⟨w.heap.size, 0, 0⟩ : Loc)])[H.length]? = some ⟨w.heap.size, 0, 0⟩ := by rw [← hr.len]; simp
      exact VR.map e
    split at h
    · cases h
      exact opOk_val (s := Instr.makeMap t none) (by simp only [execOp, ho]; rfl) (u := .map (some w.heap.size)) (w' := { w with heap := w.heap.push (.map #[] 0) }) rfl (Ext.snoc _ _) hmap ⟨hr.newMap, Keeps.append _ _ _⟩
    · rename_i x
      split at h
      · rename_i k e i n hu hx
        cases h
        have hv := hρ x
        rw [hx] at hv
        generalize hxu : ρ x = xu at hv
        cases hv
        refine opOk_val (s := Instr.makeMap t (some (.int i n))) (by simp only [execOp, ho, Option.map_some, hxu]) (u := .map (some w.heap.size)) (w' := { w with heap := w.heap.push (.map #[] 0) }) ?_ (Ext.snoc _ _) hmap ⟨hr.newMap, Keeps.append _ _ _⟩
        simp only [Instr.makeMap, Sem.run_bind, run_underlying hu, Result.andThen_ok]
        rfl
      · cases h
  case h_25 t x k ok ho =>
    cases hb : alookup P t (ρa x) (ρa k) ok H with
    | none => rw [hb] at h; cases h
    | some v =>
      rw [hb] at h; cases h
      obtain ⟨u, h1, h2⟩ := alookup_ok (P := P) hr hb (hρ x) (hρ k)
      exact opOk_val (s := Instr.lookup t (ρ x) (ρ k) ok) (by simp only [execOp, ho]) h2 (Ext.refl _) h1 ⟨rfl, rfl⟩
  case h_26 t m k x ho =>
    cases hb : amapUpdate P t (ρa m) (ρa k) (ρa x) H with
    | none => rw [hb] at h; cases h
    | some H' =>
      rw [hb] at h; cases h
      obtain ⟨w', h1, h2, _⟩ := amapUpdate_ok (P := P) hr hb (hρ m) (hρ k) (hρ x)
      refine ⟨.skip, undef, w', φ, ?_, .inr ⟨rfl, rfl⟩, Ext.refl _, .tuple .nil, h2, amapUpdate_keeps hb⟩
      simp [execOp, ho, h1]
  case h_27 t m k x ho =>
    cases hb : amapUpdate P t (ρa m) (ρa k) (ρa x) H with
    | none => rw [hb] at h; cases h
    | some H' =>
      rw [hb] at h; cases h
      obtain ⟨w', h1, h2, _⟩ := amapUpdate_ok (P := P) hr hb (hρ m) (hρ k) (hρ x)
      refine ⟨.skip, undef, w', φ, ?_, .inr ⟨rfl, rfl⟩, Ext.refl _, .tuple .nil, h2, amapUpdate_keeps hb⟩
      simp [execOp, ho, h1]
  case h_28 t x ho =>
    cases hb : arange P t (ρa x) H with
    | none => rw [hb] at h; cases h
    | some H' =>
      rw [hb] at h; cases h
      obtain ⟨u, w', φ', h1, h2, h3, h4⟩ := arange_ok (P := P) hr hb (hρ x)
      refine opOk_val (s := Instr.range t (ρ x)) (by simp only [execOp, ho]) h1 h2 h3 ⟨h4, ?_⟩
      unfold arange at hb
      split at hb
      · cases hb; exact Keeps.append _ _ _
      · cases hb
  case h_29 it s ho =>
    cases hb : anext (ρa it) s H with
    | none => rw [hb] at h; cases h
    | some q =>
      obtain ⟨v, ch⟩ := q
      rw [hb] at h; cases h
      obtain ⟨u, w', h1, h2, h3⟩ := anext_ok (P := P) (ty := o.type) hr hb (hρ it)
      exact opOk_val (s := Instr.next (ρ it) s o.type) (by simp only [execOp, ho]) h1 (Ext.refl _) h2 h3
  case h_30 => cases h
end
end Go.Ve

namespace Go.Ve
open Go

section
variable {P : Program} {ops : Array Oper} {md : Region.Mode} {C : World → Prop}

/-- The next f operations are of the first n, in whatever order, and all of them quiet. -/
def headAny (P : Program) (md : Region.Mode) (ops : Array Oper) (C : World → Prop) (n : Nat) (L : Array Bool → Act → Prop) : Nat → Array Bool → Act → Prop
  | 0, d, a => L d a
  | f + 1, d, a => Region.ready md ops d ≠ [] ∧ ∀ i ∈ Region.ready md ops d, i < n ∧ qOp P ops C i (headAny P md ops C n L f (d.setIfInBounds i true)) a

theorem any_of_headAny {n g : Nat} {L : Array Bool → Act → Prop} {Q : Exit → Act → World → Prop} (hL : ∀ d a w, C w → L d a → wpAny P md ops Q g d a w) :
    ∀ (f : Nat) (d : Array Bool) (a : Act) (w : World), C w → headAny P md ops C n L f d a → wpAny P md ops Q (f + g) d a w := by
  intro f
  induction f with
  | zero => intro d a w hw h; rw [Nat.zero_add]; exact hL _ _ _ hw h
  | succ f ih =>
    intro d a w hw h
    have e : f + 1 + g = (f + g) + 1 := by omega
    rw [e]
    exact ⟨fun h0 => absurd h0 h.1, fun i hi => wpOp_of_qOp hw (fun a' w' hw' h' => ih _ a' w' hw' h') (h.2 i hi).2⟩

theorem headAny_first {n i : Nat} {oi : Oper} {v : Value} {L : Array Bool → Act → Prop} (hi : ops[i]? = some oi) (hsel : ∀ (j : Nat) (o : Oper) cs b, ops[j]? = some o → o.op ≠ .select cs b)
    (hs : Region.sinkB md ops n = true) (hc : Region.chainB md ops n = true) (hn : n < ops.size) (hin : i < n)
    (hdone : ∀ d a, L d a → ∀ j ∈ Region.ready md ops d, n ≤ j) :
    ∀ (f : Nat) (d : Array Bool) (a : Act), HeadInv md ops n d →
      (∀ j oj, ops[j]? = some oj → j ≠ i → d.getD j true = false → (∀ e ∈ oj.after, Region.binds md e = true → e.on ≠ i) → oi.apart ops oj = true) →
      i ∈ Region.ready md ops d → YieldsIn P ops C oi v a →
      headAny P md ops C n L f (d.setIfInBounds i true) (a.put oi.dst v) → headAny P md ops C n L (f + 1) d a := by
  intro f
  induction f with
  | zero =>
    intro d a inv _ hr hy h
    have hun := (mem_ready.1 hr).1
    have hlt : ∀ j ∈ Region.ready md ops d, j < n := fun j hj => Nat.lt_of_not_le fun hj' => tail_waits hs hc hn inv _ i rfl hin hun j hj' hj
    refine ⟨fun h0 => (by rw [h0] at hr; cases hr), fun j hj => ⟨hlt j hj, ?_⟩⟩
    by_cases hji : j = i
    · subst hji; exact hy.qOp hi h
    · have h1 := hdone _ _ h j (ready_mono hj hji)
      have h2 := hlt j hj
      omega
  | succ f ih =>
    intro d a inv hfree hr hy h
    have hun := (mem_ready.1 hr).1
    have hlt : ∀ j ∈ Region.ready md ops d, j < n := fun j hj => Nat.lt_of_not_le fun hj' => tail_waits hs hc hn inv _ i rfl hin hun j hj' hj
    refine ⟨fun h0 => (by rw [h0] at hr; cases hr), fun j hj => ⟨hlt j hj, ?_⟩⟩
    by_cases hji : j = i
    · subst hji; exact hy.qOp hi h
    · have h1 := (h.2 j (ready_mono hj hji)).2
      obtain ⟨hjun, oj, hoj, hall⟩ := mem_ready.1 hj
      have hnot : ∀ e ∈ oj.after, Region.binds md e = true → e.on ≠ i := fun e he hb heq => by
        have h3 := hall e he hb
        rw [heq, getD_both hun] at h3
        cases h3
      have h2 := qOp_put hoj (hfree j oj hoj hji hjun hnot) (fun cs b => hsel i oi cs b hi) (fun cs b => hsel j oj cs b hoj) hy h1
      have hfree' : ∀ k ok, ops[k]? = some ok → k ≠ i → (d.setIfInBounds j true).getD k true = false →
          (∀ e ∈ ok.after, Region.binds md e = true → e.on ≠ i) → oi.apart ops ok = true := fun k ok hk hki hu hno => by
        refine hfree k ok hk hki ?_ hno
        by_cases hjk : j = k
        · subst hjk; exact hjun
        · rw [getD_set_ne true hjk] at hu; exact hu
      refine qOp_mono (fun a' h3 => ih (d.setIfInBounds j true) a' (inv.set hj (hlt j hj)) hfree' (ready_mono hr (Ne.symm hji)) h3.1 ?_) h2
      rw [Array.setIfInBounds_comm _ _ hji]
      exact h3.2

theorem headAny_lex {n g : Nat} {Lq : Act → Prop} (hsel : Region.noSelect ops = true) (hs : Region.sinkB md ops n = true) (hc : Region.chainB md ops n = true) (hn : n < ops.size) :
    ∀ (l : List Oper) (k : Nat) (d : Array Bool) (a : Act), (∀ j, j < l.length → l[j]? = ops[k + j]?) → k + l.length = n → HeadInv md ops n d →
    Region.lexHead md ops g l.length k d = true → wpQuiet P ops C Lq l a →
    headAny P md ops C n (fun d' a' => Region.seqB md ops g n d' = true ∧ Lq a') l.length d a := by
  intro l
  induction l with
  | nil =>
    intro k d a _ hk _ hB h
    have e : k = n := by simpa using hk
    subst e
    exact ⟨by simpa [Region.lexHead] using hB, h⟩
  | cons o l ih =>
    intro k d a hl hk inv hB h
    have h0 : ops[k]? = some o := by simpa using (hl 0 (by simp)).symm
    simp only [List.length_cons, Region.lexHead, Bool.and_eq_true] at hB
    obtain ⟨⟨hr, hf⟩, hB'⟩ := hB
    have hkn : k < n := by simp only [List.length_cons] at hk; omega
    have hr' : k ∈ Region.ready md ops d := by simpa using hr
    have hst : qOp P ops C k (wpQuiet P ops C Lq l) a := by unfold qOp; simp only [h0]; exact h
    obtain ⟨v, hy, hK⟩ := yieldsIn_of_qOp h0 hst
    exact headAny_first h0 (Region.noSelect_spec hsel) hs hc hn hkn (fun d' a' hL => seqB_ready hL.1) l.length d a inv (Region.free_spec h0 hf) hr' hy
      (ih (k + 1) _ _ (fun j hj => by have := hl (j + 1) (by simp; omega); simpa [Nat.add_assoc, Nat.add_comm 1 j] using this) (by simp only [List.length_cons] at hk; omega) (inv.set hr' hkn) hB' hK)

theorem wp_region_quiet_tail {id : Nat} {Q : Exit → Act → World → Prop} {a : Act} {w : World} (n : Nat) (hm : P.follows .mixedOrders = true) (hB : Region.lexTailB .any ops n = true) (hC : C { w with drawn := w.drawn + 1 })
    (h : wpQuiet P ops C (fun a' => ∀ w', C w' → wpList P ops Q (ops.toList.drop n) a' w') (ops.toList.take n) a) : (Code.region id ops true).wp P Q a w := by
  simp only [Region.lexTailB, Bool.and_eq_true, decide_eq_true_eq] at hB
  obtain ⟨⟨⟨⟨hsel, hn⟩, hs⟩, hc⟩, hlex⟩ := hB
  have hn' : n < ops.toList.length := by simpa using hn
  have htl : (ops.toList.take n).length = n := by simp; omega
  have hdl : (ops.toList.drop n).length = ops.size - n := by simp
  have inv0 : HeadInv .any ops n (Array.replicate ops.size false) :=
    ⟨by simp, fun j oj _ hl => (by rw [getD_replicate_false] at hl; cases hl), fun t _ ht => getD_in (by simpa using ht) (getD_replicate_false _ _)⟩
  have H := headAny_lex (md := .any) (g := ops.size - n) hsel hs hc hn (ops.toList.take n) 0 _ a (fun j hj => by
    have hj' : j < n := by rw [htl] at hj; exact hj
    simp [hj']) (by simpa using htl) inv0 (by rw [htl]; exact hlex) h
  refine wp_region_any hm ?_
  have h2 := any_of_headAny (Q := Q) (g := ops.size - n) (fun d a' w' hw' hL => by
    have h3 := wpAny_of_seq (md := .any) (Q' := Q) (ops.toList.drop n) n d a' w' (fun j => by simp [List.getElem?_drop]) (by rw [hdl]; exact hL.1) (hL.2 w' hw')
    rwa [hdl] at h3) _ _ _ _ hC H
  rw [htl, show n + (ops.size - n) = ops.size by omega] at h2
  exact h2
end
end Go.Ve

namespace Go.Ve
open Go Go.RowKit

mutual
def AV.det : AV → Bool
  | .bad => false
  | .nan _ => false
  | .slz => false
  | .opq => false
  | .fn _ xs cs => AV.dets xs && AV.dets cs
  | .iface _ v => AV.det v
  | .agg cs => AV.dets cs
  | .tuple cs => AV.dets cs
  | _ => true
def AV.dets : List AV → Bool
  | [] => true
  | v :: vs => AV.det v && AV.dets vs
end
mutual
theorem VR.uniq {φ : List Loc} : ∀ {v : AV} {u u' : Value}, v.det = true → VR φ v u → VR φ v u' → u = u'
  | .bad, _, _, h, _, _ => by simp [AV.det] at h
  | .bool _, _, _, _, .bool _, .bool _ => rfl
  | .int _ _, _, _, _, .int _ _, .int _ _ => rfl
  | .float _ _, _, _, _, .float _ _, .float _ _ => rfl
  | .nan _, _, _, h, _, _ => by simp [AV.det] at h
  | .str _, _, _, _, .str _, .str _ => rfl
  | .nilptr, _, _, _, .nilptr, .nilptr => rfl
  | .ptr _ _, _, _, _, .ptr h1, .ptr h2 => by rw [h1] at h2; cases h2; rfl
  | .gptr _ _, _, _, _, .gptr _ _, .gptr _ _ => rfl
  | .nilsl, _, _, _, .nilsl, .nilsl => rfl
  | .sl _ _ _ _ _, _, _, _, .sl h1, .sl h2 => by rw [h1] at h2; cases h2; rfl
  | .slz, _, _, h, _, _ => by simp [AV.det] at h
  | .sle _ _ _, _, _, _, .sle h1, .sle h2 => by rw [h1] at h2; cases h2; rfl
  | .nilmap, _, _, _, .nilmap, .nilmap => rfl
  | .map _, _, _, _, .map h1, .map h2 => by rw [h1] at h2; cases h2; rfl
  | .yld _, _, _, _, .yld h1, .yld h2 => by rw [h1] at h2; cases h2; rfl
  | .opq, _, _, h, _, _ => by simp [AV.det] at h
  | .fn _ _ _, _, _, h, .fn _ a b, .fn _ c d => by
    simp [AV.det] at h
    rw [Array.toList_inj.1 (VRs.uniq h.1 a c), Array.toList_inj.1 (VRs.uniq h.2 b d)]
  | .nilfn, _, _, _, .nilfn, .nilfn => rfl
  | .iface _ _, _, _, h, .iface _ a, .iface _ b => by rw [VR.uniq (by simpa [AV.det] using h) a b]
  | .niliface, _, _, _, .niliface, .niliface => rfl
  | .agg _, _, _, h, .agg a, .agg b => by rw [Array.toList_inj.1 (VRs.uniq (by simpa [AV.det] using h) a b)]
  | .tuple _, _, _, h, .tuple a, .tuple b => by rw [Array.toList_inj.1 (VRs.uniq (by simpa [AV.det] using h) a b)]
theorem VRs.uniq {φ : List Loc} : ∀ {v : List AV} {u u' : List Value}, AV.dets v = true → VRs φ v u → VRs φ v u' → u = u'
  | [], _, _, _, .nil, .nil => rfl
  | _ :: _, _, _, h, .cons a as, .cons b bs => by
    simp [AV.dets] at h
    rw [VR.uniq h.1 a b, VRs.uniq h.2 as bs]
end

-- No reference into memory.
mutual
def AV.flat : AV → Bool
  | .ptr _ _ | .sl _ _ _ _ _ | .sle _ _ _ | .map _ | .yld _ => false
  | .fn _ xs cs => AV.flats xs && AV.flats cs
  | .iface _ v => AV.flat v
  | .agg cs => AV.flats cs
  | .tuple cs => AV.flats cs
  | _ => true
def AV.flats : List AV → Bool
  | [] => true
  | v :: vs => AV.flat v && AV.flats vs
end
mutual
theorem VR.flat {φ : List Loc} (φ' : List Loc) : ∀ {v : AV} {u : Value}, v.flat = true → VR φ v u → VR φ' v u
  | .bad, _, _, .bad v => .bad v
  | .bool _, _, _, .bool b => .bool b
  | .int _ _, _, _, .int k n => .int k n
  | .float _ _, _, _, .float k n => .float k n
  | .nan _, _, _, .nan h => .nan h
  | .str _, _, _, .str s => .str s
  | .nilptr, _, _, .nilptr => .nilptr
  | .ptr _ _, _, h, .ptr _ => by simp [AV.flat] at h
  | .gptr _ _, _, _, .gptr g o => .gptr g o
  | .nilsl, _, _, .nilsl => .nilsl
  | .sl _ _ _ _ _, _, h, .sl _ => by simp [AV.flat] at h
  | .sle _ _ _, _, h, .sle _ => by simp [AV.flat] at h
  | .slz, _, _, .slz a => .slz a
  | .nilmap, _, _, .nilmap => .nilmap
  | .map _, _, h, .map _ => by simp [AV.flat] at h
  | .yld _, _, h, .yld _ => by simp [AV.flat] at h
  | .opq, _, _, .opq h => .opq h
  | .fn _ _ _, _, h, hv => by
    simp [AV.flat] at h
    cases hv with
    | fn _ h1 h2 => exact .fn _ (VRs.flat φ' h.1 h1) (VRs.flat φ' h.2 h2)
  | .nilfn, _, _, .nilfn => .nilfn
  | .iface _ _, _, h, hv => by
    simp [AV.flat] at h
    cases hv with
    | iface _ h1 => exact .iface _ (VR.flat φ' h h1)
  | .niliface, _, _, .niliface => .niliface
  | .agg _, _, h, hv => by
    simp [AV.flat] at h
    cases hv with
    | agg h1 => exact .agg (VRs.flat φ' h h1)
  | .tuple _, _, h, hv => by
    simp [AV.flat] at h
    cases hv with
    | tuple h1 => exact .tuple (VRs.flat φ' h h1)
theorem VRs.flat {φ : List Loc} (φ' : List Loc) : ∀ {v : List AV} {u : List Value}, AV.flats v = true → VRs φ v u → VRs φ' v u
  | [], _, _, .nil => .nil
  | _ :: _, _, h, .cons h1 h2 => by
    simp [AV.flats] at h
    exact .cons (VR.flat φ' h.1 h1) (VRs.flat φ' h.2 h2)
end

inductive AEx where
  | normal
  | exit (id : Nat)
  | ret
def AEx.to : AEx → Exit
  | .normal => .normal
  | .exit id => .exit id
  | .ret => .ret

/-- What a call does: its result, and a new heap with the least block that it may have written, if anything has changed. -/
abbrev CallF := FuncId → List AV → AH → Option (AV × Option (AH × Nat))

def awanted (ops : Array Oper) (o : Oper) (fr : List AV) : Option Bool :=
  match o.guard with
  | none => some true
  | some (j, want) =>
    match (ops[j]?).bind (·.dst) with
    | none => some false
    | some d =>
      match fr[d]? with
      | none => some false
      | some (.bool b) => some (b == want)
      | some .bad => none
      | some .opq => none
      | some _ => some false

noncomputable def evOps (P : Program) (call : CallF) (ops : Array Oper) : List Oper → List AV → AH → Nat → Option (List AV × AH × Nat)
  | [], fr, H, lo => some (fr, H, lo)
  | o :: r, fr, H, lo =>
    match awanted ops o fr with
    | none => none
    | some false => evOps P call ops r (aput fr o.dst (.tuple [])) H lo
    | some true =>
      match aop P o (aeval fr) H with
      | none => none
      | some (.val v none) => evOps P call ops r (aput fr o.dst v) H lo
      | some (.val v (some (H', wr))) => evOps P call ops r (aput fr o.dst v) H' (min lo wr)
      | some (.call f args) =>
        match call f args H with
        | none => none
        | some (v, none) => evOps P call ops r (aput fr o.dst v) H lo
        | some (v, some (H', wr)) => evOps P call ops r (aput fr o.dst v) H' (min lo wr)
      | some (.round ..) => none

/-- A region that draws its order, and changes nothing. -/
noncomputable def evQuiet (P : Program) (call : CallF) (ops : Array Oper) : List Oper → List AV → AH → Option (List AV)
  | [], fr, _ => some fr
  | o :: r, fr, H =>
    match awanted ops o fr with
    | none => none
    | some false => evQuiet P call ops r (aput fr o.dst (.tuple [])) H
    | some true =>
      match aop P o (aeval fr) H with
      | some (.val v none) => if v.det then evQuiet P call ops r (aput fr o.dst v) H else none
      | some (.call f args) =>
        match call f args H with
        | some (v, none) => if v.det then evQuiet P call ops r (aput fr o.dst v) H else none
        | _ => none
      | _ => none

section
variable {P : Program} {w0 : Base} {w : World} {φ : List Loc} {H : AH}

/-- What became of the world in a call. -/
def ChC (w0 : Base) (φ : List Loc) (H : AH) (φ' : List Loc) (w' : World) : Option (AH × Nat) → Prop
  | none => φ' = φ ∧ Rel w0 φ H w'
  | some (H', _) => Rel w0 φ' H' w'
def CallPost (w0 : Base) (φ : List Loc) (H : AH) (v : AV) (ch : Option (AH × Nat)) (e : Ending) (w' : World) : Prop :=
  ∃ u φ', e = .returned u ∧ Ext φ φ' ∧ VR φ' v u ∧ ChC w0 φ H φ' w' ch
/-- A call does what is said of it. -/
def CallOk (P : Program) (call : CallF) : Prop :=
  ∀ f args H v ch, call f args H = some (v, ch) →
    (∀ w0 φ w us, Rel w0 φ H w → VRs φ args us.toList → Calls P f us w (CallPost w0 φ H v ch)) ∧
    (∀ H' lo, ch = some (H', lo) → Keeps lo H H')

theorem awanted_ok {ops : Array Oper} {o : Oper} {fr : List AV} {a : Act} {b : Bool} (h : awanted ops o fr = some b) (ha : VRs φ fr a.tmps.toList) : Region.wanted o (yielded ops a.tmps) = b := by
  unfold awanted at h
  unfold Region.wanted
  split at h
  · rename_i hg; cases h; rw [hg]
  · rename_i j want hg
    simp only [hg]
    unfold yielded
    split at h
    · rename_i hd
      cases h
      rw [hd]; rfl
    · rename_i d hd
      rw [hd]
      have hl := ha.length
      simp only [Array.length_toList] at hl
      split at h
      · rename_i hn
        cases h
        have : a.tmps[d]? = none := by
          rw [Array.getElem?_eq_none]
          have := List.getElem?_eq_none_iff.1 hn
          omega
        simp [this]
      · rename_i b' hb
        cases h
        obtain ⟨u, h1, h2⟩ := ha.get hb
        cases h2
        have : a.tmps[d]? = some (.bool b') := by simpa using h1
        simp [this]
      · cases h
      · cases h
      · rename_i v hnb hbad hopq hb
        cases h
        obtain ⟨u, h1, h2⟩ := ha.get hb
        have h3 : a.tmps[d]? = some u := by simpa using h1
        simp only [Option.bind_some, h3]
        cases h2 <;> first | rfl | exact (hbad rfl).elim | exact (hopq rfl).elim | exact (hnb _ rfl).elim

theorem evOps_ok (hP : P.funcs.all (fun fn => !(fn.name == "runtime.NumGoroutine")) = true) {call : CallF} (hC : CallOk P call) {ops : Array Oper} {Q : Exit → Act → World → Prop} : ∀ (l : List Oper) {fr fr' : List AV} {H H' : AH} {lo lo' : Nat} {φ : List Loc} {a : Act} {w : World},
    evOps P call ops l fr H lo = some (fr', H', lo') → VRs φ fr a.tmps.toList → a.defers = [] → Rel w0 φ H w →
    (∀ φ' a' w', Ext φ φ' → VRs φ' fr' a'.tmps.toList → a'.defers = [] → Rel w0 φ' H' w' → Q .normal a' w') → wpList P ops Q l a w := by
  intro l
  induction l with
  | nil =>
    intro fr fr' H H' lo lo' φ a w h ha hd hr hQ
    simp only [evOps] at h
    cases h
    exact hQ φ a w (Ext.refl _) ha hd hr
  | cons o r ih =>
    intro fr fr' H H' lo lo' φ a w h ha hd hr hQ
    have hput : ∀ u, (a.put o.dst u).defers = [] := fun u => by cases o.dst <;> exact hd
    simp only [evOps] at h
    simp only [wpList]
    split at h
    · cases h
    · rename_i hw
      rw [awanted_ok hw ha]
      simp only [Bool.false_eq_true, if_false]
      exact ih h (aput_ok ha o.dst (.tuple .nil)) (hput _) hr hQ
    · rename_i hw
      rw [awanted_ok hw ha]
      simp only [if_true]
      left
      unfold Oper.wp
      split at h
      · cases h
      · rename_i v hop
        obtain ⟨n, u, w', φ', h1, h2, h3, h4, h5, h6⟩ := aop_ok (P := P) hP hr hop (aeval_ok ha)
        subst h5; subst h6
        rw [h1]
        rcases h2 with rfl | ⟨rfl, rfl⟩
        · exact ih h (aput_ok ha o.dst h4) (hput _) hr hQ
        · exact ih h (aput_ok ha o.dst h4) (hput _) hr hQ
      · rename_i v H1 wr hop
        obtain ⟨n, u, w', φ', h1, h2, h3, h4, h5, h6⟩ := aop_ok (P := P) hP hr hop (aeval_ok ha)
        rw [h1]
        rcases h2 with rfl | ⟨rfl, rfl⟩
        · exact ih h (aput_ok (ha.mono h3) o.dst h4) (hput _) h5 fun φ2 a2 w2 x => hQ φ2 a2 w2 (h3.trans x)
        · exact ih h (aput_ok (ha.mono h3) o.dst h4) (hput _) h5 fun φ2 a2 w2 x => hQ φ2 a2 w2 (h3.trans x)
      · rename_i f args hop
        obtain ⟨us, h1, h2⟩ := aop_ok (P := P) hP hr hop (aeval_ok ha)
        rw [h1]
        split at h
        · cases h
        · rename_i v hcall
          refine ((hC _ _ _ _ _ hcall).1 w0 φ w us hr h2).mono ?_
          rintro e w' ⟨u, φ', rfl, h3, h4, h5, h6⟩
          subst h5
          exact ih h (aput_ok ha o.dst h4) (hput _) h6 hQ
        · rename_i v H1 wr hcall
          refine ((hC _ _ _ _ _ hcall).1 w0 φ w us hr h2).mono ?_
          rintro e w' ⟨u, φ', rfl, h3, h4, h5⟩
          exact ih h (aput_ok (ha.mono h3) o.dst h4) (hput _) h5 fun φ2 a2 w2 x => hQ φ2 a2 w2 (h3.trans x)
      · cases h

theorem abuiltin_keeps {b : Builtin} {ts : List TypeId} {xs : List AV} {v : AV} {H H' : AH} {lo : Nat} (h : abuiltin P b ts xs H = some (v, some (H', lo))) : Keeps lo H H' := by
  unfold abuiltin at h
  split at h
  · rename_i t x
    cases hl : alenOf P t H x <;> rw [hl] at h <;> cases h
  · split at h <;> cases h
  · rename_i t t2 s x
    cases ha : aappend P t t2 s x H with
    | none => rw [ha] at h; cases h
    | some r => obtain ⟨v', H1⟩ := r; rw [ha] at h; cases h; exact aappend_keeps ha
  · unfold acopy at h
    split at h
    · split at h
      · split at h
        · split at h
          · cases h; exact Keeps.set _ _ _
          · cases h
        · cases h
      · cases h
      · cases h
    · cases h
  · rename_i t x
    cases ha : aclear P t x H with
    | none => rw [ha] at h; cases h
    | some c =>
      rw [ha] at h; cases h
      unfold aclear at ha
      (repeat' split at ha) <;> first | (cases ha; done) | (cases ha; exact Keeps.set _ _ _)
  · split at h
    · rename_i us hs
      cases hp : pureRun P (Builtin.min_ #[] 0 us.toArray) <;> rw [hp] at h <;> cases h
    · cases h
  · split at h
    · rename_i us hs
      cases hp : pureRun P (Builtin.max_ #[] 0 us.toArray) <;> rw [hp] at h <;> cases h
    · cases h
  · rename_i t ts m k
    cases ha : adelete P t m k H with
    | none => rw [ha] at h; cases h
    | some H1 => rw [ha] at h; cases h; exact adelete_keeps ha
  · exact aunsafe_keeps h
theorem aconvert_keeps {s d : TypeId} {x v : AV} {H H' : AH} {lo : Nat} (h : aconvert P s d x H = some (v, some (H', lo))) : Keeps lo H H' := by
  cases x with
  | str t =>
    simp only [aconvert] at h
    split at h
    · cases h
    · split at h
      · cases h; exact Keeps.append _ _ _
      · cases h
    · cases h
  | sl b off len cap ex => simp only [aconvert] at h; (repeat' split at h) <;> cases h
  | nilsl => simp only [aconvert] at h; (repeat' split at h) <;> cases h
  | sle b off adv => simp only [aconvert] at h; (repeat' split at h) <;> cases h
  | slz => simp only [aconvert] at h; (repeat' split at h) <;> cases h
  | bool b => simp only [aconvert, AV.sc] at h; generalize pureRun P (convert s d (.bool b)) = r at h; cases r <;> cases h
  | int k n => simp only [aconvert, AV.sc] at h; generalize pureRun P (convert s d (.int k n)) = r at h; cases r <;> cases h
  | float k n => simp only [aconvert, AV.sc] at h; generalize pureRun P (convert s d (.float k n)) = r at h; cases r <;> cases h
  | _ => simp [aconvert, AV.sc] at h
theorem map_val {α : Type} {x : Option α} {f : α → AV} {v : AV} {c : AH × Nat} (h : (x.map fun a => AO.val (f a) none) = some (.val v (some c))) : False := by
  cases x <;> simp at h
theorem aop_keeps {o : Oper} {ρ : Operand → AV} {v : AV} {H H' : AH} {lo : Nat} (h : aop P o ρ H = some (.val v (some (H', lo)))) : Keeps lo H H' := by
  unfold aop at h
  split at h
  case h_4 e ho =>
    split at h
    · cases h; exact Keeps.append _ _ _
    · cases h
  case h_5 e x ho =>
    split at h
    · cases h; exact Keeps.append _ _ _
    · cases h
  case h_7 t n ps ho =>
    cases hb : abuildSlice P t n (ps.toList.map fun p => (p.1, ρ p.2)) H with
    | none => rw [hb] at h; cases h
    | some q => obtain ⟨v', H1⟩ := q; rw [hb] at h; cases h; exact abuildSlice_keeps hb
  case h_9 t a x ho =>
    cases hb : astore P t H (ρ a) (ρ x) with
    | none => rw [hb] at h; cases h
    | some H1 => rw [hb] at h; cases h; exact astore_keeps hb
  case h_11 op t x y yt ho =>
    split at h
    · cases h
    · split at h
      · cases h
      cases hn : ananOp op (ρ x) (ρ y) with
      | none =>
        rw [hn] at h
        simp only at h
        cases hp : aptrNe P op t (ρ x) (ρ y) H with
        | none => rw [hp] at h; cases h
        | some b => rw [hp] at h; cases h; exact Keeps.refl _ _
      | some v => rw [hn] at h; cases h; exact Keeps.refl _ _
  case h_13 s d x ho =>
    split at h
    · cases h
    cases hb : aconvert P s d (ρ x) H with
    | none => rw [hb] at h; cases h
    | some q => obtain ⟨v', ch⟩ := q; rw [hb] at h; cases h; exact aconvert_keeps hb
  case h_16 t l c ho =>
    cases hb : amakeSlice P t (ρ l) (ρ c) H with
    | none => rw [hb] at h; cases h
    | some q =>
      obtain ⟨v', H1⟩ := q
      rw [hb] at h; cases h
      unfold amakeSlice at hb
      split at hb
      · split at hb
        · split at hb
          · cases hb; exact Keeps.append _ _ _
          · cases hb
        · cases hb
      · cases hb
  case h_24 t r ho =>
    split at h
    · cases h; exact Keeps.append _ _ _
    · split at h
      · cases h; exact Keeps.append _ _ _
      · cases h
  case h_26 t m k x ho =>
    cases hb : amapUpdate P t (ρ m) (ρ k) (ρ x) H with
    | none => rw [hb] at h; cases h
    | some H1 => rw [hb] at h; cases h; exact amapUpdate_keeps hb
  case h_27 t m k x ho =>
    cases hb : amapUpdate P t (ρ m) (ρ k) (ρ x) H with
    | none => rw [hb] at h; cases h
    | some H1 => rw [hb] at h; cases h; exact amapUpdate_keeps hb
  case h_28 t x ho =>
    cases hb : arange P t (ρ x) H with
    | none => rw [hb] at h; cases h
    | some H1 =>
      rw [hb] at h; cases h
      unfold arange at hb
      split at hb
      · cases hb; exact Keeps.append _ _ _
      · cases hb
  case h_29 it s ho =>
    cases hb : anext (ρ it) s H with
    | none => rw [hb] at h; cases h
    | some q => obtain ⟨v', ch⟩ := q; rw [hb] at h; cases h; exact anext_keeps hb
  case h_23 c ho =>
    unfold acall at h
    split at h
    · rename_i b hb2
      cases hb : abuiltin P b c.argTypes.toList (c.args.toList.map ρ) H with
      | none => rw [hb] at h; cases h
      | some q => obtain ⟨v', ch⟩ := q; rw [hb] at h; cases h; exact abuiltin_keeps hb
    · split at h
      · split at h
        · split at h
          · cases h
          · split at h
            · rename_i q hz
              cases h
              exact anoz_keeps hz
            · exact (map_val h).elim
        · cases h
      · (repeat' split at h) <;> cases h
      · cases h
    · cases h
  all_goals first
    | (cases h; done)
    | exact (map_val h).elim
    | ((repeat' split at h) <;> first | (cases h; done) | exact (map_val h).elim)

theorem evOps_keeps {call : CallF} (hC : CallOk P call) {ops : Array Oper} : ∀ (l : List Oper) {fr fr' : List AV} {H H' : AH} {lo lo' : Nat},
    evOps P call ops l fr H lo = some (fr', H', lo') → lo' ≤ lo ∧ Keeps lo' H H' := by
  intro l
  induction l with
  | nil => intro fr fr' H H' lo lo' h; simp only [evOps] at h; cases h; exact ⟨Nat.le_refl _, Keeps.refl _ _⟩
  | cons o r ih =>
    intro fr fr' H H' lo lo' h
    simp only [evOps] at h
    split at h
    · cases h
    · exact ih h
    · split at h
      · cases h
      · exact ih h
      · rename_i v H1 wr hop
        obtain ⟨h1, h2⟩ := ih h
        exact ⟨by omega, ((aop_keeps hop).mono (by omega)).trans h2⟩
      · split at h
        · cases h
        · exact ih h
        · rename_i v H1 wr hcall
          obtain ⟨h1, h2⟩ := ih h
          exact ⟨by omega, (((hC _ _ _ _ _ hcall).2 _ _ rfl).mono (by omega)).trans h2⟩
      · cases h

theorem evQuiet_ok (hP : P.funcs.all (fun fn => !(fn.name == "runtime.NumGoroutine")) = true) {call : CallF} (hC : CallOk P call) {ops : Array Oper} {Q : Act → Prop} : ∀ (l : List Oper) {fr fr' : List AV} {a : Act},
    evQuiet P call ops l fr H = some fr' → VRs φ fr a.tmps.toList → a.defers = [] → Rel w0 φ H w →
    (∀ a', VRs φ fr' a'.tmps.toList → a'.defers = [] → Q a') → wpQuiet P ops (fun w' => Rel w0 φ H w') Q l a := by
  intro l
  induction l with
  | nil =>
    intro fr fr' a h ha hd hr hQ
    simp only [evQuiet] at h
    cases h
    exact hQ a ha hd
  | cons o r ih =>
    intro fr fr' a h ha hd hr hQ
    have hput : ∀ u, (a.put o.dst u).defers = [] := fun u => by cases o.dst <;> exact hd
    simp only [evQuiet] at h
    simp only [wpQuiet]
    split at h
    · cases h
    · rename_i hw
      rw [awanted_ok hw ha]
      simp only [Bool.false_eq_true, if_false]
      exact ih h (aput_ok ha o.dst (.tuple .nil)) (hput _) hr hQ
    · rename_i hw
      rw [awanted_ok hw ha]
      simp only [if_true]
      split at h
      · rename_i v hop
        split at h
        · rename_i hdet
          obtain ⟨n, u, w', φ', h1, h2, h3, h4, h5, h6⟩ := aop_ok (P := P) hP hr hop (aeval_ok ha)
          subst h5; subst h6
          refine ⟨u, fun w2 hr2 => ?_, ih h (aput_ok ha o.dst h4) (hput _) hr hQ⟩
          obtain ⟨n2, u2, w2', φ2, g1, g2, g3, g4, g5, g6⟩ := aop_ok (P := P) hP hr2 hop (aeval_ok ha)
          subst g5; subst g6
          have hu : u2 = u := VR.uniq hdet g4 h4
          subst hu
          unfold Oper.quietAt
          rw [g1]
          rcases g2 with rfl | ⟨rfl, rfl⟩
          · exact ⟨rfl, rfl⟩
          · exact ⟨rfl, rfl⟩
        · cases h
      · rename_i f args hop
        split at h
        · rename_i v hcall
          split at h
          · rename_i hdet
            obtain ⟨us, h1, h2⟩ := aop_ok (P := P) hP hr hop (aeval_ok ha)
            obtain ⟨e0, w0', fr0, ⟨u, φ', _, _, hv, hφ, _⟩, _⟩ := (hC _ _ _ _ _ hcall).1 w0 φ w us hr h2 []
            subst hφ
            refine ⟨u, fun w2 hr2 => ?_, ih h (aput_ok ha o.dst hv) (hput _) hr hQ⟩
            obtain ⟨us2, g1, g2⟩ := aop_ok (P := P) hP hr2 hop (aeval_ok ha)
            unfold Oper.quietAt
            rw [g1]
            refine ⟨rfl, ((hC _ _ _ _ _ hcall).1 w0 _ w2 us2 hr2 g2).mono ?_⟩
            rintro e w' ⟨u2, φ2, rfl, _, hv2, hφ2, hr3⟩
            subst hφ2
            rw [VR.uniq hdet hv2 hv]
            exact ⟨rfl, hr3⟩
          · cases h
        · cases h
      · cases h
end
end Go.Ve


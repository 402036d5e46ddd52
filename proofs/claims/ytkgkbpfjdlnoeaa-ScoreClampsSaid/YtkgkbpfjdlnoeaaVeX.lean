/- Functions that have no body: what the model says of them, for the few that are used. -/
import Derived.Test.YtkgkbpfjdlnoeaaVe8
import Derived.Lib.Bytealg
namespace Go.Ve
open Go Go.RowKit

theorem nextNone1 : Extern.allNextRows.lookup "math.Float64bits" = none := by kernel_rfl
theorem nextNone2 : Extern.allNextRows.lookup "math.Float64frombits" = none := by kernel_rfl
theorem nextNone0 : Extern.allNextRows.lookup "" = none := by kernel_rfl
theorem gen1 : Extern.allGenericRows.lookup "math.Float64bits" = none := by kernel_rfl
theorem gen2 : Extern.allGenericRows.lookup "math.Float64frombits" = none := by kernel_rfl
theorem typ1 : Extern.allTypedRows.lookup "math.Float64bits" = none := by kernel_rfl
theorem typ2 : Extern.allTypedRows.lookup "math.Float64frombits" = none := by kernel_rfl
theorem row1 : Extern.allRows.lookup "math.Float64bits" = some Extern.MathFloatBits.float64bits := by kernel_rfl
theorem row2 : Extern.allRows.lookup "math.Float64frombits" = some Extern.MathFloatBits.float64frombits := by kernel_rfl

theorem bits1 (b : Nat) : Extern.MathFloatBits.float64bits [.float .f64 b].toArray = pure (.int .u64 b) := rfl
theorem bits2 (n : Int) : Extern.MathFloatBits.float64frombits [.int .u64 n].toArray = pure (.float .f64 n.toNat) := rfl
theorem nextNone3 : Extern.allNextRows.lookup "math.archFloor" = none := by kernel_rfl
theorem nextNone4 : Extern.allNextRows.lookup "math.archTrunc" = none := by kernel_rfl
theorem gen3 : Extern.allGenericRows.lookup "math.archFloor" = none := by kernel_rfl
theorem gen4 : Extern.allGenericRows.lookup "math.archTrunc" = none := by kernel_rfl
theorem typ3 : Extern.allTypedRows.lookup "math.archFloor" = none := by kernel_rfl
theorem typ4 : Extern.allTypedRows.lookup "math.archTrunc" = none := by kernel_rfl
theorem row3 : Extern.allRows.lookup "math.archFloor" = some (Extern.MathFloor.toIntegral "math.archFloor" .down) := by kernel_rfl
theorem row4 : Extern.allRows.lookup "math.archTrunc" = some (Extern.MathFloor.toIntegral "math.archTrunc" .zero) := by kernel_rfl
def aintegral (way : Ieee.Toward) (b : Nat) : Option AV :=
  match FloatKind.f64.decode b with
  | .nan _ _ => none
  | d => some (.float .f64 (FloatKind.f64.encode (d.integral way)))
theorem aintegral_ok {P : Program} {w : World} {φ : List Loc} {way : Ieee.Toward} {nm : String} {b : Nat} {v : AV} (h : aintegral way b = some v) : ∃ u, (Extern.MathFloor.toIntegral nm way #[.float .f64 b]).run P w = .ok u w ∧ VR φ v u := by
  have e : Extern.MathFloor.toIntegral nm way #[.float .f64 b] = (fun d : Ieee.Datum => match d with
    | .nan s t => if FloatKind.f64.format.quiet t = t then pure (.float .f64 b) else do
      let kept ← choose (.extern "math.Floor,Ceil,Trunc,RoundToEven.signallingNaN kept" 2)
      pure (.float .f64 (if kept == 1 then b else FloatKind.f64.encode (.nan s (FloatKind.f64.format.quiet t))))
    | d => pure (.float .f64 (FloatKind.f64.encode (d.integral way)))) (FloatKind.f64.decode b) := rfl
  rw [e]
  unfold aintegral at h
  generalize FloatKind.f64.decode b = d at *
  cases d with
  | nan s t => cases h
  | number n m p => cases h; exact ⟨_, rfl, .float _ _⟩
  | infinity n => cases h; exact ⟨_, rfl, .float _ _⟩
/-- Those that are pure: what the model says, and what it comes to. -/
noncomputable def idxR (s : List UInt8) (c : Nat) : Int := List.rec (motive := fun _ => Nat → Int) (fun _ => -1) (fun x _ ih i => cond (Nat.beq x.toNat c) (Int.ofNat i) (ih (Nat.succ i))) s 0
theorem idxR_eq (s : List UInt8) (c : UInt8) : idxR s c.toNat = Lib.indexByte s c := by
  have key : ∀ (s : List UInt8) (i : Nat), (List.rec (motive := fun _ => Nat → Int) (fun _ => -1) (fun x _ ih i => cond (Nat.beq x.toNat c.toNat) (Int.ofNat i) (ih (Nat.succ i))) s : Nat → Int) i = if Lib.indexByte s c = -1 then -1 else Lib.indexByte s c + i := by
    intro s
    induction s with
    | nil => intro i; rfl
    | cons x t ih =>
      intro i
      have e : (List.rec (motive := fun _ => Nat → Int) (fun _ => -1) (fun x _ ih i => cond (Nat.beq x.toNat c.toNat) (Int.ofNat i) (ih (Nat.succ i))) (x :: t) : Nat → Int) i = cond (Nat.beq x.toNat c.toNat) (Int.ofNat i) ((List.rec (motive := fun _ => Nat → Int) (fun _ => -1) (fun x _ ih i => cond (Nat.beq x.toNat c.toNat) (Int.ofNat i) (ih (Nat.succ i))) t : Nat → Int) (Nat.succ i)) := rfl
      rw [e, ih]
      have hge := Lib.indexByte_ge t c
      by_cases hx : x = c
      · subst hx
        simp [Lib.indexByte]
      · have h1 : (Nat.beq x.toNat c.toNat) = false := by
          cases hb : Nat.beq x.toNat c.toNat with
          | false => rfl
          | true => exact absurd (UInt8.toNat_inj.1 (Nat.eq_of_beq_eq_true hb)) hx
        have h2 : (x == c) = false := by simpa using hx
        rw [h1]
        simp only [cond, Lib.indexByte, h2, Bool.false_eq_true, if_false]
        by_cases h3 : Lib.indexByte t c = -1
        · simp [h3]
        · have h4 : (Lib.indexByte t c == -1) = false := by simpa using h3
          simp only [h4, Bool.false_eq_true, if_false]
          rw [if_neg h3, if_neg (by omega)]
          push_cast
          omega
  have := key s 0
  refine this.trans ?_
  split
  · rename_i h; exact h.symm
  · simp
noncomputable def cntR (s : List UInt8) (c : Nat) : Nat := List.rec (motive := fun _ => Nat → Nat) (fun n => n) (fun x _ ih n => cond (Nat.beq x.toNat c) (ih (Nat.succ n)) (ih n)) s 0
theorem cntR_eq (s : List UInt8) (c : UInt8) : cntR s c.toNat = s.count c := by
  have key : ∀ (s : List UInt8) (n : Nat), (List.rec (motive := fun _ => Nat → Nat) (fun n => n) (fun x _ ih n => cond (Nat.beq x.toNat c.toNat) (ih (Nat.succ n)) (ih n)) s : Nat → Nat) n = n + s.count c := by
    intro s
    induction s with
    | nil => intro n; rfl
    | cons x t ih =>
      intro n
      have e : (List.rec (motive := fun _ => Nat → Nat) (fun n => n) (fun x _ ih n => cond (Nat.beq x.toNat c.toNat) (ih (Nat.succ n)) (ih n)) (x :: t) : Nat → Nat) n = cond (Nat.beq x.toNat c.toNat) ((List.rec (motive := fun _ => Nat → Nat) (fun n => n) (fun x _ ih n => cond (Nat.beq x.toNat c.toNat) (ih (Nat.succ n)) (ih n)) t : Nat → Nat) (Nat.succ n)) ((List.rec (motive := fun _ => Nat → Nat) (fun n => n) (fun x _ ih n => cond (Nat.beq x.toNat c.toNat) (ih (Nat.succ n)) (ih n)) t : Nat → Nat) n) := rfl
      rw [e, ih, ih]
      by_cases hx : x = c
      · subst hx
        simp; omega
      · have h1 : (Nat.beq x.toNat c.toNat) = false := by
          cases hb : Nat.beq x.toNat c.toNat with
          | false => rfl
          | true => exact absurd (UInt8.toNat_inj.1 (Nat.eq_of_beq_eq_true hb)) hx
        have h2 : (x == c) = false := by simpa using hx
        rw [h1, List.count_cons, h2]
        simp
  have := key s 0
  rw [Nat.zero_add] at this
  exact this
noncomputable def aext2 (nm : String) (args : List AV) : Option AV :=
  if nm == "internal/bytealg.IndexByteString" then
    match args with
    | [.str s, .int .u8 c] => some (.int .i64 (idxR s (Nat.mod c.toNat 256)))
    | _ => none
  else if nm == "internal/bytealg.CountString" then
    match args with
    | [.str s, .int .u8 c] => some (.int .i64 (.ofNat (cntR s (Nat.mod c.toNat 256))))
    | _ => none
  else if nm == "internal/abi.NoEscape" then
    match args with
    | [x] => some x
    | _ => none
  else none
theorem rowA : Extern.allRows.lookup "internal/bytealg.IndexByteString" = some Extern.BytealgIndexByte.indexByte := by kernel_rfl
theorem rowB : Extern.allRows.lookup "internal/bytealg.CountString" = some Extern.BytealgCount.count := by kernel_rfl
theorem rowC : Extern.allRows.lookup "internal/abi.NoEscape" = some Extern.AbiNoEscape.same := by kernel_rfl
theorem nxA : Extern.allNextRows.lookup "internal/bytealg.IndexByteString" = none := by kernel_rfl
theorem nxB : Extern.allNextRows.lookup "internal/bytealg.CountString" = none := by kernel_rfl
theorem nxC : Extern.allNextRows.lookup "internal/abi.NoEscape" = none := by kernel_rfl
theorem gnA : Extern.allGenericRows.lookup "internal/bytealg.IndexByteString" = none := by kernel_rfl
theorem gnB : Extern.allGenericRows.lookup "internal/bytealg.CountString" = none := by kernel_rfl
theorem gnC : Extern.allGenericRows.lookup "internal/abi.NoEscape" = none := by kernel_rfl
theorem tyA : Extern.allTypedRows.lookup "internal/bytealg.IndexByteString" = none := by kernel_rfl
theorem tyB : Extern.allTypedRows.lookup "internal/bytealg.CountString" = none := by kernel_rfl
theorem tyC : Extern.allTypedRows.lookup "internal/abi.NoEscape" = none := by kernel_rfl
theorem aext2_ok {P : Program} {w : World} {φ : List Loc} {nm : String} {args : List AV} {us : List Value} {v : AV} (h : aext2 nm args = some v) (hv : VRs φ args us) :
    nm ≠ "runtime.NumGoroutine" ∧ Extern.allNextRows.lookup nm = none ∧ Extern.allGenericRows.lookup nm = none ∧ Extern.allTypedRows.lookup nm = none ∧ ∃ sem, Extern.allRows.lookup nm = some sem ∧ ∃ u, (sem us.toArray).run P w = .ok u w ∧ VR φ v u := by
  unfold aext2 at h
  split at h
  · rename_i hn
    have hn := eq_of_beq hn
    subst hn
    split at h
    · cases h
      cases hv with
      | cons h1 h2 =>
        cases h1
        cases h2 with
        | cons h3 h4 =>
          cases h3; cases h4
          rename_i s c
          refine ⟨by decide, nxA, gnA, tyA, _, rowA, _, ?_, .int _ _⟩
          have e : Nat.mod c.toNat 256 = (c.toNat.toUInt8).toNat := by simp [Nat.toUInt8]; rfl
          rw [e, idxR_eq]
          exact Lib.run_indexByteString ⟨⟨s⟩⟩ c w
    · cases h
  · split at h
    · rename_i hn
      have hn := eq_of_beq hn
      subst hn
      split at h
      · cases h
        cases hv with
        | cons h1 h2 =>
          cases h1
          cases h2 with
          | cons h3 h4 =>
            cases h3; cases h4
            rename_i s c
            refine ⟨by decide, nxB, gnB, tyB, _, rowB, _, ?_, .int _ _⟩
            have e : Nat.mod c.toNat 256 = (c.toNat.toUInt8).toNat := by simp [Nat.toUInt8]; rfl
            rw [e, cntR_eq]
            exact Lib.run_countString ⟨⟨s⟩⟩ c w
      · cases h
    · split at h
      · rename_i hn
        have hn := eq_of_beq hn
        subst hn
        split at h
        · cases h
          cases hv with
          | cons h1 h2 =>
            cases h2
            exact ⟨by decide, nxC, gnC, tyC, _, rowC, _, rfl, h1⟩
        · cases h
      · cases h
/-- A function without a body, of those that are known. -/
noncomputable def aextern (fn : Func) (args : List AV) : Option AV :=
  if fn.body.isNone && fn.origin == "" then
    if fn.name == "math.Float64bits" then
      match args with
      | [.float .f64 b] => some (.int .u64 (b : Nat))
      | _ => none
    else if fn.name == "math.Float64frombits" then
      match args with
      | [.int .u64 n] => some (.float .f64 n.toNat)
      | _ => none
    else if fn.name == "math.archFloor" then
      match args with
      | [.float .f64 b] => aintegral .down b
      | _ => none
    else if fn.name == "math.archTrunc" then
      match args with
      | [.float .f64 b] => aintegral .zero b
      | _ => none
    else aext2 fn.name args
  else none

theorem aextern_ok {P : Program} {w : World} {φ : List Loc} {f : FuncId} {fn : Func} (hf : P.funcs[f]? = some fn) {args : List AV} {us : List Value} {v : AV} (h : aextern fn args = some v) (hv : VRs φ args us) :
    ∃ u, (callFunc f us.toArray).run P w = .ok (.value u) w ∧ VR φ v u := by
  unfold aextern at h
  split at h
  · rename_i hb
    simp only [Bool.and_eq_true, beq_iff_eq] at hb
    split at h
    · rename_i hn
      have hn := eq_of_beq hn
      split at h
      · cases h
        cases hv with
        | cons h1 h2 =>
          cases h1; cases h2
          refine ⟨_, ?_, .int _ _⟩
          simp [callFunc, hf, hn, hb, Extern.findNext, Extern.find, nextNone1, nextNone0, gen1, typ1, row1, bits1]
          exact Option.isNone_iff_eq_none.1 hb.1
      · cases h
    · split at h
      · rename_i hn
        have hn := eq_of_beq hn
        split at h
        · cases h
          cases hv with
          | cons h1 h2 =>
            cases h1; cases h2
            refine ⟨_, ?_, .float _ _⟩
            simp [callFunc, hf, hn, hb, Extern.findNext, Extern.find, nextNone2, nextNone0, gen2, typ2, row2, bits2]
            exact Option.isNone_iff_eq_none.1 hb.1
        · cases h
      · split at h
        · rename_i hn
          have hn := eq_of_beq hn
          split at h
          · cases hv with
            | cons h1 h2 =>
              cases h1; cases h2
              obtain ⟨u, h3, h4⟩ := aintegral_ok (P := P) (w := w) (φ := φ) (nm := "math.archFloor") h
              refine ⟨u, ?_, h4⟩
              simp [callFunc, hf, hn, hb, Extern.findNext, Extern.find, nextNone3, nextNone0, gen3, typ3, row3, h3]
              exact Option.isNone_iff_eq_none.1 hb.1
          · cases h
        · split at h
          · rename_i hn
            have hn := eq_of_beq hn
            split at h
            · cases hv with
              | cons h1 h2 =>
                cases h1; cases h2
                obtain ⟨u, h3, h4⟩ := aintegral_ok (P := P) (w := w) (φ := φ) (nm := "math.archTrunc") h
                refine ⟨u, ?_, h4⟩
                simp [callFunc, hf, hn, hb, Extern.findNext, Extern.find, nextNone4, nextNone0, gen4, typ4, row4, h3]
                exact Option.isNone_iff_eq_none.1 hb.1
            · cases h
          · obtain ⟨e0, e1, e2, e3, sem, e4, u, e5, e6⟩ := aext2_ok (P := P) (w := w) h hv
            refine ⟨u, ?_, e6⟩
            simp [callFunc, hf, hb, e0, Extern.findNext, Extern.find, e1, nextNone0, e2, e3, e4, e5]
            exact Option.isNone_iff_eq_none.1 hb.1
  · cases h
end Go.Ve

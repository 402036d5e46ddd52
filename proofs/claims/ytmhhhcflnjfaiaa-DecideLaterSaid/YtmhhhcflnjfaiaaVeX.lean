/- Functions that have no body: what the model says of them, for the few that are used. -/
import Derived.Test.YtmhhhcflnjfaiaaVe8
namespace Go.Ve
open Go Go.RowKit

theorem nextNone1 : Extern.allNextRows.lookup "math.Float64bits" = none := by kernel_rfl
theorem nextNone2 : Extern.allNextRows.lookup "math.Float64frombits" = none := by kernel_rfl
theorem nextNone0 : Extern.allNextRows.lookup "" = none := by kernel_rfl
theorem gen1 : Extern.allGenericRows.lookup "math.Float64bits" = none := by kernel_rfl
theorem gen2 : Extern.allGenericRows.lookup "math.Float64frombits" = none := by kernel_rfl
theorem typ1 : Extern.allTypedRows.lookup "math.Float64bits" = none := by kernel_rfl
theorem typ2 : Extern.allTypedRows.lookup "math.Float64frombits" = none := by kernel_rfl
theorem row1 : Extern.allRows.lookup "math.Float64bits" = some Extern.MathFloatBits.float64bits := by kernel_rfl
theorem row2 : Extern.allRows.lookup "math.Float64frombits" = some Extern.MathFloatBits.float64frombits := by kernel_rfl

theorem bits1 (b : Nat) : Extern.MathFloatBits.float64bits [.float .f64 b].toArray = pure (.int .u64 b) := rfl
theorem bits2 (n : Int) : Extern.MathFloatBits.float64frombits [.int .u64 n].toArray = pure (.float .f64 n.toNat) := rfl
/-- A function without a body, of those that are known. -/
def aextern (fn : Func) (args : List AV) : Option AV :=
  if fn.body.isNone && fn.origin == "" then
    if fn.name == "math.Float64bits" then
      match args with
      | [.float .f64 b] => some (.int .u64 (b : Nat))
      | _ => none
    else if fn.name == "math.Float64frombits" then
      match args with
      | [.int .u64 n] => some (.float .f64 n.toNat)
      | _ => none
    else none
  else none

theorem aextern_ok {P : Program} {w : World} {φ : List Loc} {f : FuncId} {fn : Func} (hf : P.funcs[f]? = some fn) {args : List AV} {us : List Value} {v : AV} (h : aextern fn args = some v) (hv : VRs φ args us) :
    ∃ u, (callFunc f us.toArray).run P w = .ok (.value u) w ∧ VR φ v u := by
  unfold aextern at h
  split at h
  · rename_i hb
    simp only [Bool.and_eq_true, beq_iff_eq] at hb
    split at h
    · rename_i hn
      have hn := eq_of_beq hn
      split at h
      · cases h
        cases hv with
        | cons h1 h2 =>
          cases h1; cases h2
          refine ⟨_, ?_, .int _ _⟩
          simp [callFunc, hf, hn, hb, Extern.findNext, Extern.find, nextNone1, nextNone0, gen1, typ1, row1, bits1]
          exact Option.isNone_iff_eq_none.1 hb.1
      · cases h
    · split at h
      · rename_i hn
        have hn := eq_of_beq hn
        split at h
        · cases h
          cases hv with
          | cons h1 h2 =>
            cases h1; cases h2
            refine ⟨_, ?_, .float _ _⟩
            simp [callFunc, hf, hn, hb, Extern.findNext, Extern.find, nextNone2, nextNone0, gen2, typ2, row2, bits2]
            exact Option.isNone_iff_eq_none.1 hb.1
        · cases h
      · cases h
  · cases h
end Go.Ve

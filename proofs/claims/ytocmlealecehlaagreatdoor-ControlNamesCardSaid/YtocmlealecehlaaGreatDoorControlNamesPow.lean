/- The table of powers of ten, as the program lays it. -/
import Derived.Test.YtocmlealecehlaaGreatDoorRows
import Derived.Test.YtocmlealecehlaaGreatDoorVe1
import Derived.ProofKit
import Derived.OpenShut
import Derived.LaidMore
import Derived.Lay
import Derived.SevenTiedAt
namespace Go.Proofs.YtocmlealecehlaaGreatDoor.controlNames
open Go Go.Ve Go.ChangeShapes Go.WideShapes Go.ChangeAt Go.RowKit

def powZ : List Int := [1, 10, 100, 1000, 10000, 100000, 1000000, 10000000, 100000000, 1000000000, 10000000000, 100000000000, 1000000000000, 10000000000000, 100000000000000, 1000000000000000, 10000000000000000, 100000000000000000, 1000000000000000000, 10000000000000000000]
def pows : List AV := powZ.map (AV.int .u64)

theorem pow_cell {W : World} (h : laidMetH Tryz.prog Rows.controlNamesRow.laid W) (r : Nat) (hr : r < 20) : W.cell? ⟨0, r, none⟩ = some (.int .u64 (powZ.getD r 0)) := by
  rw [MakeChecks.laidMetH_plain _ _ _ (by kernel_rfl)] at h
  obtain ⟨ps, ⟨_, _, _, _, _, _, _, _, _, _, ⟨_, _, _, _, _, _, _, _, _, _, ⟨g, t, cs, fuel, p, q, hg, ht, hv, hd, _, _⟩, _⟩, _⟩, _, _⟩ := h
  obtain rfl := Option.some.inj ((show Tryz.prog.globalNamed "internal/strconv.uint64pow10" = some 0 by kernel_rfl).symm.trans hg)
  obtain rfl := Option.some.inj ((show (Tryz.prog.globals[0]?).map (·.type) = some 187 by kernel_rfl).symm.trans ht)
  obtain ⟨xs, m, _, ex, _, hl, hel⟩ := DataW.trod_array (show Tryz.prog.underlying 187 = some (.array 20 148) by kernel_rfl) hd
  have c5 : Tryz.prog.cellsOf 148 = 1 := by kernel_rfl
  have hE := hel r hr
  rw [c5, Nat.mul_one, List.getElem?_eq_getElem (by omega)] at hE
  obtain ⟨z, e1, e2, _⟩ := DataW.trod_int (show Tryz.prog.underlying 148 = some (.int .u64) by kernel_rfl) hE
  have hlen : powZ.length = 20 := by kernel_rfl
  have e3 : (xs.map (·.1)) = powZ.map fun n => .lit (.int .u64 n) := (DataW.agg.inj (Prod.mk.inj ex).1).symm
  have e4 : (xs.map (·.1))[r]? = (powZ.map fun n => (DataW.lit (.int .u64 n) : DataW Unit))[r]? := by rw [e3]
  rw [List.getElem?_map, List.getElem?_map, List.getElem?_eq_getElem (by omega : r < xs.length), List.getElem?_eq_getElem (by omega : r < powZ.length), e2] at e4
  have hz : z = powZ.getD r 0 := by
    simp only [Option.map_some, Option.some.injEq, DataW.lit.injEq, Lit.int.injEq, true_and] at e4
    rw [e4, List.getD, List.getElem?_eq_getElem (by omega : r < powZ.length)]; rfl
  rw [World.var?_cell hg hv r, ← hz]
  have : cs.toList[r]? = some (.int .u64 z) := by
    have h0 : ((cs.toList.drop r).take 1)[0]? = some (.int .u64 z) := by rw [e1]; rfl
    simpa using h0
  simpa using this

theorem pow_rel {W : World} (h : laidMetH Tryz.prog Rows.controlNamesRow.laid W) : Rel (Base.all W) [⟨0, 0, 0⟩] [.glob 0 pows] W := by
  have hlt : 0 < W.heap.size := by
    have h0 := pow_cell h 0 (by omega)
    refine Decidable.byContradiction fun hn => ?_
    unfold World.cell? at h0
    rw [Array.getElem?_eq_none (by simpa using hn)] at h0
    cases h0
  refine ⟨rfl, BelowB.refl _, fun b k l hk hl => ?_, fun b b' k k' l l' hk hk' hl hl' ho ho' _ => ?_⟩
  · cases b with
    | zero =>
      cases hk; cases hl
      refine ⟨hlt, rfl, rfl, fun j v hj => ?_⟩
      have hjl : j < powZ.length := by
        have := (List.getElem?_eq_some_iff.1 hj).1
        simpa [pows] using this
      have hlen : powZ.length = 20 := by kernel_rfl
      refine ⟨.int .u64 (powZ.getD j 0), ?_, by simpa using pow_cell h j (by omega)⟩
      have : v = .int .u64 (powZ.getD j 0) := by
        simp only [pows, List.getElem?_map, List.getElem?_eq_getElem hjl, Option.map_some, Option.some.injEq] at hj
        rw [← hj, List.getD, List.getElem?_eq_getElem hjl]; rfl
      subst this
      exact VR.int _ _
    | succ b => simp at hk
  · cases b with
    | zero => cases b' with
      | zero => rfl
      | succ b' => simp at hk'
    | succ b => simp at hk

end Go.Proofs.YtocmlealecehlaaGreatDoor.controlNames

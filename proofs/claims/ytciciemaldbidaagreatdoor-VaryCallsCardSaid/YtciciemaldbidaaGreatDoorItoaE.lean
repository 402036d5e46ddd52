/- What strconv.Itoa answers, in any memory that begins with the tables. -/
import Derived.Test.YtciciemaldbidaaGreatDoorKeyP
import Derived.Test.YtciciemaldbidaaGreatDoorShelfK
import Derived.Lib.AppendIntMem
set_option linter.unusedSimpArgs false
set_option linter.unusedVariables false
namespace Go.Proofs.YtciciemaldbidaaGreatDoor
open Go Go.Ve
set_option maxRecDepth 20000
def powF : List AV := Lib.pow10Tab.map fun z => AV.int .u64 z
noncomputable def gPow (p : List AV) : ABlk := ABlk.glob 1 p
noncomputable def eIta : SpecE := fun args H =>
  match args with
  | [.int .i64 n] => match H[2]? with
    | some (ABlk.glob 1 p) => some (.needP (p = powF ∧ -9223372036854775808 ≤ n ∧ n ≤ 9223372036854775807) (.ok (.str (Lib.itoa n)) none))
    | _ => none
  | _ => none
theorem tab_of {w0 : Base} {φ : List Ve.Loc} {H : AH} {w : World} (hr : Rel w0 φ H w) (h2 : H[2]? = some (ABlk.glob 1 powF)) : Lib.TabIs Tryz.prog w "internal/strconv.uint64pow10" .u64 Lib.pow10Tab := by
  have hg : Tryz.prog.globalNamed "internal/strconv.uint64pow10" = some 1 := by kernel_rfl
  have hlen : powF.length = 20 := by simp [powF, Lib.pow10Tab]
  have hcell : ∀ j z, Lib.pow10Tab[j]? = some z → w.cell? ⟨1, j, none⟩ = some (.int .u64 z) := fun j z hz => by
    obtain ⟨u, hu, hw⟩ := hr.gcell h2 (j := j) (v := .int .u64 z) (by simp [powF, hz])
    cases hu
    exact hw
  obtain ⟨cs, hv⟩ : ∃ cs, w.var? Tryz.prog "internal/strconv.uint64pow10" = some cs := by
    have h0 := hcell 0 1 (by simp [Lib.pow10Tab])
    unfold World.cell? at h0
    unfold World.var?
    rw [hg, Option.bind_some]
    dsimp only at h0 ⊢
    split at h0
    · rename_i cs _ _ hh
      exact ⟨cs, by rw [hh]⟩
    · cases h0
  unfold Lib.TabIs
  rw [hv]
  congr 1
  apply Array.ext_getElem?
  intro j
  rw [← World.var?_cell hg hv j]
  by_cases hj : j < 20
  · obtain ⟨z, hz⟩ : ∃ z, Lib.pow10Tab[j]? = some z := ⟨_, List.getElem?_eq_getElem (by rw [Lib.pow10Tab_length]; exact hj)⟩
    rw [hcell j z hz]
    simp [hz]
  · rw [hr.gend h2 (by rw [hlen]; omega)]
    rw [Array.getElem?_eq_none]
    simp [Lib.pow10Tab_length]; omega
theorem eIta_ok : EntryOk Tryz.prog 35 eIta := by
  intro args H sr hs K hk
  unfold eIta at hs
  split at hs
  · rename_i n
    split at hs
    · rename_i p h2
      cases hs
      obtain ⟨⟨rfl, hn0, hn1⟩, h3⟩ := hk
      refine (SC.under (v := .str (Lib.itoa n)) ?_).mono ?_
      · intro w0 φ w us hr ha
        obtain ⟨us⟩ := us
        cases ha with | cons h1' h2' => cases h1'; cases h2'; (
          refine (Tryz.strconv_Itoa n hn0 hn1 w (tab_of hr h2)).mono ?_
          rintro e w' ⟨rfl, k, os, rfl⟩
          exact ⟨_, rfl, .str _, Go.Lib.below_grow _ w (Nat.le_refl _) k os⟩)
      · rintro v H' ⟨rfl, rfl⟩; exact ⟨none, h3, rfl⟩
    · cases hs
  · cases hs
end Go.Proofs.YtciciemaldbidaaGreatDoor

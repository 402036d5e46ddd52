/- The law VaryWhite returns true for any parts, widths and name, whatever the memory and the schedule, the listed variables of Go's library holding what the program's text lays; nothing that was there is changed. Its card, tied. No other conditions. -/
import Derived.Test.YtciciemaldbidaaDoorRows
import Derived.Test.YtciciemaldbidaaDoorCards
import Derived.Test.YtciciemaldbidaaDoorTie
import Derived.Test.YtciciemaldbidaaDoorSd
import Derived.Test.YtciciemaldbidaaDoorWhF
import Derived.Test.YtciciemaldbidaaDoorGlob
import Derived.ProofKit
import Derived.OpenShut
import Derived.LaidMore
import Derived.Lay
import Derived.SevenTiedAt
import Derived.Stop.Joined
set_option linter.unusedSimpArgs false
set_option linter.unusedVariables false
namespace Go.Proofs.YtciciemaldbidaaDoor.varyWhite
open Go.Ve Go.ChangeShapes Go.WideShapes Go.ChangeAt Go.RowKit

def utfL (f a : List AV) : List (Nat × List AV) := [(4, f), (5, a)]
def utfF : List AV := (List.range 256).map fun c => AV.int .u8 (Lib.firstT c)
def utfA : List AV := (List.range 16).flatMap fun i => [AV.int .u8 (Lib.accLo i), AV.int .u8 (Lib.accHi i)]
theorem utf_reads {W : World} (h : laidMetH Tryd.prog Rows.varyWhiteRow.laid W) : Lib.VarReads Tryd.prog W "unicode/utf8.first" Lib.firstData ∧ Lib.VarReads Tryd.prog W "unicode/utf8.acceptRanges" Lib.acceptData := by
  rw [MakeChecks.laidMetH_plain _ _ _ (by kernel_rfl)] at h
  have e1 : (Rows.laid_unicode_utf8_first : DataW Unit) = Lib.firstData := by kernel_rfl
  have e2 : (Rows.laid_unicode_utf8_acceptRanges : DataW Unit) = Lib.acceptData := by kernel_rfl
  exact ⟨e1 ▸ Lib.laidMet.reads h (n := "unicode/utf8.first") (by simp [Rows.varyWhiteRow]), e2 ▸ Lib.laidMet.reads h (n := "unicode/utf8.acceptRanges") (by simp [Rows.varyWhiteRow])⟩
theorem utf_first {W : World} (φ : List Ve.Loc) (h : Lib.VarReads Tryd.prog W "unicode/utf8.first" Lib.firstData) : CellsAt W φ 4 utfF := by
  have := glob_ints (zs := Lib.firstTab) (g := 4) (t := 153) (e := 5) (c := 256) φ h (by kernel_rfl) (by kernel_rfl) Tryd.underlying153 Tryd.underlying5 (by kernel_rfl) (by kernel_rfl) (by simp [Lib.firstTab])
  rw [Lib.firstTab, List.map_map] at this
  exact this
theorem utf_acc {W : World} (φ : List Ve.Loc) (h : Lib.VarReads Tryd.prog W "unicode/utf8.acceptRanges" Lib.acceptData) : CellsAt W φ 5 utfA :=
  glob_pairs (c := 16) (lo := fun i => (Lib.accLo i : Int)) (hi := fun i => (Lib.accHi i : Int)) (g := 5) (t := 156) (e := 155) (u := 5) φ h (by kernel_rfl) (by kernel_rfl) Tryd.underlying156 Tryd.underlying155 (by kernel_rfl) Tryd.underlying5 (by kernel_rfl) (fun i f hf => by
    match i, hf with
    | 0, hf => cases hf; exact ⟨rfl, rfl⟩
    | 1, hf => cases hf; exact ⟨rfl, rfl⟩
    | i + 2, hf => simp at hf) (by kernel_rfl) (by kernel_rfl) (by omega)
theorem utf_rel {W : World} (h : laidMetH Tryd.prog Rows.varyWhiteRow.laid W) : ∃ φ, Rel (Base.all W) φ [gFst utfF, gAcc utfA] W := by
  obtain ⟨h1, h2⟩ := utf_reads h
  refine ⟨_, globs_rel (L := utfL utfF utfA) (by decide) fun p hp => ?_⟩
  simp only [utfL, List.mem_cons, List.mem_nil_iff, or_false] at hp
  rcases hp with rfl | rfl
  · exact utf_first _ h1
  · exact utf_acc _ h2
theorem utf_T : utf8T utfF utfA := ⟨rfl, rfl⟩
theorem strs_ts (l : List (List UInt8)) : (l.flatMap fun s => [AV.str s]) = ts l := by
  induction l with
  | nil => rfl
  | cons c s ih => simp only [List.flatMap_cons, ih, ts, List.map_cons]; rfl
theorem fact (x : SlA (List UInt8) × SlA UInt8 × List UInt8 × Unit) (h1 : (∀ y ∈ x.1.all, y.length ≤ reachBytes) ∧ x.1.all.length ≤ maxLen) :
    AnsW [x.1.av 2, x.2.1.av (2 + (x.1.blk (fun t => [.str t]) 0).length), .str x.2.2.1] ([gFst utfF, gAcc utfA] ++ (x.1.blk (fun t => [.str t]) 0 ++ x.2.1.blk (fun c => [.int .u8 c.toNat]) 0)) := by
  obtain ⟨s, w, nm, _⟩ := x
  have hT := utf_T
  match s, w, h1 with
  | .nil, .nil, _ => exact white_NN nm _ _ hT
  | .nil, .zero, _ => exact white_NZ nm _ _ hT
  | .nil, .at w wr, _ => have := white_NA w wr nm _ _ hT; rw [← bytes_bs] at this; exact this
  | .zero, .nil, _ => exact white_ZN nm _ _ hT
  | .zero, .zero, _ => exact white_ZZ nm _ _ hT
  | .zero, .at w wr, _ => have := white_ZA w wr nm _ _ hT; rw [← bytes_bs] at this; exact this
  | .at [] r, .nil, _ => have := white_EN r nm _ _ hT; rw [← strs_ts] at this; show AnsW [.sl 2 0 0 (0 + r.length) true, .nilsl, .str nm] _; rw [Nat.zero_add]; exact this
  | .at [] r, .zero, _ => have := white_EZ r nm _ _ hT; rw [← strs_ts] at this; show AnsW [.sl 2 0 0 (0 + r.length) true, .slz, .str nm] _; rw [Nat.zero_add]; exact this
  | .at (a :: l) r, .nil, _ => have := white_AN (a :: l) r nm _ _ (Nat.succ_pos _) hT; rw [← strs_ts] at this; exact this
  | .at (a :: l) r, .zero, _ => have := white_AZ (a :: l) r nm _ _ (Nat.succ_pos _) hT; rw [← strs_ts] at this; exact this
  | .at l r, .at w wr, h1 =>
    have := white_AA l r w wr nm _ _ (fun s hs => by
      have h3 := h1.1 s (List.mem_append_left _ hs)
      have h4 := reachBytes_lt
      omega) hT
    rw [← strs_ts, ← bytes_bs] at this
    exact this

theorem own : ownKnob Tryd.prog.godebug = none := by kernel_rfl
theorem allNames : Tryd.prog.funcs.all (fun fn => !(fn.name == "runtime.NumGoroutine")) = true := by kernel_rfl
theorem mixed : Tryd.prog.follows .mixedOrders = true := by kernel_rfl

set_option maxHeartbeats 4000000 in
set_option maxRecDepth 100000 in
theorem lifted (os : Os) (started : os.Started) (H : Type) (enc : TypeId × Value → H) :
    ReturnsInHanded {} Tryd.checked os 5 .any (fun w args => (Rows.varyWhiteSpec.pre enc Tryd.prog Tryd.f5 Rows.varyWhiteRow.domain false w args ∧ laidMetH Tryd.prog Rows.varyWhiteRow.laid w) ∧ sizedMet enc Tryd.prog Tryd.f5 (OpenSpec.ofChange Rows.varyWhiteSpec) false w args)
      (Rows.varyWhiteSpec.post enc Tryd.prog Tryd.f5 false true false false) := by
  refine returnsInHanded_of_change_and (C := Tryd.checked) (X := fun w _ => laidMetH Tryd.prog Rows.varyWhiteRow.laid w) (fun _ _ _ hh h => h.of_heap hh) own started (by kernel_rfl) Tryd.func5
    (ChangeSpec.witness_shaped (enc := enc) (C := Tryd.checked) (os := os) (X := fun w _ => laidMetH Tryd.prog Rows.varyWhiteRow.laid w) false (World.laidAll Tryd.prog os Rows.varyWhiteRow.laid) #[.slice none 0 0, .slice none 0 0, .string ByteArray.empty] 8 (World.laidAll_os _ _ _)
      (World.shaped_of_ZipB (by kernel_rfl) (by kernel_rfl)) (by kernel_rfl) (by kernel_rfl) (by kernel_rfl)
      (by rw [MakeChecks.laidMetH_plain _ _ _ (by kernel_rfl)]; exact laidMet_laidAll _ (by kernel_rfl) (by kernel_rfl))) ?_
  intro W base args ds gs before hval hW hcnd hsz hlaid _
  obtain ⟨φ0, hutf⟩ := utf_rel hlaid
  exact contract_of_scG (tb := 4) (by kernel_rfl) (by kernel_rfl) rfl Tryd.underlying4 rfl
    (fun ds h => match ds, h with | [_, _, _], _ => ⟨rfl, rfl, rfl⟩)
    (opensArgsS_cons (t := 36) (b := false) (by kernel_rfl) (opensS_slice (e := 9) Tryd.underlying36 (of_decide_eq_true (by kernel_rfl)) (flatS_str Tryd.underlying9) (fun _ => (by kernel_rfl : 1 = Tryd.prog.cellsOf 9)) 0) (opensArgsS_cons (t := 45) (b := false) (by kernel_rfl) (opensS_slice (e := 5) Tryd.underlying45 (of_decide_eq_true (by kernel_rfl)) (flatS_u8 Tryd.underlying5) (fun _ => (by kernel_rfl : 1 = Tryd.prog.cellsOf 5)) 0) (opensArgsS_cons (t := 9) (b := false) (by kernel_rfl) (flatS_str Tryd.underlying9).opens opensArgsS_nil)))
    hutf
    (fun x hx => by
      have := fact x hx.1
      rw [← List.append_nil (x.2.1.blk _ 0)] at this
      exact this) hval hW (sz_of rfl hW hsz)

theorem over : Rows.varyWhiteRow.holds Tryd.pinned (OpenSpec.ofChange Rows.varyWhiteSpec) :=
  OpenClaim.holds_of_wide 5 Tryd.f5 rfl rfl rfl rfl rfl rfl rfl ⟨rfl, rfl, rfl, rfl, rfl⟩ rfl rfl rfl rfl rfl (by kernel_rfl) Tryd.func5 (by kernel_rfl)
    (of_decide_eq_true (by kernel_rfl)) (by unfold Func.isWrapper; first | (rw [if_pos (by decide +kernel)]; kernel_rfl) | (rw [if_neg (by decide +kernel)]; exact ⟨rfl, rfl⟩))
    (fun os started H enc _ => lifted os started H enc)

/-- THE STATEMENT. -/
theorem proved : Rows.VaryWhiteCardSaid :=
  Claim7.holds_tied_plain_at .later [] Rows.varyWhiteCard.laidKinds true Rows.varyWhiteCard.stood.harness Rows.varyWhiteCard.stood.looks
    over (fun _ h => by cases h) (by kernel_rfl) (fun _ h => by cases h) varyWhite_row_tie rfl ⟨rfl, rfl⟩ (by kernel_rfl) rfl
    (fun f fn hf hfn => by
      obtain rfl : f = 5 := Option.some.inj ((show Tryd.prog.funcNamed "halfwayhouse/halfwayhouselaw12.VaryWhite" = some 5 by kernel_rfl).symm.trans hf) |>.symm
      obtain rfl : fn = Tryd.f5 := (Option.some.inj (Tryd.func5.symm.trans hfn)).symm
      exact ⟨by kernel_rfl, fun j t ht => by
        rw [Tryd.params5] at ht
        have hm : t ∈ [36, 45, 9] := by simpa using Array.mem_of_getElem? ht
        have hall : ([36, 45, 9].all fun u => !Tryd.prog.wantsStandIn u) = true := by kernel_rfl
        exact (show Tryd.prog.wantsStandIn t = false by simpa using List.all_eq_true.1 hall t hm)⟩)
    (by kernel_rfl)
#print axioms proved
end Go.Proofs.YtciciemaldbidaaDoor.varyWhite

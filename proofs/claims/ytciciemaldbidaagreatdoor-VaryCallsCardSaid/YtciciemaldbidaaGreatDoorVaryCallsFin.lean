/- The law VaryCalls returns true for any fields, names and texts, whatever the memory and the schedule, the listed variables of Go's library holding what the program's text lays; nothing that was there is changed. Its card, tied. No other conditions. -/
import Derived.Test.YtciciemaldbidaaGreatDoorRows
import Derived.Test.YtciciemaldbidaaGreatDoorCards
import Derived.Test.YtciciemaldbidaaGreatDoorTie
import Derived.Test.YtciciemaldbidaaGreatDoorSd
import Derived.Test.YtciciemaldbidaaGreatDoorCaF
import Derived.Test.YtciciemaldbidaaGreatDoorGlob
import Derived.ProofKit
import Derived.OpenShut
import Derived.LaidMore
import Derived.Lay
import Derived.SevenTiedAt
import Derived.Stop.Joined
set_option linter.unusedSimpArgs false
set_option linter.unusedVariables false
namespace Go.Proofs.YtciciemaldbidaaGreatDoor.varyCalls
open Go.Ve Go.ChangeShapes Go.WideShapes Go.ChangeAt Go.RowKit

def utfL (f a : List AV) : List (Nat × List AV) := [(2, f), (3, a), (1, powF)]
def utfF : List AV := (List.range 256).map fun c => AV.int .u8 (Lib.firstT c)
def utfA : List AV := (List.range 16).flatMap fun i => [AV.int .u8 (Lib.accLo i), AV.int .u8 (Lib.accHi i)]
theorem utf_reads {W : World} (h : laidMetH Tryz.prog Rows.varyCallsRow.laid W) : Lib.VarReads Tryz.prog W "unicode/utf8.first" Lib.firstData ∧ Lib.VarReads Tryz.prog W "unicode/utf8.acceptRanges" Lib.acceptData := by
  rw [MakeChecks.laidMetH_plain _ _ _ (by kernel_rfl)] at h
  have e1 : (Rows.laid_unicode_utf8_first : DataW Unit) = Lib.firstData := by kernel_rfl
  have e2 : (Rows.laid_unicode_utf8_acceptRanges : DataW Unit) = Lib.acceptData := by kernel_rfl
  exact ⟨e1 ▸ Lib.laidMet.reads h (n := "unicode/utf8.first") (by simp [Rows.varyCallsRow]), e2 ▸ Lib.laidMet.reads h (n := "unicode/utf8.acceptRanges") (by simp [Rows.varyCallsRow])⟩
theorem utf_first {W : World} (φ : List Ve.Loc) (h : Lib.VarReads Tryz.prog W "unicode/utf8.first" Lib.firstData) : CellsAt W φ 2 utfF := by
  have := glob_ints (zs := Lib.firstTab) (g := 2) (t := 115) (e := 5) (c := 256) φ h (by kernel_rfl) (by kernel_rfl) Tryz.underlying115 Tryz.underlying5 (by kernel_rfl) (by kernel_rfl) (by simp [Lib.firstTab])
  rw [Lib.firstTab, List.map_map] at this
  exact this
theorem utf_acc {W : World} (φ : List Ve.Loc) (h : Lib.VarReads Tryz.prog W "unicode/utf8.acceptRanges" Lib.acceptData) : CellsAt W φ 3 utfA :=
  glob_pairs (c := 16) (lo := fun i => (Lib.accLo i : Int)) (hi := fun i => (Lib.accHi i : Int)) (g := 3) (t := 118) (e := 117) (u := 5) φ h (by kernel_rfl) (by kernel_rfl) Tryz.underlying118 Tryz.underlying117 (by kernel_rfl) Tryz.underlying5 (by kernel_rfl) (fun i f hf => by
    match i, hf with
    | 0, hf => cases hf; exact ⟨rfl, rfl⟩
    | 1, hf => cases hf; exact ⟨rfl, rfl⟩
    | i + 2, hf => simp at hf) (by kernel_rfl) (by kernel_rfl) (by omega)
theorem pow_reads {W : World} (h : laidMetH Tryz.prog Rows.varyCallsRow.laid W) : Lib.VarReads Tryz.prog W "internal/strconv.uint64pow10" (Lib.tabData .u64 Lib.pow10Tab) := by
  rw [MakeChecks.laidMetH_plain _ _ _ (by kernel_rfl)] at h
  have e1 : (Rows.laid_internal_strconv_uint64pow10 : DataW Unit) = Lib.tabData .u64 Lib.pow10Tab := by kernel_rfl
  exact e1 ▸ Lib.laidMet.reads h (n := "internal/strconv.uint64pow10") (by simp [Rows.varyCallsRow])
theorem pow_cells {W : World} (φ : List Ve.Loc) (h : Lib.VarReads Tryz.prog W "internal/strconv.uint64pow10" (Lib.tabData .u64 Lib.pow10Tab)) : CellsAt W φ 1 powF :=
  glob_ints (zs := Lib.pow10Tab) (g := 1) (t := 111) (e := 77) (c := 20) φ h (by kernel_rfl) (by kernel_rfl) Tryz.underlying111 Tryz.underlying77 (by kernel_rfl) (by kernel_rfl) (by simp [Lib.pow10Tab])
theorem utf_rel {W : World} (h : laidMetH Tryz.prog Rows.varyCallsRow.laid W) : 0 < W.heap.size ∧ ∃ φ, Rel (Base.all W) φ [gFst utfF, gAcc utfA, gPow powF] W := by
  obtain ⟨h1, h2⟩ := utf_reads h
  have h3 := pow_reads h
  refine ⟨Nat.lt_of_le_of_lt (Nat.zero_le _) (utf_first [] h1).1, _, globs_rel (L := utfL utfF utfA) (by decide) fun p hp => ?_⟩
  simp only [utfL, List.mem_cons, List.mem_nil_iff, or_false] at hp
  rcases hp with rfl | rfl | rfl
  · exact utf_first _ h1
  · exact utf_acc _ h2
  · exact pow_cells _ h3
theorem utf_T : utf8T utfF utfA := ⟨rfl, rfl⟩
theorem strs_ts (l : List (List UInt8)) : (l.flatMap fun s => [AV.str s]) = ts l := by
  induction l with
  | nil => rfl
  | cons c s ih => simp only [List.flatMap_cons, ih, ts, List.map_cons]; rfl
theorem len2 {l r : List (List UInt8 × List UInt8)} (h : ∀ y ∈ (SlA.at l r).all, y.1.length ≤ reachBytes ∧ y.2.length ≤ reachBytes) : ∀ f ∈ l, f.1.length ≤ 281474976710656 ∧ f.2.length ≤ 281474976710656 := fun f hf => by
  have h3 := h f (List.mem_append_left _ hf)
  have h4 := reachBytes_lt
  omega
theorem len1 {l r : List (List UInt8)} (h : ∀ y ∈ (SlA.at l r).all, y.length ≤ reachBytes) : ∀ f ∈ l, f.length ≤ 281474976710656 := fun f hf => by
  have h3 := h f (List.mem_append_left _ hf)
  have h4 := reachBytes_lt
  omega
theorem fact (a b : SlA (List UInt8 × List UInt8)) (n : SlA (List UInt8)) (ho pa : List UInt8) (h1 : ((∀ y ∈ a.all, y.1.length ≤ reachBytes ∧ y.2.length ≤ reachBytes) ∧ a.all.length ≤ maxLen)) (z1 : a ≠ .zero) (h2 : ((∀ y ∈ b.all, y.1.length ≤ reachBytes ∧ y.2.length ≤ reachBytes) ∧ b.all.length ≤ maxLen)) (z2 : b ≠ .zero) (h3 : ((∀ y ∈ n.all, y.length ≤ reachBytes) ∧ n.all.length ≤ maxLen)) (z3 : n ≠ .zero) :
    AnsC [a.av 3, b.av 4, n.av 5, .str ho, .str pa] [gFst utfF, gAcc utfA, gPow powF, .cells (a.all.flatMap fun t => [.str t.1, .str t.2]) 0 true, .cells (b.all.flatMap fun t => [.str t.1, .str t.2]) 0 true, .cells (n.all.flatMap fun t => [.str t]) 0 true] := by
  match a, b, n, h1, h2, h3 with
  | .zero, _, _, _, _, _ => exact absurd rfl z1
  | .nil, .zero, _, _, _, _ => exact absurd rfl z2
  | .at _ _, .zero, _, _, _, _ => exact absurd rfl z2
  | .nil, .nil, .zero, _, _, _ => exact absurd rfl z3
  | .nil, .at _ _, .zero, _, _, _ => exact absurd rfl z3
  | .at _ _, .nil, .zero, _, _, _ => exact absurd rfl z3
  | .at _ _, .at _ _, .zero, _, _, _ => exact absurd rfl z3
  | .nil, .nil, .nil, h1, h2, h3 => have := calls_NNN _ _ ho pa utf_T; exact this
  | .nil, .nil, .at l r, h1, h2, h3 => have := calls_NNA _ _ ho pa l r utf_T (len1 h3.1); rw [← strs_ts] at this; exact this
  | .nil, .at fb rb, .nil, h1, h2, h3 => have := calls_NAN _ _ ho pa fb rb utf_T (len2 h2.1); exact this
  | .nil, .at fb rb, .at l r, h1, h2, h3 => have := calls_NAA _ _ ho pa fb rb l r utf_T (len2 h2.1) (len1 h3.1); rw [← strs_ts] at this; exact this
  | .at fa ra, .nil, .nil, h1, h2, h3 => have := calls_ANN _ _ ho pa fa ra utf_T (len2 h1.1); exact this
  | .at fa ra, .nil, .at l r, h1, h2, h3 => have := calls_ANA _ _ ho pa fa ra l r utf_T (len2 h1.1) (len1 h3.1); rw [← strs_ts] at this; exact this
  | .at fa ra, .at fb rb, .nil, h1, h2, h3 => have := calls_AAN _ _ ho pa fa ra fb rb utf_T (len2 h1.1) (len2 h2.1); exact this
  | .at fa ra, .at fb rb, .at l r, h1, h2, h3 => have := calls_AAA _ _ ho pa fa ra fb rb l r utf_T (len2 h1.1) (len2 h2.1) (len1 h3.1); rw [← strs_ts] at this; exact this

theorem own : ownKnob Tryz.prog.godebug = none := by kernel_rfl
theorem allNames : Tryz.prog.funcs.all (fun fn => !(fn.name == "runtime.NumGoroutine")) = true := by kernel_rfl
theorem mixed : Tryz.prog.follows .mixedOrders = true := by kernel_rfl

set_option maxHeartbeats 4000000 in
set_option maxRecDepth 100000 in
theorem lifted (os : Os) (started : os.Started) (H : Type) (enc : TypeId × Value → H) :
    ReturnsInHanded {} Tryz.checked os 3 .any (fun w args => (Rows.varyCallsSpec.pre enc Tryz.prog Tryz.f3 Rows.varyCallsRow.domain false w args ∧ laidMetH Tryz.prog Rows.varyCallsRow.laid w) ∧ sizedMet enc Tryz.prog Tryz.f3 (OpenSpec.ofChange Rows.varyCallsSpec) false w args)
      (Rows.varyCallsSpec.post enc Tryz.prog Tryz.f3 false true false false) := by
  refine returnsInHanded_of_change_and (C := Tryz.checked) (X := fun w _ => laidMetH Tryz.prog Rows.varyCallsRow.laid w) (fun _ _ _ hh h => h.of_heap hh) own started (by kernel_rfl) Tryz.func3
    (ChangeSpec.witness_shaped (enc := enc) (C := Tryz.checked) (os := os) (X := fun w _ => laidMetH Tryz.prog Rows.varyCallsRow.laid w) false (World.laidAll Tryz.prog os Rows.varyCallsRow.laid) #[.slice none 0 0, .slice none 0 0, .slice none 0 0, .string ByteArray.empty, .string ByteArray.empty] 8 (World.laidAll_os _ _ _)
      (World.shaped_of_ZipB (by kernel_rfl) (by kernel_rfl)) (by kernel_rfl) (by kernel_rfl) (by kernel_rfl)
      (by rw [MakeChecks.laidMetH_plain _ _ _ (by kernel_rfl)]; exact laidMet_laidAll _ (by kernel_rfl) (by kernel_rfl))) ?_
  intro W base args ds gs before hval hW hcnd hsz hlaid _
  obtain ⟨hpos, φ0, hutf⟩ := utf_rel hlaid
  exact contract_of_scG (tb := 4) (by kernel_rfl) (by kernel_rfl) rfl Tryz.underlying4 rfl
    (fun ds h => match ds, h with | [_, _, _, _, _], _ => ⟨rfl, rfl, rfl⟩)
    (opensArgsS_consSl (t := 22) hpos (by kernel_rfl) Tryz.underlying22 (opensS_slice (e := 36) Tryz.underlying22 (of_decide_eq_true (by kernel_rfl)) ((flatS_struct (n := 2) Tryz.underlying36 (flatFsS_cons (n := 1) (flatS_str Tryz.underlying9) (flatFsS_cons (n := 1) (flatS_str Tryz.underlying9) (flatFsS_nil 2)))).turn (fun x => (x.1, x.2.1)) (fun t : List UInt8 × List UInt8 => [.str t.1, .str t.2]) (fun t => t.1.length ≤ reachBytes ∧ t.2.length ≤ reachBytes) (fun _ => rfl) (fun _ h => ⟨h.1, h.2.1⟩)) (fun _ => (by kernel_rfl : 2 = Tryz.prog.cellsOf 36)) 0) ⟨fun y hy => by simp [SlA.all] at hy, by simp [SlA.all]⟩ (opensArgsS_consSl (t := 22) hpos (by kernel_rfl) Tryz.underlying22 (opensS_slice (e := 36) Tryz.underlying22 (of_decide_eq_true (by kernel_rfl)) ((flatS_struct (n := 2) Tryz.underlying36 (flatFsS_cons (n := 1) (flatS_str Tryz.underlying9) (flatFsS_cons (n := 1) (flatS_str Tryz.underlying9) (flatFsS_nil 2)))).turn (fun x => (x.1, x.2.1)) (fun t : List UInt8 × List UInt8 => [.str t.1, .str t.2]) (fun t => t.1.length ≤ reachBytes ∧ t.2.length ≤ reachBytes) (fun _ => rfl) (fun _ h => ⟨h.1, h.2.1⟩)) (fun _ => (by kernel_rfl : 2 = Tryz.prog.cellsOf 36)) 0) ⟨fun y hy => by simp [SlA.all] at hy, by simp [SlA.all]⟩ (opensArgsS_consSl (t := 23) hpos (by kernel_rfl) Tryz.underlying23 (opensS_slice (e := 9) Tryz.underlying23 (of_decide_eq_true (by kernel_rfl)) (flatS_str Tryz.underlying9) (fun _ => (by kernel_rfl : 1 = Tryz.prog.cellsOf 9)) 0) ⟨fun y hy => by simp [SlA.all] at hy, by simp [SlA.all]⟩ (opensArgsS_cons (t := 9) (b := false) (by kernel_rfl) (flatS_str Tryz.underlying9).opens (opensArgsS_cons (t := 9) (b := false) (by kernel_rfl) (flatS_str Tryz.underlying9).opens opensArgsS_nil)))))
    hutf
    (fun x hx => fact x.1 x.2.1 x.2.2.1 x.2.2.2.1 x.2.2.2.2.1 hx.1.1 hx.1.2 hx.2.1.1 hx.2.1.2 hx.2.2.1.1 hx.2.2.1.2) hval hW (sz_of rfl hW hsz)

theorem over : Rows.varyCallsRow.holds Tryz.pinned (OpenSpec.ofChange Rows.varyCallsSpec) :=
  OpenClaim.holds_of_wide 3 Tryz.f3 rfl rfl rfl rfl rfl rfl rfl ⟨rfl, rfl, rfl, rfl, rfl⟩ rfl rfl rfl rfl rfl (by kernel_rfl) Tryz.func3 (by kernel_rfl)
    (of_decide_eq_true (by kernel_rfl)) (by unfold Func.isWrapper; first | (rw [if_pos (by decide +kernel)]; kernel_rfl) | (rw [if_neg (by decide +kernel)]; exact ⟨rfl, rfl⟩))
    (fun os started H enc _ => lifted os started H enc)

theorem proved : Rows.VaryCallsCardSaid :=
  Claim7.holds_tied_plain_at .later [] Rows.varyCallsCard.laidKinds true Rows.varyCallsCard.stood.harness Rows.varyCallsCard.stood.looks
    over (fun _ h => by cases h) (by kernel_rfl) (fun _ h => by cases h) varyCalls_row_tie rfl ⟨rfl, rfl⟩ (by kernel_rfl) rfl
    (fun f fn hf hfn => by
      obtain rfl : f = 3 := Option.some.inj ((show Tryz.prog.funcNamed "halfwayhouse/halfwayhouselaw12.VaryCalls" = some 3 by kernel_rfl).symm.trans hf) |>.symm
      obtain rfl : fn = Tryz.f3 := (Option.some.inj (Tryz.func3.symm.trans hfn)).symm
      exact ⟨by kernel_rfl, fun j t ht => by
        rw [Tryz.params3] at ht
        have hm : t ∈ [22, 22, 23, 9, 9] := by simpa using Array.mem_of_getElem? ht
        have hall : ([22, 22, 23, 9, 9].all fun u => !Tryz.prog.wantsStandIn u) = true := by kernel_rfl
        exact (show Tryz.prog.wantsStandIn t = false by simpa using List.all_eq_true.1 hall t hm)⟩)
    (by kernel_rfl)
#print axioms proved
end Go.Proofs.YtciciemaldbidaaGreatDoor.varyCalls

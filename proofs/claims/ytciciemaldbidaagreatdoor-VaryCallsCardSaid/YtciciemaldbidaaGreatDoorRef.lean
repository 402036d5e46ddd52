/- What the document's answers for names and fields say; which fields are light. -/
import Derived.Test.YtciciemaldbidaaGreatDoorFr1
set_option linter.unusedSimpArgs false
set_option linter.unusedVariables false
namespace Go.Proofs.YtciciemaldbidaaGreatDoor
open Go Go.Ve
set_option maxRecDepth 20000
noncomputable def aLowR (s : List UInt8) : Anns := [(3, [.mk Nat (fun i => [(4, .int .i64 i)]) (fun i => some [.cells (bs (lower (s.take i) ++ s.drop i)) (btag Tryz.prog 5 1) false]) (fun i => i ≤ s.length) (fun i => s.length - i) none none (fun i => [(16, .int .u8 (byteAt s i)), (22, .int .u8 (byteAt s i)), (30, .int .u8 (byteAt s i))]) (fun _ => [])])]
noncomputable def TR0 : List (Nat × SpecE) := [(25, flatE (g1 le40 fun s => .str (lower s)))]
noncomputable def VR0 : VE := ⟨Tryz.prog, tabS TR0 noS, noO, fun _ => none⟩
noncomputable def TR1 : List (Nat × SpecE) := [(46, flatE gSame)]
noncomputable def VR1 : VE := ⟨Tryz.prog, tabS TR1 noS, noO, fun _ => none⟩
noncomputable def aAllR (l r : FL) (nm : List UInt8) (e : Nat) (ro : Bool) : Anns := [(3, [
  .mk Nat (fun i => [(6, .int .i64 i), (5, .nilsl)]) (fun _ => some [.cells (fieldC (l ++ r)) e ro]) (fun i => i ≤ l.length ∧ allF (l.take i) nm = []) (fun i => l.length - i) gcB gcB (fun i => [(17, .str (fld l i).1), (25, .str (fld l i).2)]) (fun _ => []),
  .mk Nat (fun i => [(6, .int .i64 i), (5, .sl 1 0 (allF (l.take i) nm).length (allF (l.take i) nm).length false)]) (fun i => some [.cells (fieldC (l ++ r)) e ro, .cells (ts (allF (l.take i) nm)) eT false]) (fun i => i ≤ l.length ∧ allF (l.take i) nm ≠ []) (fun i => l.length - i) gcB gcB (fun i => [(17, .str (fld l i).1), (25, .str (fld l i).2)]) (fun _ => [])])]
def sumL (l : FL) : Nat := (l.map fun f => f.1.length + f.2.length).sum
noncomputable def aLit (l r : FL) (e : Nat) (ro : Bool) : Anns := [(5, [.mk Nat (fun i => [(8, .int .i64 i), (7, .int .i64 (sumL (l.take i)))]) (fun _ => some [.cells (fieldC (l ++ r)) e ro]) (fun i => i ≤ l.length ∧ sumL (l.take i) ≤ 600) (fun i => l.length - i) gcB gcB (fun i => [(24, .str (fld l i).1), (31, .str (fld l i).2)]) (fun _ => [])])]

noncomputable def vLowR  (s : List UInt8) : Prop := vcF V0 [] 300 (aLowR s) [(34, .str (lower s))] 25 [.str s] [] (one (.str (lower s)))
noncomputable def vSameR  (a b : List UInt8) : Prop := vcF VR0 [] 300 [] [] 46 [.str a, .str b] [] (one (.bool (decide (lower a = lower b))))
noncomputable def vAllRN  (nm : List UInt8) : Prop := vcF VR1 [] 300 [] [] 29 [.nilsl, .str nm] [] (one .nilsl)
noncomputable def vAllRZ  (nm : List UInt8) : Prop := vcF VR1 [] 300 [] [] 29 [.slz, .str nm] [] (one .nilsl)
noncomputable def vAllR  (l r : FL) (nm : List UInt8) (e : Nat) (ro : Bool) (c : Nat) (ex : Bool) : Prop := vcF VR1 [] 300 (aAllR l r nm e ro) [] 29 [.sl 0 0 l.length c ex, .str nm] [.cells (fieldC (l ++ r)) e ro] (outA l r nm e ro)
def gqRef0 : Nat → Nat := (fun (b : Nat) => [0].getD b 1)
def gqRef1 : Nat → Nat := (fun (b : Nat) => [0, 1].getD b 2)
theorem vLowR_eq  (s : List UInt8) : vLowR s = ((∃ (x : Nat), x ≤ s.length ∧ ((cellsP gqRef0 (bs (lower (List.take x s) ++ List.drop x s)) (List.map (fun (c : UInt8) => AV.int IntKind.u8 (ic c.toNat)) s) ∧ True) ∧ True) ∧ (0 : Int) = ic x ∧ True) ∧ ∀ (x : Nat), x ≤ s.length → bif ltI (ic x) (ic s.length) then bif ltI (ic x) (ic s.length) then (bs (lower (List.take x s) ++ List.drop x s))[0 + x * 1]? = some (AV.int IntKind.u8 (byteAt s x)) ∧ bif leI (65 : Int) (byteAt s x) then bif ltI (ic x) (ic s.length) then (bs (lower (List.take x s) ++ List.drop x s))[0 + x * 1]? = some (AV.int IntKind.u8 (byteAt s x)) ∧ bif leI (byteAt s x) (90 : Int) then bif ltI (ic x) (ic s.length) then (bs (lower (List.take x s) ++ List.drop x s))[0 + x * 1]? = some (AV.int IntKind.u8 (byteAt s x)) ∧ bif leI (byteAt s x + (32 : Int)) (255 : Int) then bif ltI (ic x) (ic s.length) then bif decide (0 + x * 1 + 1 ≤ (bs (lower (List.take x s) ++ List.drop x s)).length) then bif leI (ic x + (1 : Int)) (9223372036854775807 : Int) then ∃ (y : Nat), y ≤ s.length ∧ s.length - y < s.length - x ∧ ((cellsP gqRef0 (bs (lower (List.take y s) ++ List.drop y s)) (setManyF (bs (lower (List.take x s) ++ List.drop x s)) (0 + x * 1) [AV.int IntKind.u8 (byteAt s x + (32 : Int))]) ∧ True) ∧ True) ∧ ic x + (1 : Int) = ic y ∧ True else False else False else False else False else False else bif leI (ic x + (1 : Int)) (9223372036854775807 : Int) then ∃ (y : Nat), y ≤ s.length ∧ s.length - y < s.length - x ∧ ((cellsP gqRef0 (bs (lower (List.take y s) ++ List.drop y s)) (bs (lower (List.take x s) ++ List.drop x s)) ∧ True) ∧ True) ∧ ic x + (1 : Int) = ic y ∧ True else False else False else bif leI (ic x + (1 : Int)) (9223372036854775807 : Int) then ∃ (y : Nat), y ≤ s.length ∧ s.length - y < s.length - x ∧ ((cellsP gqRef0 (bs (lower (List.take y s) ++ List.drop y s)) (bs (lower (List.take x s) ++ List.drop x s)) ∧ True) ∧ True) ∧ ic x + (1 : Int) = ic y ∧ True else False else False else bif decide (0 + s.length ≤ (bs (lower (List.take x s) ++ List.drop x s)).length) then abytes (List.take s.length (List.drop 0 (bs (lower (List.take x s) ++ List.drop x s)))) = some (lower s) ∧ ∃ (_x : Unit), True ∧ True ∧ lower s = lower s ∧ True else False) := by kernel_rfl
theorem vSameR_eq  (a b : List UInt8) : vSameR a b = (bif le40 a then bif le40 b then ∃ (_x : Unit), True ∧ True ∧ decide (lower a = lower b) = decide (lower a = lower b) ∧ True else False else False) := by kernel_rfl
theorem vAllRN_eq  (nm : List UInt8) : vAllRN nm = (∃ (_x : Unit), True ∧ True ∧ True ∧ True) := by kernel_rfl
theorem vAllRZ_eq  (nm : List UInt8) : vAllRZ nm = (∃ (_x : Unit), True ∧ True ∧ True ∧ True) := by kernel_rfl
theorem vAllR_eq  (l r : FL) (nm : List UInt8) (e : Nat) (ro : Bool) (c : Nat) (ex : Bool) : vAllR l r nm e ro c ex = (((∃ (x : Nat), (x ≤ List.length l ∧ allF (List.take x l) nm = []) ∧ ((bif e.beq e && sameB ro ro then cellsP gqRef0 (fieldC (l ++ r)) (fieldC (l ++ r)) ∧ True else False) ∧ True) ∧ (0 : Int) = ic x ∧ True ∧ True) ∨ ∃ (x : Nat), (x ≤ List.length l ∧ allF (List.take x l) nm ≠ []) ∧ False) ∧ (∀ (x : Nat), x ≤ List.length l ∧ allF (List.take x l) nm = [] → bif ltI (ic x) (ic (List.length l)) then bif ltI (ic x) (ic (List.length l)) then (fieldC (l ++ r))[0 + x * 2 + 0]? = some (AV.str (fld l x).fst) ∧ bif le40 (fld l x).fst && le40 nm then bif decide (lower (fld l x).fst = lower nm) then bif ltI (ic x) (ic (List.length l)) then (fieldC (l ++ r))[0 + x * 2 + 1]? = some (AV.str (fld l x).snd) ∧ bif leI (ic x + (1 : Int)) (9223372036854775807 : Int) then (∃ (y : Nat), (y ≤ List.length l ∧ allF (List.take y l) nm = []) ∧ List.length l - y < List.length l - x ∧ ((bif e.beq e && sameB ro ro then cellsP (fun (b : Nat) => [0].getD b 3) (fieldC (l ++ r)) (fieldC (l ++ r)) ∧ True else False) ∧ True) ∧ ic x + (1 : Int) = ic y ∧ False ∧ True) ∨ ∃ (y : Nat), (y ≤ List.length l ∧ allF (List.take y l) nm ≠ []) ∧ List.length l - y < List.length l - x ∧ ((bif e.beq e && sameB ro ro then cellsP (fun (b : Nat) => [0, 2].getD b 3) (fieldC (l ++ r)) (fieldC (l ++ r)) ∧ True else False) ∧ (cellsP (fun (b : Nat) => [0, 2].getD b 3) (ts (allF (List.take y l) nm)) [AV.str (fld l x).snd] ∧ True) ∧ True) ∧ ic x + (1 : Int) = ic y ∧ (0 = 0 ∧ 1 = List.length (allF (List.take y l) nm) ∧ 1 = List.length (allF (List.take y l) nm) ∧ false = false) ∧ True else False else False else bif leI (ic x + (1 : Int)) (9223372036854775807 : Int) then (∃ (y : Nat), (y ≤ List.length l ∧ allF (List.take y l) nm = []) ∧ List.length l - y < List.length l - x ∧ ((bif e.beq e && sameB ro ro then cellsP gqRef0 (fieldC (l ++ r)) (fieldC (l ++ r)) ∧ True else False) ∧ True) ∧ ic x + (1 : Int) = ic y ∧ True ∧ True) ∨ ∃ (y : Nat), (y ≤ List.length l ∧ allF (List.take y l) nm ≠ []) ∧ List.length l - y < List.length l - x ∧ False else False else False else False else (∃ (_x : Unit), allF l nm = [] ∧ ((bif e.beq e && sameB ro ro then cellsP gqRef0 (fieldC (l ++ r)) (fieldC (l ++ r)) ∧ True else False) ∧ True) ∧ True ∧ True) ∨ ∃ (_x : Unit), allF l nm ≠ [] ∧ False) ∧ ∀ (x : Nat), x ≤ List.length l ∧ allF (List.take x l) nm ≠ [] → bif ltI (ic x) (ic (List.length l)) then bif ltI (ic x) (ic (List.length l)) then (fieldC (l ++ r))[0 + x * 2 + 0]? = some (AV.str (fld l x).fst) ∧ bif le40 (fld l x).fst && le40 nm then bif decide (lower (fld l x).fst = lower nm) then bif ltI (ic x) (ic (List.length l)) then (fieldC (l ++ r))[0 + x * 2 + 1]? = some (AV.str (fld l x).snd) ∧ bif decide (List.length (allF (List.take x l) nm) ≤ List.length (allF (List.take x l) nm)) && decide (0 + List.length (allF (List.take x l) nm) * 1 ≤ (ts (allF (List.take x l) nm)).length) then bif decide (List.length (allF (List.take x l) nm) + 1 ≤ List.length (allF (List.take x l) nm)) then bif decide (0 + (List.length (allF (List.take x l) nm) + 1) * 1 ≤ (ts (allF (List.take x l) nm)).length) && true then bif leI (ic x + (1 : Int)) (9223372036854775807 : Int) then (∃ (y : Nat), (y ≤ List.length l ∧ allF (List.take y l) nm = []) ∧ List.length l - y < List.length l - x ∧ ((bif e.beq e && sameB ro ro then cellsP (fun (b : Nat) => [0].getD b 3) (fieldC (l ++ r)) (fieldC (l ++ r)) ∧ True else False) ∧ True) ∧ ic x + (1 : Int) = ic y ∧ False ∧ True) ∨ ∃ (y : Nat), (y ≤ List.length l ∧ allF (List.take y l) nm ≠ []) ∧ List.length l - y < List.length l - x ∧ ((bif e.beq e && sameB ro ro then cellsP (fun (b : Nat) => [0, 1].getD b 3) (fieldC (l ++ r)) (fieldC (l ++ r)) ∧ True else False) ∧ (cellsP (fun (b : Nat) => [0, 1].getD b 3) (ts (allF (List.take y l) nm)) (setManyF (ts (allF (List.take x l) nm)) (0 + List.length (allF (List.take x l) nm) * 1) [AV.str (fld l x).snd]) ∧ True) ∧ True) ∧ ic x + (1 : Int) = ic y ∧ (0 = 0 ∧ List.length (allF (List.take x l) nm) + 1 = List.length (allF (List.take y l) nm) ∧ List.length (allF (List.take x l) nm) = List.length (allF (List.take y l) nm) ∧ false = false) ∧ True else False else False else bif decide (List.length (allF (List.take x l) nm) + 1 ≤ 9223372036854775807) && decide ((List.length (allF (List.take x l) nm) + 1) * 16 ≤ 140737488355328) then bif decide (List.length (allF (List.take x l) nm) = List.length (allF (List.take x l) nm)) && (decide (0 + List.length (allF (List.take x l) nm) * 1 = (ts (allF (List.take x l) nm)).length) && true) then bif leI (ic x + (1 : Int)) (9223372036854775807 : Int) then (∃ (y : Nat), (y ≤ List.length l ∧ allF (List.take y l) nm = []) ∧ List.length l - y < List.length l - x ∧ ((bif e.beq e && sameB ro ro then cellsP (fun (b : Nat) => [0].getD b 4) (fieldC (l ++ r)) (fieldC (l ++ r)) ∧ True else False) ∧ True) ∧ ic x + (1 : Int) = ic y ∧ False ∧ True) ∨ ∃ (y : Nat), (y ≤ List.length l ∧ allF (List.take y l) nm ≠ []) ∧ List.length l - y < List.length l - x ∧ ((bif e.beq e && sameB ro ro then cellsP (fun (b : Nat) => [0, 3].getD b 4) (fieldC (l ++ r)) (fieldC (l ++ r)) ∧ True else False) ∧ (cellsP (fun (b : Nat) => [0, 3].getD b 4) (ts (allF (List.take y l) nm)) (List.drop 0 (ts (allF (List.take x l) nm)) ++ [AV.str (fld l x).snd]) ∧ True) ∧ True) ∧ ic x + (1 : Int) = ic y ∧ (0 = 0 ∧ List.length (allF (List.take x l) nm) + 1 = List.length (allF (List.take y l) nm) ∧ List.length (allF (List.take x l) nm) + 1 = List.length (allF (List.take y l) nm) ∧ false = false) ∧ True else False else False else False else False else False else bif leI (ic x + (1 : Int)) (9223372036854775807 : Int) then (∃ (y : Nat), (y ≤ List.length l ∧ allF (List.take y l) nm = []) ∧ List.length l - y < List.length l - x ∧ ((bif e.beq e && sameB ro ro then cellsP (fun (b : Nat) => [0].getD b 2) (fieldC (l ++ r)) (fieldC (l ++ r)) ∧ True else False) ∧ True) ∧ ic x + (1 : Int) = ic y ∧ False ∧ True) ∨ ∃ (y : Nat), (y ≤ List.length l ∧ allF (List.take y l) nm ≠ []) ∧ List.length l - y < List.length l - x ∧ ((bif e.beq e && sameB ro ro then cellsP gqRef1 (fieldC (l ++ r)) (fieldC (l ++ r)) ∧ True else False) ∧ (cellsP gqRef1 (ts (allF (List.take y l) nm)) (ts (allF (List.take x l) nm)) ∧ True) ∧ True) ∧ ic x + (1 : Int) = ic y ∧ (0 = 0 ∧ List.length (allF (List.take x l) nm) = List.length (allF (List.take y l) nm) ∧ List.length (allF (List.take x l) nm) = List.length (allF (List.take y l) nm) ∧ false = false) ∧ True else False else False else False else (∃ (_x : Unit), allF l nm = [] ∧ ((bif e.beq e && sameB ro ro then cellsP (fun (b : Nat) => [0].getD b 2) (fieldC (l ++ r)) (fieldC (l ++ r)) ∧ True else False) ∧ True) ∧ False ∧ True) ∨ ∃ (_x : Unit), allF l nm ≠ [] ∧ ((bif e.beq e && sameB ro ro then cellsP gqRef1 (fieldC (l ++ r)) (fieldC (l ++ r)) ∧ True else False) ∧ (cellsP gqRef1 (ts (allF l nm)) (ts (allF (List.take x l) nm)) ∧ True) ∧ True) ∧ (0 = 0 ∧ List.length (allF (List.take x l) nm) = List.length (allF l nm) ∧ List.length (allF (List.take x l) nm) = List.length (allF l nm) ∧ false = false) ∧ True) := by kernel_rfl
theorem lowR_vc (s : List UInt8) (hs : s.length ≤ 9223372036854775806) : vLowR s := by
  rw [vLowR_eq]
  simp only [ic, cond_F]
  simp only [cond_P, leI_t, leI_f, ltI_t, ltI_f, eqI_t, eqI_f, and_t, not_t, not_f, dec_t, dec_f, Nat.zero_add, Nat.mul_one, List.drop_zero]
  simp only [bs_length, setManyF]
  refine ⟨⟨0, Nat.zero_le _, ⟨⟨?_, trivial⟩, trivial⟩, rfl, trivial⟩, fun i hi => ?_⟩
  · exact cellsP_flat (bs_flat _) (by simp [lower, bs])
  have hlen : (lower (s.take i) ++ s.drop i).length = s.length := by simp [lower]; omega
  refine ⟨fun hlt => ?_, fun hge => ?_⟩
  · have hlt' : i < s.length := by omega
    have hb := byteAt_get s i hlt'
    have hk : ∀ y : List AV, y = bs (lower (s.take (i + 1)) ++ s.drop (i + 1)) → (∃ y_1 : Nat, y_1 ≤ s.length ∧ s.length - y_1 < s.length - i ∧ ((cellsP (fun b => [0].getD b 1) (bs (lower (s.take y_1) ++ s.drop y_1)) y ∧ True) ∧ True) ∧ (i : Int) + 1 = (y_1 : Int) ∧ True) := fun y hy =>
      ⟨i + 1, by omega, by omega, ⟨⟨cellsP_flat (bs_flat _) hy, trivial⟩, trivial⟩, by omega, trivial⟩
    refine ⟨hlt, mixed_get s i hlt', fun h65 => ⟨hlt, mixed_get s i hlt', fun h90 => ?_, fun h90 => ?_⟩, fun h65 => ?_⟩
    · have h65' : 65 ≤ s[i].toNat := by omega
      have h90' : s[i].toNat ≤ 90 := by omega
      refine ⟨hlt, mixed_get s i hlt', by omega, hlt, by omega, by omega, hk _ ?_⟩
      have hlow : low1 s[i] = s[i] + 32 := by
        unfold low1
        rw [if_pos]
        exact ⟨by rw [UInt8.le_iff_toNat_le]; exact h65', by rw [UInt8.le_iff_toNat_le]; exact h90'⟩
      have ht : ((s[i] + 32 : UInt8).toNat : Int) = byteAt s i + 32 := by
        rw [UInt8.toNat_add, hb]
        have : (32 : UInt8).toNat = 32 := rfl
        omega
      rw [← ht]
      exact mixed_set s i hlt' _ hlow
    · refine ⟨by omega, hk _ ?_⟩
      rw [mixed_keep s i hlt' ?_]
      unfold low1
      rw [if_neg]
      rintro ⟨_, h2⟩
      rw [UInt8.le_iff_toNat_le] at h2
      have : (90 : UInt8).toNat = 90 := rfl
      omega
    · refine ⟨by omega, hk _ ?_⟩
      rw [mixed_keep s i hlt' ?_]
      unfold low1
      rw [if_neg]
      rintro ⟨h2, _⟩
      rw [UInt8.le_iff_toNat_le] at h2
      have : (65 : UInt8).toNat = 65 := rfl
      omega
  · have hi2 : i = s.length := by omega
    subst hi2
    refine ⟨by omega, ?_, (), trivial, trivial, trivial, trivial⟩
    rw [List.take_length, List.drop_length, List.append_nil, List.take_of_length_le (by simp [bs, lower]), bs_bytes]
theorem TR0_ok : SpecOk Tryz.prog (tabS TR0 noS) := by
  refine tabS_ok (fun p hp => ?_) noS_ok
  simp only [TR0, List.mem_cons, List.mem_nil_iff, or_false] at hp
  subst hp
  exact g1_ok (fun _ => rfl) fun s hs => SC.one (V := V0) names0 mixed0 noS_ok noO_ok (lowR_vc s (by have := of_decide_eq_true hs; omega))
theorem sameR_vc (a b : List UInt8) (ha : le40 a = true) (hb : le40 b = true) : vSameR a b := by
  rw [vSameR_eq]
  simp only [cond_F]
  exact ⟨ha, hb, (), trivial, trivial, trivial, trivial⟩
theorem gSameR_ok : EntryOk Tryz.prog 46 (flatE gSame) := by
  refine flatE_ok fun args b v hg hb => ?_
  unfold gSame at hg
  split at hg
  · rename_i s t
    cases hg
    rw [and_t] at hb
    exact ⟨rfl, rfl, SC.one (V := VR0) names0 mixed0 TR0_ok noO_ok (sameR_vc s t hb.1 hb.2)⟩
  · cases hg
theorem TR1_ok : SpecOk Tryz.prog (tabS TR1 noS) := by
  refine tabS_ok (fun p hp => ?_) noS_ok
  simp only [TR1, List.mem_cons, List.mem_nil_iff, or_false] at hp
  subst hp
  exact gSameR_ok
theorem fieldC_get (l r : FL) (x : Nat) (hx : x < l.length) : (fieldC (l ++ r))[x * 2 + 0]? = some (AV.str (fld l x).fst) ∧ (fieldC (l ++ r))[x * 2 + 1]? = some (AV.str (fld l x).snd) := by
  have h := fieldC_drop (l ++ r) x (by rw [List.length_append]; omega)
  rw [fld_app _ _ _ hx] at h
  have h0 := congrArg (fun q => q[0]?) h
  have h1 := congrArg (fun q => q[1]?) h
  simp only [List.getElem?_take, List.getElem?_drop] at h0 h1
  exact ⟨by simpa using h0, by simpa using h1⟩
theorem allR_vc (l r : FL) (nm : List UInt8) (e : Nat) (ro : Bool) (c : Nat) (ex : Bool) (hl : totL l ≤ 274877906944) (hn : le40 nm = true) : vAllR l r nm e ro c ex := by
  rw [vAllR_eq]
  simp only [ic, cond_F, sameB_self, Nat.beq_refl]
  simp only [cond_P, leI_t, leI_f, ltI_t, ltI_f, eqI_t, eqI_f, and_t, not_t, not_f, dec_t, dec_f, Nat.zero_add, Nat.mul_one, List.drop_zero]
  simp only [cells_tsr, cells_fld, take_ts, ts_length, and_true, true_and, and_false, false_and, or_false, false_or, exists_false, Nat.le_refl, exists_const, Nat.succ_ne_self, Nat.not_succ_le_self, false_implies, not_false_eq_true, true_implies, fldT_at, fldOk_at, getS_ts]
  have hlen := tot_flen l
  have h3 : ∀ x, x < l.length → le40 (fld l x).1 = true := fun x hx => decide_eq_true (by have := tot_fld (fld_mem hx); omega)
  have h4 : ∀ x, (allF (l.take x) nm).length ≤ l.length := fun x => Nat.le_trans (allF_len _ _) (by rw [List.length_take]; omega)
  refine ⟨⟨0, ⟨Nat.zero_le _, rfl⟩, rfl⟩, fun x hx => ⟨fun hlt => ?_, fun hge => ?_⟩, fun x hx => ⟨fun hlt => ?_, fun hge => ?_⟩⟩
  · have hx' : x < l.length := by omega
    have h1 := fieldC_get l r x hx'
    refine ⟨hlt, h1.1, ⟨h3 x hx', hn⟩, fun hs => ⟨hlt, h1.2, by omega, x + 1, ⟨by omega, ?_⟩, by omega, ?_, by omega, ?_⟩, fun hs => ⟨by omega, x + 1, ⟨by omega, ?_⟩, by omega, by omega⟩⟩
    · rw [allF_yes hx' hs]; simp
    · rw [allF_yes hx' hs, hx.2]; exact cells_refl rfl
    · rw [allF_yes hx' hs, hx.2]; simp
    · rw [allF_no hx' hs]; exact hx.2
  · have h := hx.2
    rwa [List.take_of_length_le (by omega)] at h
  · have hx' : x < l.length := by omega
    have h5 := h4 x
    have h1 := fieldC_get l r x hx'
    refine ⟨hlt, h1.1, ⟨h3 x hx', hn⟩, fun hs => ⟨hlt, h1.2, ⟨by omega, by omega⟩, by omega, x + 1, ⟨by omega, ?_⟩, by omega, ?_, by omega, ?_⟩, fun hs => ⟨by omega, x + 1, ⟨by omega, ?_⟩, by omega, ?_, by omega, ?_⟩⟩
    · rw [allF_yes hx' hs]; simp
    · rw [allF_yes hx' hs, ts_snoc, cells_tsr]; trivial
    · rw [allF_yes hx' hs]; simp
    · rw [allF_no hx' hs]; exact hx.2
    · rw [allF_no hx' hs, cells_tsr]; trivial
    · rw [allF_no hx' hs]; exact ⟨rfl, rfl⟩
  · have h := hx.2
    have e : l.take x = l := List.take_of_length_le (by omega)
    rw [e] at h ⊢
    rw [cells_tsr]
    exact ⟨h, trivial, rfl, rfl⟩
theorem allRN_vc (nm : List UInt8) : vAllRN nm := by
  rw [vAllRN_eq]; simp
theorem allRZ_vc (nm : List UInt8) : vAllRZ nm := by
  rw [vAllRZ_eq]; simp
theorem eAllR_ok : EntryOk Tryz.prog 29 eAll := by
  intro args H sr hs K hk
  unfold eAll at hs
  split at hs
  · rename_i nm
    cases hs
    refine (SC.flat (K := fun v' H' => v' = .nilsl ∧ H' = H) (SC.one (V := VR1) names0 mixed0 TR1_ok noO_ok (allRN_vc nm)) rfl ?_).mono ?_
    · rintro v0 T ⟨rfl, rfl⟩; exact ⟨(fun k hk => by cases hk), rfl, by simp⟩
    · rintro v H' ⟨rfl, rfl⟩; exact ⟨none, hk, rfl⟩
  · rename_i nm
    cases hs
    refine (SC.flat (K := fun v' H' => v' = .nilsl ∧ H' = H) (SC.one (V := VR1) names0 mixed0 TR1_ok noO_ok (allRZ_vc nm)) rfl ?_).mono ?_
    · rintro v0 T ⟨rfl, rfl⟩; exact ⟨(fun k hk => by cases hk), rfl, by simp⟩
    · rintro v H' ⟨rfl, rfl⟩; exact ⟨none, hk, rfl⟩
  · rename_i b n c ex nm
    split at hs
    · rename_i vs e ro hb
      cases hs
      obtain ⟨⟨g1, g4⟩, h2⟩ := hk
      obtain ⟨q1, q2⟩ := cond_dec h2
      obtain ⟨r, h1, hl, h3⟩ := fldOk_ex g1
      generalize fldT vs n = l at *
      subst h1
      subst hl
      have hsc : SC Tryz.prog 29 [.sl 0 0 l.length c ex, .str nm] [.cells (fieldC (l ++ r)) e ro] (outE (outA l r nm e ro)) := SC.ofF (V := VR1) names0 mixed0 TR1_ok noO_ok (allR_vc l r nm e ro c ex h3 g4)
      refine SC.reads1 (b := b) (H := H) hsc (cells_ren (fieldC_flat _) e ro) (by simp) hb ?_
      rintro v0 H0' ⟨o, ho, x, hx, rfl, rfl⟩
      simp only [outA, List.mem_cons, List.mem_nil_iff, or_false] at ho
      rcases ho with rfl | rfl
      · exact ⟨[], rfl, (fun t ht => by cases ht), none, q1 hx, by simp [chN]⟩
      · refine ⟨[.cells (ts (allF l nm)) eT false], rfl, (fun t ht => by simp at ht; subst ht; exact .inl rfl), _, q2 hx, ?_⟩
        show H ++ [(ABlk.cells (ts (allF l nm)) eT false).ren _] = _
        rw [cells_ren (ts_flat _)]
        rfl
    · cases hs
  · cases hs
theorem sumL_app (a b : FL) : sumL (a ++ b) = sumL a + sumL b := by simp [sumL]
theorem sumL_step {l : FL} {x : Nat} (hx : x < l.length) : sumL (l.take (x + 1)) = sumL (l.take x) + (fld l x).1.length + (fld l x).2.length := by
  rw [fld_take hx, sumL_app]
  simp only [sumL, List.map_cons, List.map_nil, List.sum_cons, List.sum_nil]
  omega
theorem sumL_take (l : FL) (x : Nat) : sumL (l.take x) ≤ sumL l := by
  have := sumL_app (l.take x) (l.drop x)
  rw [List.take_append_drop] at this
  omega
end Go.Proofs.YtciciemaldbidaaGreatDoor

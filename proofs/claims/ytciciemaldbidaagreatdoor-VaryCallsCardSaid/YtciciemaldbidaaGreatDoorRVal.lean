/- What the document's one, Value, Match, Digits, Key and Primary answer. -/
import Derived.Test.YtciciemaldbidaaGreatDoorKeyK
import Derived.Test.YtciciemaldbidaaGreatDoorOneB
import Derived.Test.YtciciemaldbidaaGreatDoorRef
set_option linter.unusedSimpArgs false
set_option linter.unusedVariables false
namespace Go.Proofs.YtciciemaldbidaaGreatDoor
open Go Go.Ve
set_option maxRecDepth 20000
def wbI (n : Int) : Bool := Bool.or (decide (n = 32)) (decide (n = 9))
def gWhR (args : List AV) : Option (Bool × AV) := match args with | [.int .u8 n] => some (true, .bool (wbI n)) | _ => none
noncomputable def TO1 : List (Nat × SpecE) := [(47, flatE gWhR)]
noncomputable def VO1 : VE := ⟨Tryz.prog, tabS TO1 noS, noO, fun _ => none⟩
noncomputable def VWr : VE := ⟨Tryz.prog, noS, noO, fun _ => none⟩
def pW (s : List UInt8) (i : Nat) : Bool := Bool.and (!decide (i = 0)) (wbI (byteAt s (i - 1)))
noncomputable def aO1 (s : List UInt8) : Anns := [(3, [.mk (Nat × List UInt8) (fun x => [(4, .int .i64 x.1), (3, .str x.2)]) (fun _ => none) (fun x => x.1 ≤ s.length ∧ x.2.length ≤ x.1 ∧ x.2 ++ colA (pW s x.1) (s.drop x.1) = colT s) (fun x => s.length - x.1) none none (fun _ => []) (fun _ => [])])]
noncomputable def aJn (l r : LL) (e : Nat) (ro : Bool) : Anns := [(3, [.mk Nat (fun i => [(4, .int .i64 i), (3, .str (joinF (l.take i) [44, 32]))]) (fun _ => some [.cells (ts (l ++ r)) e ro]) (fun i => i ≤ l.length) (fun i => l.length - i) gcB gcB (fun i => [(19, .str (l.getD i []))]) (fun _ => [])])]
noncomputable def eJnR : SpecE := fun args H =>
  match args with
  | [.nilsl] => some (.ok (.str []) none)
  | [.sl b 0 n _ _] => match H[b]? with
    | some (.cells vs _ _) => some (.needP (vs = ts (getS vs) ∧ n ≤ (getS vs).length ∧ n ≤ 1099511627776 ∧ (∀ i, i ≤ n → (joinF ((getS vs).take i) [44, 32]).length ≤ 140737488355328)) (.ok (.str (joinF ((getS vs).take n) [44, 32])) none))
    | _ => none
  | _ => none
noncomputable def VVr : VE := ⟨Tryz.prog, tabS [(29, eAll), (30, flatE (g1 le40 fun s => .str (endsT s))), (31, eJnR)] noS, noO, fun _ => none⟩
noncomputable def aVr (ps : LL) : Anns := [(5, [.mk Nat (fun i => [(6, .int .i64 i)]) (fun i => some [keepB, keepB, keepB, .cells (ts (endL ps i)) eT false]) (fun i => i ≤ ps.length) (fun i => ps.length - i) gcB gcB (fun i => [(24, .str (ps.getD i []))]) (fun _ => [])])]

noncomputable def vWhR  (n : Int) : Prop := vcF VWr [] 300 [] [] 47 [.int .u8 n] [] (Go.Ve.one (.bool (wbI n)))
noncomputable def vO1  (s : List UInt8) : Prop := vcF VO1 [] 300 (aO1 s) [] 30 [.str s] [] (Go.Ve.one (.str (colT s)))
noncomputable def vJnN  : Prop := vcF VWr [] 300 [] [] 31 [.nilsl] [] (Go.Ve.one (.str []))
noncomputable def vJn  (l r : LL) (e : Nat) (ro : Bool) (c : Nat) (ex : Bool) : Prop := vcF VWr [] 300 (aJn l r e ro) [] 31 [.sl 0 0 l.length c ex] [.cells (ts (l ++ r)) e ro] [⟨Unit, fun _ => .str (joinF l [44, 32]), fun _ => [.cells (ts (l ++ r)) e ro], fun _ => True, gcB⟩]
noncomputable def vVrN  (nm : List UInt8) : Prop := vcF VVr [] 300 [] [] 10 [.nilsl, .str nm] [] (Go.Ve.one (.str [45]))
noncomputable def vVrZ  (nm : List UInt8) : Prop := vcF VVr [] 300 [] [] 10 [.slz, .str nm] [] (Go.Ve.one (.str [45]))
noncomputable def vVr  (l r : FL) (nm : List UInt8) (e : Nat) (ro : Bool) (c : Nat) (ex : Bool) (fT aT : List AV) : Prop := vcF VVr [] 300 (aVr (allF l nm)) [] 10 [.sl 2 0 l.length c ex, .str nm] [gFst fT, gAcc aT, .cells (fieldC (l ++ r)) e ro] [⟨Unit, fun _ => .str (valT l nm), fun _ => [gFst fT, gAcc aT, .cells (fieldC (l ++ r)) e ro], fun _ => True, gcB⟩]
def gqRVal0 : Nat → Nat := (fun (b : Nat) => [0].getD b 1)
def gqRVal1 : Nat → Nat := (fun (b : Nat) => [0, 1, 2].getD b 4)
def gqRVal2 : Nat → Nat := (fun (b : Nat) => [0, 1, 2, 3].getD b 4)
theorem vWhR_eq  (n : Int) : vWhR n = (bif eqI n (32 : Int) then ∃ (_x : Unit), True ∧ True ∧ true = wbI n ∧ True else ∃ (_x : Unit), True ∧ True ∧ eqI n (9 : Int) = wbI n ∧ True) := by kernel_rfl
theorem vO1_eq  (s : List UInt8) : vO1 s = ((∃ (x : Nat × List UInt8), (x.fst ≤ s.length ∧ x.snd.length ≤ x.fst ∧ x.snd ++ colA (pW s x.fst) (List.drop x.fst s) = colT s) ∧ True ∧ (0 : Int) = ic x.fst ∧ ([] : List UInt8) = x.snd ∧ True) ∧ ∀ (x : Nat × List UInt8), x.fst ≤ s.length ∧ x.snd.length ≤ x.fst ∧ x.snd ++ colA (pW s x.fst) (List.drop x.fst s) = colT s → bif ltI (ic x.fst) (ic s.length) then bif ltI (ic x.fst) (ic s.length) then bif !wbI (byteAt s x.fst) then bif leI (ic x.fst + (1 : Int)) (9223372036854775807 : Int) then bif leI (ic x.fst + (1 : Int)) (ic s.length) then bif leI (ic x.fst) (ic (ic x.fst + (1 : Int)).toNat) then bif decide (x.snd.length + (List.take ((ic x.fst + (1 : Int)).toNat - x.fst) (List.drop x.fst s)).length ≤ 9223372036854775807) then bif leI (ic x.fst + (1 : Int)) (9223372036854775807 : Int) then ∃ (y : Nat × List UInt8), (y.fst ≤ s.length ∧ y.snd.length ≤ y.fst ∧ y.snd ++ colA (pW s y.fst) (List.drop y.fst s) = colT s) ∧ s.length - y.fst < s.length - x.fst ∧ True ∧ ic x.fst + (1 : Int) = ic y.fst ∧ x.snd ++ List.take ((ic x.fst + (1 : Int)).toNat - x.fst) (List.drop x.fst s) = y.snd ∧ True else False else False else False else False else False else bif eqI (ic x.fst) (0 : Int) then bif decide (x.snd.length + 1 ≤ 9223372036854775807) then bif leI (ic x.fst + (1 : Int)) (9223372036854775807 : Int) then ∃ (y : Nat × List UInt8), (y.fst ≤ s.length ∧ y.snd.length ≤ y.fst ∧ y.snd ++ colA (pW s y.fst) (List.drop y.fst s) = colT s) ∧ s.length - y.fst < s.length - x.fst ∧ True ∧ ic x.fst + (1 : Int) = ic y.fst ∧ x.snd ++ [(32 : UInt8)] = y.snd ∧ True else False else False else bif leI (-9223372036854775808 : Int) (ic x.fst - (1 : Int)) && leI (ic x.fst - (1 : Int)) (9223372036854775807 : Int) then bif leI (0 : Int) (ic x.fst - (1 : Int)) && ltI (ic x.fst - (1 : Int)) (ic s.length) then bif !wbI (byteAt s (ic x.fst - (1 : Int)).toNat) then bif decide (x.snd.length + 1 ≤ 9223372036854775807) then bif leI (ic x.fst + (1 : Int)) (9223372036854775807 : Int) then ∃ (y : Nat × List UInt8), (y.fst ≤ s.length ∧ y.snd.length ≤ y.fst ∧ y.snd ++ colA (pW s y.fst) (List.drop y.fst s) = colT s) ∧ s.length - y.fst < s.length - x.fst ∧ True ∧ ic x.fst + (1 : Int) = ic y.fst ∧ x.snd ++ [(32 : UInt8)] = y.snd ∧ True else False else False else bif leI (ic x.fst + (1 : Int)) (9223372036854775807 : Int) then ∃ (y : Nat × List UInt8), (y.fst ≤ s.length ∧ y.snd.length ≤ y.fst ∧ y.snd ++ colA (pW s y.fst) (List.drop y.fst s) = colT s) ∧ s.length - y.fst < s.length - x.fst ∧ True ∧ ic x.fst + (1 : Int) = ic y.fst ∧ x.snd = y.snd ∧ True else False else False else False else False else ∃ (_x : Unit), True ∧ True ∧ x.snd = colT s ∧ True) := by kernel_rfl
theorem vJnN_eq  : vJnN  = (∃ (_x : Unit), True ∧ True ∧ ([] : List UInt8) = [] ∧ True) := by kernel_rfl
theorem vJn_eq  (l r : LL) (e : Nat) (ro : Bool) (c : Nat) (ex : Bool) : vJn l r e ro c ex = ((∃ (x : Nat), x ≤ List.length l ∧ ((bif e.beq e && sameB ro ro then cellsP gqRVal0 (ts (l ++ r)) (ts (l ++ r)) ∧ True else False) ∧ True) ∧ (0 : Int) = ic x ∧ ([] : List UInt8) = joinF (List.take x l) [(44 : UInt8), (32 : UInt8)] ∧ True) ∧ ∀ (x : Nat), x ≤ List.length l → bif ltI (ic x) (ic (List.length l)) then bif ltI (0 : Int) (ic x) then bif decide ((joinF (List.take x l) [(44 : UInt8), (32 : UInt8)]).length + 2 ≤ 9223372036854775807) then bif ltI (ic x) (ic (List.length l)) then (ts (l ++ r))[0 + x * 1]? = some (AV.str (List.getD l x [])) ∧ bif decide ((joinF (List.take x l) [(44 : UInt8), (32 : UInt8)] ++ [(44 : UInt8), (32 : UInt8)]).length + (List.getD l x []).length ≤ 9223372036854775807) then bif leI (ic x + (1 : Int)) (9223372036854775807 : Int) then ∃ (y : Nat), y ≤ List.length l ∧ List.length l - y < List.length l - x ∧ ((bif e.beq e && sameB ro ro then cellsP gqRVal0 (ts (l ++ r)) (ts (l ++ r)) ∧ True else False) ∧ True) ∧ ic x + (1 : Int) = ic y ∧ joinF (List.take x l) [(44 : UInt8), (32 : UInt8)] ++ [(44 : UInt8), (32 : UInt8)] ++ List.getD l x [] = joinF (List.take y l) [(44 : UInt8), (32 : UInt8)] ∧ True else False else False else False else False else bif ltI (ic x) (ic (List.length l)) then (ts (l ++ r))[0 + x * 1]? = some (AV.str (List.getD l x [])) ∧ bif decide ((joinF (List.take x l) [(44 : UInt8), (32 : UInt8)]).length + (List.getD l x []).length ≤ 9223372036854775807) then bif leI (ic x + (1 : Int)) (9223372036854775807 : Int) then ∃ (y : Nat), y ≤ List.length l ∧ List.length l - y < List.length l - x ∧ ((bif e.beq e && sameB ro ro then cellsP gqRVal0 (ts (l ++ r)) (ts (l ++ r)) ∧ True else False) ∧ True) ∧ ic x + (1 : Int) = ic y ∧ joinF (List.take x l) [(44 : UInt8), (32 : UInt8)] ++ List.getD l x [] = joinF (List.take y l) [(44 : UInt8), (32 : UInt8)] ∧ True else False else False else False else ∃ (_x : Unit), True ∧ ((bif e.beq e && sameB ro ro then cellsP gqRVal0 (ts (l ++ r)) (ts (l ++ r)) ∧ True else False) ∧ True) ∧ joinF (List.take x l) [(44 : UInt8), (32 : UInt8)] = joinF l [(44 : UInt8), (32 : UInt8)] ∧ True) := by kernel_rfl
theorem vVrN_eq  (nm : List UInt8) : vVrN nm = (∃ (_x : Unit), True ∧ True ∧ [(45 : UInt8)] = [(45 : UInt8)] ∧ True) := by kernel_rfl
theorem vVrZ_eq  (nm : List UInt8) : vVrZ nm = (∃ (_x : Unit), True ∧ True ∧ [(45 : UInt8)] = [(45 : UInt8)] ∧ True) := by kernel_rfl
theorem vVr_eq  (l r : FL) (nm : List UInt8) (e : Nat) (ro : Bool) (c : Nat) (ex : Bool) (fT aT : List AV) : vVr l r nm e ro c ex fT aT = ((fldOk (fieldC (l ++ r)) (List.length l) ∧ le40 nm = true) ∧ bif decide (allF (fldT (fieldC (l ++ r)) (List.length l)) nm = []) then ∃ (_x : Unit), True ∧ ((2 = 2 ∧ cellsP (fun (b : Nat) => [0, 1, 2].getD b 3) fT fT) ∧ (3 = 3 ∧ cellsP (fun (b : Nat) => [0, 1, 2].getD b 3) aT aT) ∧ (bif e.beq e && sameB ro ro then cellsP (fun (b : Nat) => [0, 1, 2].getD b 3) (fieldC (l ++ r)) (fieldC (l ++ r)) ∧ True else False) ∧ True) ∧ [(45 : UInt8)] = valT l nm ∧ True else bif eqI (ic (List.length (allF (fldT (fieldC (l ++ r)) (List.length l)) nm))) (0 : Int) then ∃ (_x : Unit), True ∧ ((2 = 2 ∧ cellsP gqRVal1 fT fT) ∧ (3 = 3 ∧ cellsP gqRVal1 aT aT) ∧ (bif e.beq e && sameB ro ro then cellsP gqRVal1 (fieldC (l ++ r)) (fieldC (l ++ r)) ∧ True else False) ∧ True) ∧ [(45 : UInt8)] = valT l nm ∧ True else (∃ (x : Nat), x ≤ List.length (allF l nm) ∧ ((2 = 2 ∧ cellsP gqRVal2 fT fT) ∧ (3 = 3 ∧ cellsP gqRVal2 aT aT) ∧ (bif e.beq e && sameB ro ro then cellsP gqRVal2 (fieldC (l ++ r)) (fieldC (l ++ r)) ∧ True else False) ∧ (cellsP gqRVal2 (ts (endL (allF l nm) x)) (ts (allF (fldT (fieldC (l ++ r)) (List.length l)) nm)) ∧ True) ∧ True) ∧ (0 : Int) = ic x ∧ True) ∧ ∀ (x : Nat), x ≤ List.length (allF l nm) → bif ltI (ic x) (ic (List.length (allF (fldT (fieldC (l ++ r)) (List.length l)) nm))) then bif ltI (ic x) (ic (List.length (allF (fldT (fieldC (l ++ r)) (List.length l)) nm))) then (ts (endL (allF l nm) x))[0 + x * 1]? = some (AV.str (List.getD (allF l nm) x [])) ∧ bif le40 (List.getD (allF l nm) x []) then bif ltI (ic x) (ic (List.length (allF (fldT (fieldC (l ++ r)) (List.length l)) nm))) then bif decide (0 + x * 1 + 1 ≤ (ts (endL (allF l nm) x)).length) then bif leI (ic x + (1 : Int)) (9223372036854775807 : Int) then ∃ (y : Nat), y ≤ List.length (allF l nm) ∧ List.length (allF l nm) - y < List.length (allF l nm) - x ∧ ((2 = 2 ∧ cellsP gqRVal2 fT fT) ∧ (3 = 3 ∧ cellsP gqRVal2 aT aT) ∧ (bif e.beq e && sameB ro ro then cellsP gqRVal2 (fieldC (l ++ r)) (fieldC (l ++ r)) ∧ True else False) ∧ (cellsP gqRVal2 (ts (endL (allF l nm) y)) (setManyF (ts (endL (allF l nm) x)) (0 + x * 1) [AV.str (endsT (List.getD (allF l nm) x []))]) ∧ True) ∧ True) ∧ ic x + (1 : Int) = ic y ∧ True else False else False else False else False else False else (ts (endL (allF l nm) x) = ts (getS (ts (endL (allF l nm) x))) ∧ List.length (allF (fldT (fieldC (l ++ r)) (List.length l)) nm) ≤ List.length (getS (ts (endL (allF l nm) x))) ∧ List.length (allF (fldT (fieldC (l ++ r)) (List.length l)) nm) ≤ 1099511627776 ∧ ∀ (i : Nat), i ≤ List.length (allF (fldT (fieldC (l ++ r)) (List.length l)) nm) → (joinF (List.take i (getS (ts (endL (allF l nm) x)))) [(44 : UInt8), (32 : UInt8)]).length ≤ 140737488355328) ∧ bif decide (1 + (joinF (List.take (List.length (allF (fldT (fieldC (l ++ r)) (List.length l)) nm)) (getS (ts (endL (allF l nm) x)))) [(44 : UInt8), (32 : UInt8)]).length ≤ 9223372036854775807) then ∃ (_x : Unit), True ∧ ((2 = 2 ∧ cellsP gqRVal1 fT fT) ∧ (3 = 3 ∧ cellsP gqRVal1 aT aT) ∧ (bif e.beq e && sameB ro ro then cellsP gqRVal1 (fieldC (l ++ r)) (fieldC (l ++ r)) ∧ True else False) ∧ True) ∧ [(43 : UInt8)] ++ joinF (List.take (List.length (allF (fldT (fieldC (l ++ r)) (List.length l)) nm)) (getS (ts (endL (allF l nm) x)))) [(44 : UInt8), (32 : UInt8)] = valT l nm ∧ True else False) := by kernel_rfl
theorem whR_vc (n : Int) : vWhR n := by
  rw [vWhR_eq]; unfold wbI; rw [eqI_eq, eqI_eq]
  by_cases h1 : n = 32 <;> by_cases h2 : n = 9 <;> simp [h1, h2]
theorem wbI_cast (c : UInt8) : wbI (c.toNat : Int) = wbB c := by
  unfold wbI wbB
  by_cases h1 : c.toNat = 32
  · rw [h1]; rfl
  · by_cases h2 : c.toNat = 9
    · rw [h2]; rfl
    · rw [decide_eq_false (by omega), decide_eq_false (by omega), decide_eq_false (by omega)]; rfl
theorem wbI_at {s : List UInt8} {i : Nat} (h : i < s.length) : wbI (byteAt s i) = wbB s[i] := by rw [byteAt_get _ _ h, wbI_cast]
theorem pW_succ {s : List UInt8} {i : Nat} (h : i < s.length) : pW s (i + 1) = wbB s[i] := by
  unfold pW
  rw [Nat.add_sub_cancel, wbI_at h, decide_eq_false (by omega)]; simp
theorem o1_vc (s : List UInt8) (hs : s.length ≤ 1099511627776) : vO1 s := by
  rw [vO1_eq]
  simp only [ic, cond_F]
  simp only [cond_P, leI_t, leI_f, ltI_t, ltI_f, eqI_t, eqI_f, and_t, not_t, not_f, dec_t, dec_f, Nat.zero_add, Nat.mul_one, List.drop_zero]
  simp only [cells_tsr, cells_fld, take_ts, ts_length, and_true, true_and, and_false, false_and, or_false, false_or, exists_false, Nat.le_refl, exists_const, false_implies, not_false_eq_true, true_implies, fldT_at, fldOk_at, getS_ts]
  refine ⟨⟨(0, []), ⟨Nat.zero_le _, Nat.zero_le _, rfl⟩, rfl, rfl⟩, ?_⟩
  rintro ⟨i, out⟩ ⟨h1, h2, h3⟩
  dsimp only at h1 h2 h3 ⊢
  refine ⟨fun hlt => ?_, fun hge => ?_⟩
  · have hi : i < s.length := by omega
    have hd : s.drop i = s[i] :: s.drop (i + 1) := List.drop_eq_getElem_cons hi
    have hb := wbI_at hi
    have hp := pW_succ hi
    have e1 : ((i : Int) + 1).toNat = i + 1 := by omega
    have e2 : (s.drop i).take (i + 1 - i) = [s[i]] := by rw [hd, show i + 1 - i = 1 by omega]; rfl
    rw [hd] at h3
    simp only [e1, e2, List.length_cons, List.length_nil]
    refine ⟨hlt, fun hw => ?_, fun hw => ?_⟩
    · rw [hb] at hw
      rw [colA, if_neg (by rw [hw]; decide)] at h3
      refine ⟨by omega, by omega, by omega, by omega, by omega, (i + 1, out ++ [s[i]]), ⟨by dsimp only; omega, by simp; omega, ?_⟩, by dsimp only; omega, by dsimp only; omega, rfl⟩
      dsimp only
      rw [hp, hw, ← h3]; simp
    · rw [hb] at hw
      rw [colA, if_pos hw] at h3
      have keep : ∀ (o : List UInt8), o ++ colA true (s.drop (i + 1)) = colT s → o ++ colA (pW s (i + 1)) (s.drop (i + 1)) = colT s := fun o h => by rw [hp, hw]; exact h
      refine ⟨fun h0 => ?_, fun h0 => ⟨by omega, ⟨by omega, by omega⟩, fun hw2 => ?_, fun hw2 => ?_⟩⟩
      · have hp0 : pW s i = false := by unfold pW; rw [decide_eq_true (by omega)]; rfl
        rw [hp0, if_neg (by decide)] at h3
        exact ⟨by omega, by omega, (i + 1, out ++ [32]), ⟨by dsimp only; omega, by simp; omega, keep _ (by dsimp only; rw [← h3]; simp)⟩, by dsimp only; omega, by dsimp only; omega, rfl⟩
      · have hp0 : pW s i = false := by
          unfold pW
          rw [show ((i : Int) - 1).toNat = i - 1 by omega] at hw2
          rw [hw2]; simp
        rw [hp0, if_neg (by decide)] at h3
        exact ⟨by omega, by omega, (i + 1, out ++ [32]), ⟨by dsimp only; omega, by simp; omega, keep _ (by dsimp only; rw [← h3]; simp)⟩, by dsimp only; omega, by dsimp only; omega, rfl⟩
      · have hp0 : pW s i = true := by
          unfold pW
          rw [show ((i : Int) - 1).toNat = i - 1 by omega] at hw2
          rw [hw2, decide_eq_false (by omega)]; rfl
        rw [hp0, if_pos rfl] at h3
        exact ⟨by omega, (i + 1, out), ⟨by dsimp only; omega, by dsimp only; omega, keep _ h3⟩, by dsimp only; omega, by dsimp only; omega, rfl⟩
  · have : s.drop i = [] := List.drop_eq_nil_iff.2 (by omega)
    rw [this, colA, List.append_nil] at h3
    exact h3
theorem jnN_vc : vJnN := by rw [vJnN_eq]; simp
theorem jn_one {l : LL} (h : 0 < l.length) : joinF (l.take 1) [44, 32] = l.getD 0 [] := by
  cases l with
  | nil => simp at h
  | cons a r => exact Lib.join_one _ _
theorem jn_step {l : LL} {x : Nat} (hx : x < l.length) (h0 : 0 < x) : joinF (l.take (x + 1)) [44, 32] = joinF (l.take x) [44, 32] ++ [44, 32] ++ l.getD x [] := by
  cases l with
  | nil => simp at hx
  | cons a r =>
    obtain ⟨y, rfl⟩ : ∃ y, x = y + 1 := ⟨x - 1, by omega⟩
    have hy : y < r.length := by simpa using hx
    unfold joinF
    rw [List.take_succ_cons, List.take_succ_cons, Lib.join_cons, Lib.join_cons]
    unfold Lib.joinTail
    rw [List.take_succ_eq_append_getElem hy, List.map_append, List.flatten_append]
    simp [List.getD_eq_getElem?_getD, List.getElem?_eq_getElem hy]
theorem jn_vc (l r : LL) (e : Nat) (ro : Bool) (c : Nat) (ex : Bool) (hl : l.length ≤ 1099511627776) (hj : ∀ i, i ≤ l.length → (joinF (l.take i) [44, 32]).length ≤ 140737488355328) : vJn l r e ro c ex := by
  rw [vJn_eq]
  simp only [ic, cond_F, sameB_self, Nat.beq_refl]
  simp only [cond_P, leI_t, leI_f, ltI_t, ltI_f, eqI_t, eqI_f, and_t, not_t, not_f, dec_t, dec_f, Nat.zero_add, Nat.mul_one, List.drop_zero]
  simp only [cells_tsr, cells_fld, take_ts, ts_length, and_true, true_and, and_false, false_and, or_false, false_or, exists_false, Nat.le_refl, exists_const, false_implies, not_false_eq_true, true_implies, fldT_at, fldOk_at, getS_ts]
  refine ⟨⟨0, Nat.zero_le _, rfl, rfl⟩, fun x hx => ⟨fun hlt => ⟨fun h0 => ?_, fun h0 => ?_⟩, fun hge => ?_⟩⟩
  · have hx' : x < l.length := by omega
    have h1 := jn_step hx' (by omega)
    have h2 := hj x (by omega)
    have h3 := hj (x + 1) (by omega)
    rw [h1] at h3
    simp only [List.length_append, List.length_cons, List.length_nil] at h3
    refine ⟨by omega, hlt, getL hx', ?_, by omega, x + 1, by omega, by omega, by omega, h1.symm⟩
    simp only [List.length_append, List.length_cons, List.length_nil]; omega
  · have hx' : x < l.length := by omega
    obtain rfl : x = 0 := by omega
    have h1 := jn_one hx'
    have h3 := hj 1 (by omega)
    rw [h1] at h3
    refine ⟨hlt, getL hx', ?_, by omega, 1, by omega, by omega, by omega, h1.symm⟩
    show 0 + _ ≤ _
    omega
  · have e : l.take x = l := List.take_of_length_le (by omega)
    rw [e]
theorem gWhR_ok : EntryOk Tryz.prog 47 (flatE gWhR) := by
  refine flatE_ok fun args b v hg hb => ?_
  unfold gWhR at hg
  split at hg
  · cases hg
    exact ⟨rfl, rfl, SC.one (V := VWr) names0 mixed0 noS_ok noO_ok (whR_vc _)⟩
  · cases hg
theorem TO1_ok : SpecOk Tryz.prog (tabS TO1 noS) := by
  refine tabS_ok (fun p hp => ?_) noS_ok
  simp only [TO1, List.mem_cons, List.mem_nil_iff, or_false] at hp
  subst hp
  exact gWhR_ok
theorem eO1_ok : EntryOk Tryz.prog 30 (flatE (g1 le40 fun s => .str (endsT s))) :=
  g1_ok (fun _ => rfl) fun s hs => by
    have := SC.one (V := VO1) names0 mixed0 TO1_ok noO_ok (o1_vc s (of_decide_eq_true hs))
    rw [← ends_col] at this
    exact this
theorem eJnR_ok : EntryOk Tryz.prog 31 eJnR := by
  intro args H sr hs K hk
  unfold eJnR at hs
  split at hs
  · cases hs
    refine (SC.flat (K := fun v' H' => v' = .str [] ∧ H' = H) (SC.one (V := VWr) names0 mixed0 noS_ok noO_ok jnN_vc) rfl ?_).mono ?_
    · rintro v0 T ⟨rfl, rfl⟩; exact ⟨(fun k hk => by cases hk), rfl, by simp⟩
    · rintro v H' ⟨rfl, rfl⟩; exact ⟨none, hk, rfl⟩
  · rename_i b n c ex
    split at hs
    · rename_i vs e ro hb
      cases hs
      obtain ⟨⟨g1, g2, g3, g4⟩, h2⟩ := hk
      have hl : n = ((getS vs).take n).length := by rw [List.length_take]; omega
      have h1 : vs = ts ((getS vs).take n ++ (getS vs).drop n) := by rw [List.take_append_drop]; exact g1
      have g5 : ∀ i, i ≤ ((getS vs).take n).length → (joinF (((getS vs).take n).take i) [44, 32]).length ≤ 140737488355328 := fun i hi => by
        rw [List.take_take, show min i n = i by omega]
        exact g4 i (by omega)
      generalize (getS vs).drop n = r at *
      generalize (getS vs).take n = l at *
      subst h1
      subst hl
      have hsc := out1 (SC.ofF (V := VWr) names0 mixed0 noS_ok noO_ok (jn_vc l r e ro c ex g3 g5))
      refine SC.reads1 (b := b) (H := H) hsc (cells_ren (ts_flat _) e ro) (by simp) hb ?_
      rintro v0 H0' ⟨rfl, rfl⟩
      exact ⟨[], rfl, (fun t ht => by cases ht), none, h2, by simp [chN]⟩
    · cases hs
  · cases hs
theorem vrN_vc (nm : List UInt8) : vVrN nm := by
  rw [vVrN_eq]; simp
theorem vrZ_vc (nm : List UInt8) : vVrZ nm := by
  rw [vVrZ_eq]; simp
theorem VVr_ok : SpecOk Tryz.prog (tabS [(29, eAll), (30, flatE (g1 le40 fun s => .str (endsT s))), (31, eJnR)] noS) := by
  refine tabS_ok (fun p hp => ?_) noS_ok
  simp only [List.mem_cons, List.mem_nil_iff, or_false] at hp
  rcases hp with rfl | rfl | rfl
  · exact eAllR_ok
  · exact eO1_ok
  · exact eJnR_ok
theorem totF_take (ls : LL) (i : Nat) : totF (ls.take i) ≤ totF ls := by
  induction ls generalizing i with
  | nil => simp
  | cons a r ih =>
    cases i with
    | zero => exact Nat.zero_le _
    | succ i =>
      have := ih i
      simp only [totF, List.take_succ_cons, List.map_cons, List.sum_cons] at this ⊢
      omega
theorem vr_vc (l r : FL) (nm : List UInt8) (e : Nat) (ro : Bool) (c : Nat) (ex : Bool) (fT aT : List AV) (hl : totL l ≤ 274877906944) (hn : le40 nm = true) (hT : utf8T fT aT) : vVr l r nm e ro c ex fT aT := by
  have hf : ∀ σ, cellsP σ fT fT = True := fun σ => eq_true (cells_refl (by rw [hT.1]; exact flats_ints _ _))
  have ha : ∀ σ, cellsP σ aT aT = True := fun σ => eq_true (cells_refl (by rw [hT.2]; exact flats_pairs _ _ _))
  rw [vVr_eq]
  simp only [ic, cond_F, sameB_self, Nat.beq_refl]
  simp only [cond_P, leI_t, leI_f, ltI_t, ltI_f, eqI_t, eqI_f, and_t, not_t, not_f, dec_t, dec_f, Nat.zero_add, Nat.mul_one, List.drop_zero]
  simp only [cells_tsr, cells_fld, take_ts, ts_length, and_true, true_and, and_false, false_and, or_false, false_or, exists_false, Nat.le_refl, exists_const, false_implies, not_false_eq_true, true_implies, fldT_at, fldOk_at, getS_ts]
  simp only [hf, ha, hT, hl, hn, and_true, true_and]
  have h1 := totF_all l nm
  have h2 := len_tot (allF l nm)
  have h3 := tot_ends (allF l nm)
  have h4 := joinF_len ((allF l nm).map endsT) [44, 32]
  have hle : ∀ x, x < (allF l nm).length → le40 ((allF l nm).getD x []) = true := fun x hx => all_le hl nm hx
  have hv : allF l nm ≠ [] → valT l nm = [43] ++ joinF ((allF l nm).map endsT) [44, 32] := fun h => if_neg h
  have hv0 : allF l nm = [] → valT l nm = [45] := fun h => if_pos h
  generalize allF l nm = ps at *
  simp only [List.length_cons, List.length_nil] at h4
  refine ⟨fun h => (hv0 h).symm, fun h => ⟨fun h0 => absurd (List.length_eq_zero_iff.1 (by omega)) h, fun h0 => ⟨⟨0, Nat.zero_le _, ?_, rfl⟩, fun x hx => ⟨fun hlt => ?_, fun hge => ?_⟩⟩⟩⟩
  · rw [show endL ps 0 = ps from by simp [endL], cells_tsr]; trivial
  · have hx' : x < ps.length := by omega
    refine ⟨hlt, endL_get hx', hle x hx', hlt, by rw [endL_len hx]; omega, by omega, x + 1, by omega, by omega, ?_, rfl⟩
    rw [endL_step hx', cells_tsr]; trivial
  · obtain rfl : x = ps.length := by omega
    have e : endL ps ps.length = ps.map endsT := by simp [endL]
    have e2 : (ps.map endsT).take ps.length = ps.map endsT := List.take_of_length_le (by simp)
    rw [e, e2]
    refine ⟨⟨by simp, by omega, fun i _ => ?_⟩, by omega, (hv h).symm⟩
    have h5 := joinF_len ((ps.map endsT).take i) [44, 32]
    have h6 := totF_take (ps.map endsT) i
    simp only [List.length_cons, List.length_nil] at h5
    omega
theorem eValR_ok : EntryOk Tryz.prog 10 eVal := by
  intro args H sr hs K hk
  unfold eVal at hs
  split at hs
  · rename_i nm
    cases hs
    refine (SC.flat (K := fun v' H' => v' = .str [45] ∧ H' = H) (SC.one (V := VVr) names0 mixed0 VVr_ok noO_ok (vrN_vc nm)) rfl ?_).mono ?_
    · rintro v0 T ⟨rfl, rfl⟩; exact ⟨(fun k hk => by cases hk), rfl, by simp⟩
    · rintro v H' ⟨rfl, rfl⟩; exact ⟨none, hk, rfl⟩
  · rename_i nm
    cases hs
    refine (SC.flat (K := fun v' H' => v' = .str [45] ∧ H' = H) (SC.one (V := VVr) names0 mixed0 VVr_ok noO_ok (vrZ_vc nm)) rfl ?_).mono ?_
    · rintro v0 T ⟨rfl, rfl⟩; exact ⟨(fun k hk => by cases hk), rfl, by simp⟩
    · rintro v H' ⟨rfl, rfl⟩; exact ⟨none, hk, rfl⟩
  · rename_i b n c ex nm
    split at hs
    · rename_i f a vs e ro h0 h1 hb
      cases hs
      obtain ⟨⟨hT, g1, g2⟩, h2⟩ := hk
      obtain ⟨r, e1, hl, h3⟩ := fldOk_ex g1
      generalize fldT vs n = l at *
      subst e1
      subst hl
      have hsc := out1 (SC.ofF (V := VVr) names0 mixed0 VVr_ok noO_ok (vr_vc l r nm e ro c ex f a h3 g2 hT))
      have hb0 : b ≠ 0 := fun e => by subst e; rw [h0] at hb; cases hb
      have hb1 : b ≠ 1 := fun e => by subst e; rw [h1] at hb; cases hb
      have := SC.reads (K := fun v' H' => v' = .str (valT l nm) ∧ H' = H) (σ := [0, 1, b]) hsc (fun k hk => by
        simp only [List.mem_cons, List.mem_nil_iff, or_false] at hk
        rcases hk with rfl | rfl | rfl
        · refine ⟨by simp [gFst], fun ρ => ?_⟩
          show ABlk.glob _ (AV.rens ρ f) = _
          rw [AV.rens_flat (by rw [hT.1]; exact flats_ints _ _)]; rfl
        · refine ⟨by simp [gAcc], fun ρ => ?_⟩
          show ABlk.glob _ (AV.rens ρ a) = _
          rw [AV.rens_flat (by rw [hT.2]; exact flats_pairs _ _ _)]; rfl
        · exact ⟨by simp, cells_ren (fieldC_flat _) e ro⟩) (by simp; omega) rfl (fun i b' h => by
        match i with
        | 0 => simp at h; subst h; rw [h0]; rfl
        | 1 => simp at h; subst h; rw [h1]; rfl
        | 2 => simp at h; subst h; rw [hb]; rfl
        | i + 3 => simp at h) (by
        rintro v0 H0' ⟨rfl, rfl⟩
        exact ⟨[], by simp, (fun t ht => by cases ht), rfl, by simp⟩)
      refine SC.mono this ?_
      rintro v H' ⟨rfl, rfl⟩
      exact ⟨none, h2, rfl⟩
    · cases hs
  · cases hs
end Go.Proofs.YtciciemaldbidaaGreatDoor

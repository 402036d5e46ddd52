/- Light fields and texts, as the law VaryCalls asks them. -/
import Derived.Test.YtciciemaldbidaaGreatDoorRef
set_option linter.unusedSimpArgs false
set_option linter.unusedVariables false
namespace Go.Proofs.YtciciemaldbidaaGreatDoor
open Go Go.Ve
set_option maxRecDepth 20000
def sumT (l : LL) : Nat := (l.map List.length).sum
def litT (l : LL) : Bool := decide (l.length ≤ 20 ∧ sumT l ≤ 300)
noncomputable def aLitT (l r : LL) (e : Nat) (ro : Bool) : Anns := [(5, [.mk Nat (fun i => [(8, .int .i64 i), (7, .int .i64 (sumT (l.take i)))]) (fun _ => some [.cells (ts (l ++ r)) e ro]) (fun i => i ≤ l.length ∧ sumT (l.take i) ≤ 300) (fun i => l.length - i) gcB gcB (fun i => [(23, .str (l.getD i []))]) (fun _ => [])])]
def light20 (l : FL) : Bool := decide (l.length ≤ 20 ∧ sumL l ≤ 600)
noncomputable def eLit20 : SpecE := fun args H =>
  match args with
  | [.nilsl] => some (.ok (.bool true) none)
  | [.slz] => some (.ok (.bool true) none)
  | [.sl b 0 n _ _] => match H[b]? with
    | some (.cells vs _ _) => some (.needP (vs = fieldC (getF vs) ∧ n ≤ (getF vs).length ∧ ∀ f ∈ fldT vs n, f.1.length ≤ 281474976710656 ∧ f.2.length ≤ 281474976710656) (.ok (.bool (light20 (fldT vs n))) none))
    | _ => none
  | _ => none
noncomputable def eLitK : SpecE := fun args H =>
  match args with
  | [.nilsl, .int .i64 20, .int .i64 600] => some (.ok (.bool true) none)
  | [.slz, .int .i64 20, .int .i64 600] => some (.ok (.bool true) none)
  | [.sl b 0 n _ _, .int .i64 20, .int .i64 600] => match H[b]? with
    | some (.cells vs _ _) => some (.needP (vs = fieldC (getF vs) ∧ n ≤ (getF vs).length ∧ ∀ f ∈ fldT vs n, f.1.length ≤ 281474976710656 ∧ f.2.length ≤ 281474976710656) (.ok (.bool (light20 (fldT vs n))) none))
    | _ => none
  | _ => none
noncomputable def VLt : VE := ⟨Tryz.prog, tabS [(19, eLitK)] noS, noO, fun _ => none⟩

noncomputable def vLtTN  : Prop := vcF VR1 [] 300 [] [] 6 [.nilsl, .int .i64 20, .int .i64 300] [] (Go.Ve.one (.bool true))
noncomputable def vLtTZ  : Prop := vcF VR1 [] 300 [] [] 6 [.slz, .int .i64 20, .int .i64 300] [] (Go.Ve.one (.bool true))
noncomputable def vLtT  (l r : LL) (e : Nat) (ro : Bool) (c : Nat) (ex : Bool) : Prop := vcF VR1 [] 300 (aLitT l r e ro) [] 6 [.sl 0 0 l.length c ex, .int .i64 20, .int .i64 300] [.cells (ts (l ++ r)) e ro] [⟨Unit, fun _ => .bool (litT l), fun _ => [.cells (ts (l ++ r)) e ro], fun _ => True, gcB⟩]
noncomputable def vLk  (l r : FL) (e : Nat) (ro : Bool) (c : Nat) (ex : Bool) : Prop := vcF VR1 [(7, .quiet)] 300 (aLit l r e ro) [] 19 [.sl 0 0 l.length c ex, .int .i64 20, .int .i64 600] [.cells (fieldC (l ++ r)) e ro] (outF l r e ro (.bool (light20 l)))
noncomputable def vLkN  : Prop := vcF VR1 [(7, .quiet)] 300 [] [] 19 [.nilsl, .int .i64 20, .int .i64 600] [] (Go.Ve.one (.bool true))
noncomputable def vLkZ  : Prop := vcF VR1 [(7, .quiet)] 300 [] [] 19 [.slz, .int .i64 20, .int .i64 600] [] (Go.Ve.one (.bool true))
noncomputable def vLt  (l r : FL) (e : Nat) (ro : Bool) (c : Nat) (ex : Bool) : Prop := vcF VLt [] 300 [] [] 5 [.sl 0 0 l.length c ex] [.cells (fieldC (l ++ r)) e ro] (outF l r e ro (.bool (light20 l)))
noncomputable def vLtN  : Prop := vcF VLt [] 300 [] [] 5 [.nilsl] [] (Go.Ve.one (.bool true))
noncomputable def vLtZ  : Prop := vcF VLt [] 300 [] [] 5 [.slz] [] (Go.Ve.one (.bool true))
def gqLtC0 : Nat → Nat := (fun (b : Nat) => [0].getD b 1)
theorem vLtTN_eq  : vLtTN  = (∃ (_x : Unit), True ∧ True ∧ true = true ∧ True) := by kernel_rfl
theorem vLtTZ_eq  : vLtTZ  = (∃ (_x : Unit), True ∧ True ∧ true = true ∧ True) := by kernel_rfl
theorem vLtT_eq  (l r : LL) (e : Nat) (ro : Bool) (c : Nat) (ex : Bool) : vLtT l r e ro c ex = (bif ltI (20 : Int) (ic (List.length l)) then ∃ (_x : Unit), True ∧ ((bif e.beq e && sameB ro ro then cellsP gqLtC0 (ts (l ++ r)) (ts (l ++ r)) ∧ True else False) ∧ True) ∧ false = litT l ∧ True else (∃ (x : Nat), (x ≤ List.length l ∧ sumT (List.take x l) ≤ 300) ∧ ((bif e.beq e && sameB ro ro then cellsP gqLtC0 (ts (l ++ r)) (ts (l ++ r)) ∧ True else False) ∧ True) ∧ (0 : Int) = ic x ∧ (0 : Int) = ic (sumT (List.take x l)) ∧ True) ∧ ∀ (x : Nat), x ≤ List.length l ∧ sumT (List.take x l) ≤ 300 → bif ltI (ic x) (ic (List.length l)) then bif ltI (ic x) (ic (List.length l)) then (ts (l ++ r))[0 + x * 1]? = some (AV.str (List.getD l x [])) ∧ bif leI (ic (sumT (List.take x l)) + ic (List.getD l x []).length) (9223372036854775807 : Int) then bif ltI (300 : Int) (ic (sumT (List.take x l)) + ic (List.getD l x []).length) then ∃ (_x : Unit), True ∧ ((bif e.beq e && sameB ro ro then cellsP gqLtC0 (ts (l ++ r)) (ts (l ++ r)) ∧ True else False) ∧ True) ∧ false = litT l ∧ True else bif leI (ic x + (1 : Int)) (9223372036854775807 : Int) then ∃ (y : Nat), (y ≤ List.length l ∧ sumT (List.take y l) ≤ 300) ∧ List.length l - y < List.length l - x ∧ ((bif e.beq e && sameB ro ro then cellsP gqLtC0 (ts (l ++ r)) (ts (l ++ r)) ∧ True else False) ∧ True) ∧ ic x + (1 : Int) = ic y ∧ ic (sumT (List.take x l)) + ic (List.getD l x []).length = ic (sumT (List.take y l)) ∧ True else False else False else False else ∃ (_x : Unit), True ∧ ((bif e.beq e && sameB ro ro then cellsP gqLtC0 (ts (l ++ r)) (ts (l ++ r)) ∧ True else False) ∧ True) ∧ true = litT l ∧ True) := by kernel_rfl
theorem vLk_eq  (l r : FL) (e : Nat) (ro : Bool) (c : Nat) (ex : Bool) : vLk l r e ro c ex = (bif ltI (20 : Int) (ic (List.length l)) then ∃ (_x : Unit), True ∧ ((bif e.beq e && sameB ro ro then cellsP gqLtC0 (fieldC (l ++ r)) (fieldC (l ++ r)) ∧ True else False) ∧ True) ∧ false = light20 l ∧ True else (∃ (x : Nat), (x ≤ List.length l ∧ sumL (List.take x l) ≤ 600) ∧ ((bif e.beq e && sameB ro ro then cellsP gqLtC0 (fieldC (l ++ r)) (fieldC (l ++ r)) ∧ True else False) ∧ True) ∧ (0 : Int) = ic x ∧ (0 : Int) = ic (sumL (List.take x l)) ∧ True) ∧ ∀ (x : Nat), x ≤ List.length l ∧ sumL (List.take x l) ≤ 600 → bif ltI (ic x) (ic (List.length l)) then bif ltI (ic x) (ic (List.length l)) then (fieldC (l ++ r))[0 + x * 2 + 0]? = some (AV.str (fld l x).fst) ∧ bif leI (ic (sumL (List.take x l)) + ic (fld l x).fst.length) (9223372036854775807 : Int) then bif ltI (ic x) (ic (List.length l)) then (fieldC (l ++ r))[0 + x * 2 + 1]? = some (AV.str (fld l x).snd) ∧ bif leI (ic (sumL (List.take x l)) + ic (fld l x).fst.length + ic (fld l x).snd.length) (9223372036854775807 : Int) then bif ltI (600 : Int) (ic (sumL (List.take x l)) + ic (fld l x).fst.length + ic (fld l x).snd.length) then ∃ (_x : Unit), True ∧ ((bif e.beq e && sameB ro ro then cellsP gqLtC0 (fieldC (l ++ r)) (fieldC (l ++ r)) ∧ True else False) ∧ True) ∧ false = light20 l ∧ True else bif leI (ic x + (1 : Int)) (9223372036854775807 : Int) then ∃ (y : Nat), (y ≤ List.length l ∧ sumL (List.take y l) ≤ 600) ∧ List.length l - y < List.length l - x ∧ ((bif e.beq e && sameB ro ro then cellsP gqLtC0 (fieldC (l ++ r)) (fieldC (l ++ r)) ∧ True else False) ∧ True) ∧ ic x + (1 : Int) = ic y ∧ ic (sumL (List.take x l)) + ic (fld l x).fst.length + ic (fld l x).snd.length = ic (sumL (List.take y l)) ∧ True else False else False else False else False else False else ∃ (_x : Unit), True ∧ ((bif e.beq e && sameB ro ro then cellsP gqLtC0 (fieldC (l ++ r)) (fieldC (l ++ r)) ∧ True else False) ∧ True) ∧ true = light20 l ∧ True) := by kernel_rfl
theorem vLkN_eq  : vLkN  = (∃ (_x : Unit), True ∧ True ∧ true = true ∧ True) := by kernel_rfl
theorem vLkZ_eq  : vLkZ  = (∃ (_x : Unit), True ∧ True ∧ true = true ∧ True) := by kernel_rfl
theorem vLt_eq  (l r : FL) (e : Nat) (ro : Bool) (c : Nat) (ex : Bool) : vLt l r e ro c ex = ((fieldC (l ++ r) = fieldC (getF (fieldC (l ++ r))) ∧ List.length l ≤ List.length (getF (fieldC (l ++ r))) ∧ ∀ (f : List UInt8 × List UInt8), List.Mem f (fldT (fieldC (l ++ r)) (List.length l)) → f.fst.length ≤ 281474976710656 ∧ f.snd.length ≤ 281474976710656) ∧ ∃ (_x : Unit), True ∧ ((bif e.beq e && sameB ro ro then cellsP gqLtC0 (fieldC (l ++ r)) (fieldC (l ++ r)) ∧ True else False) ∧ True) ∧ light20 (fldT (fieldC (l ++ r)) (List.length l)) = light20 l ∧ True) := by kernel_rfl
theorem vLtN_eq  : vLtN  = (∃ (_x : Unit), True ∧ True ∧ true = true ∧ True) := by kernel_rfl
theorem vLtZ_eq  : vLtZ  = (∃ (_x : Unit), True ∧ True ∧ true = true ∧ True) := by kernel_rfl
structure Holds2 (p : Prop) : Prop where
  h : p
theorem SC.ofH2 {V : VE} (hP : V.P.funcs.all (fun fn => !(fn.name == "runtime.NumGoroutine")) = true) (hm : V.P.follows .mixedOrders = true) (hS : SpecOk V.P V.sp) (hO : CallOk V.P V.orc) {md : List (Nat × DMode)} {k : Nat} {A : Anns} {hs : List (Nat × AV)} {f : FuncId} {args : List AV} {H : AH} {L : List Out} (h : Holds2 (vcF V md k A hs f args H L)) : SC V.P f args H (outE L) := SC.ofF hP hm hS hO h.h
theorem oneH {f : FuncId} {args : List AV} {v : AV} (h : SC Tryz.prog f args [] (outE (Go.Ve.one v))) : SC Tryz.prog f args [] (fun v' H' => v' = v ∧ H' = []) :=
  h.mono fun v' H' h => by
    obtain ⟨_, _, h1, h2⟩ := outE_one h
    exact ⟨h1, h2⟩
theorem sumT_app (a b : LL) : sumT (a ++ b) = sumT a + sumT b := by simp [sumT]
theorem sumT_step {l : LL} {x : Nat} (hx : x < l.length) : sumT (l.take (x + 1)) = sumT (l.take x) + (l.getD x []).length := by
  rw [List.take_succ_eq_append_getElem hx, sumT_app]
  simp [sumT, List.getD_eq_getElem?_getD, List.getElem?_eq_getElem hx]
theorem sumT_take (l : LL) (x : Nat) : sumT (l.take x) ≤ sumT l := by
  have := sumT_app (l.take x) (l.drop x)
  rw [List.take_append_drop] at this
  omega
theorem ts_get2 {l r : LL} {x : Nat} (hx : x < l.length) : (ts (l ++ r))[x]? = some (AV.str (List.getD l x [])) := by
  rw [ts_get (by rw [List.length_append]; omega), List.getD_eq_getElem?_getD, List.getD_eq_getElem?_getD, List.getElem?_append_left hx]
theorem ltTN_vc : Holds2 vLtTN := ⟨by rw [vLtTN_eq]; simp⟩
theorem ltTZ_vc : Holds2 vLtTZ := ⟨by rw [vLtTZ_eq]; simp⟩
theorem ltT_vc (l r : LL) (e : Nat) (ro : Bool) (c : Nat) (ex : Bool) (hl : ∀ s ∈ l, s.length ≤ 281474976710656) : vLtT l r e ro c ex := by
  rw [vLtT_eq]
  simp only [ic, cond_F, sameB_self, Nat.beq_refl]
  simp only [cond_P, leI_t, leI_f, ltI_t, ltI_f, eqI_t, eqI_f, and_t, not_t, not_f, dec_t, dec_f, Nat.zero_add, Nat.mul_one, List.drop_zero]
  simp only [cells_tsr, cells_fld, take_ts, ts_length, and_true, true_and, and_false, false_and, or_false, false_or, exists_false, Nat.le_refl, exists_const, Nat.succ_ne_self, Nat.not_succ_le_self, false_implies, not_false_eq_true, true_implies, fldT_at, fldOk_at, getS_ts]
  refine ⟨fun h => (decide_eq_false (by omega)).symm, fun h => ⟨⟨0, ⟨Nat.zero_le _, Nat.zero_le _⟩, rfl, rfl⟩, fun x hx => ⟨fun hlt => ?_, fun hge => ?_⟩⟩⟩
  · have hx' : x < l.length := by omega
    have h2 := hl _ (getD_mem hx')
    have h3 := sumT_step hx'
    have h4 := sumT_take l (x + 1)
    refine ⟨hlt, ts_get2 hx', by omega, fun hb => (decide_eq_false (by omega)).symm, fun hb => ⟨by omega, x + 1, ⟨by omega, by omega⟩, by omega, by omega, by omega⟩⟩
  · have e : l.take x = l := List.take_of_length_le (by omega)
    rw [e] at hx
    exact (decide_eq_true (by omega)).symm
noncomputable def eLtT : SpecE := fun args H =>
  match args with
  | [.nilsl, .int .i64 20, .int .i64 300] => some (.ok (.bool true) none)
  | [.slz, .int .i64 20, .int .i64 300] => some (.ok (.bool true) none)
  | [.sl b 0 n _ _, .int .i64 20, .int .i64 300] => match H[b]? with
    | some (.cells vs _ _) => some (.needP (vs = ts (getS vs) ∧ n ≤ (getS vs).length ∧ ∀ s ∈ (getS vs).take n, s.length ≤ 281474976710656) (.ok (.bool (litT ((getS vs).take n))) none))
    | _ => none
  | _ => none
theorem eLtT_ok : EntryOk Tryz.prog 6 eLtT := by
  intro args H sr hs K hk
  unfold eLtT at hs
  split at hs
  · cases hs
    refine (SC.flat (K := fun v' H' => v' = .bool true ∧ H' = H) (oneH (SC.ofH2 (V := VR1) names0 mixed0 TR1_ok noO_ok ltTN_vc)) rfl ?_).mono ?_
    · rintro v0 T ⟨rfl, rfl⟩; exact ⟨(fun k hk => by cases hk), rfl, by simp⟩
    · rintro v H' ⟨rfl, rfl⟩; exact ⟨none, hk, rfl⟩
  · cases hs
    refine (SC.flat (K := fun v' H' => v' = .bool true ∧ H' = H) (oneH (SC.ofH2 (V := VR1) names0 mixed0 TR1_ok noO_ok ltTZ_vc)) rfl ?_).mono ?_
    · rintro v0 T ⟨rfl, rfl⟩; exact ⟨(fun k hk => by cases hk), rfl, by simp⟩
    · rintro v H' ⟨rfl, rfl⟩; exact ⟨none, hk, rfl⟩
  · rename_i b n c ex
    split at hs
    · rename_i vs e ro hb
      cases hs
      obtain ⟨⟨g1, g2, g3⟩, h2⟩ := hk
      have hl : n = ((getS vs).take n).length := by rw [List.length_take]; omega
      have h1 : vs = ts ((getS vs).take n ++ (getS vs).drop n) := by rw [List.take_append_drop]; exact g1
      generalize (getS vs).drop n = r at *
      generalize (getS vs).take n = l at *
      subst h1
      subst hl
      have hsc := out1 (SC.ofF (V := VR1) names0 mixed0 TR1_ok noO_ok (ltT_vc l r e ro c ex g3))
      refine SC.reads1 (b := b) (H := H) hsc (cells_ren (ts_flat _) e ro) (by simp) hb ?_
      rintro v0 H0' ⟨rfl, rfl⟩
      exact ⟨[], rfl, (fun t ht => by cases ht), none, h2, by simp [chN]⟩
    · cases hs
  · cases hs
theorem lk_vc (l r : FL) (e : Nat) (ro : Bool) (c : Nat) (ex : Bool) (hl : ∀ f ∈ l, f.1.length ≤ 281474976710656 ∧ f.2.length ≤ 281474976710656) : vLk l r e ro c ex := by
  rw [vLk_eq]
  simp only [ic, cond_F, sameB_self, Nat.beq_refl]
  simp only [cond_P, leI_t, leI_f, ltI_t, ltI_f, eqI_t, eqI_f, and_t, not_t, not_f, dec_t, dec_f, Nat.zero_add, Nat.mul_one, List.drop_zero]
  simp only [cells_tsr, cells_fld, take_ts, ts_length, and_true, true_and, and_false, false_and, or_false, false_or, exists_false, Nat.le_refl, exists_const, Nat.succ_ne_self, Nat.not_succ_le_self, false_implies, not_false_eq_true, true_implies, fldT_at, fldOk_at, getS_ts]
  refine ⟨fun h => (decide_eq_false (by omega)).symm, fun h => ⟨⟨0, ⟨Nat.zero_le _, Nat.zero_le _⟩, rfl, rfl⟩, fun x hx => ⟨fun hlt => ?_, fun hge => ?_⟩⟩⟩
  · have hx' : x < l.length := by omega
    have h1 := fieldC_get l r x hx'
    have h2 := hl _ (fld_mem hx')
    have h3 := sumL_step hx'
    have h4 := sumL_take l (x + 1)
    refine ⟨hlt, h1.1, by omega, hlt, h1.2, by omega, fun hb => (decide_eq_false (by omega)).symm, fun hb => ⟨by omega, x + 1, ⟨by omega, by omega⟩, by omega, by omega, by omega⟩⟩
  · have e : l.take x = l := List.take_of_length_le (by omega)
    rw [e] at hx
    exact (decide_eq_true (by omega)).symm
theorem lkN_vc : Holds2 vLkN := ⟨by rw [vLkN_eq]; simp⟩
theorem lkZ_vc : Holds2 vLkZ := ⟨by rw [vLkZ_eq]; simp⟩
theorem eLitK_ok : EntryOk Tryz.prog 19 eLitK := by
  intro args H sr hs K hk
  unfold eLitK at hs
  split at hs
  · cases hs
    refine (SC.flat (K := fun v' H' => v' = .bool true ∧ H' = H) (oneH (SC.ofH2 (V := VR1) names0 mixed0 TR1_ok noO_ok lkN_vc)) rfl ?_).mono ?_
    · rintro v0 T ⟨rfl, rfl⟩; exact ⟨(fun k hk => by cases hk), rfl, by simp⟩
    · rintro v H' ⟨rfl, rfl⟩; exact ⟨none, hk, rfl⟩
  · cases hs
    refine (SC.flat (K := fun v' H' => v' = .bool true ∧ H' = H) (oneH (SC.ofH2 (V := VR1) names0 mixed0 TR1_ok noO_ok lkZ_vc)) rfl ?_).mono ?_
    · rintro v0 T ⟨rfl, rfl⟩; exact ⟨(fun k hk => by cases hk), rfl, by simp⟩
    · rintro v H' ⟨rfl, rfl⟩; exact ⟨none, hk, rfl⟩
  · rename_i b n c ex
    split at hs
    · rename_i vs e ro hb
      cases hs
      obtain ⟨⟨g1, g2, g3⟩, h2⟩ := hk
      have hl : n = (fldT vs n).length := by unfold fldT; rw [List.length_take]; omega
      have h1 : vs = fieldC (fldT vs n ++ (getF vs).drop n) := by unfold fldT; rw [List.take_append_drop]; exact g1
      generalize (getF vs).drop n = r at *
      generalize fldT vs n = l at *
      subst h1
      subst hl
      have hsc := out1 (SC.ofF (V := VR1) names0 mixed0 TR1_ok noO_ok (lk_vc l r e ro c ex g3))
      refine SC.reads1 (b := b) (H := H) hsc (cells_ren (fieldC_flat _) e ro) (by simp) hb ?_
      rintro v0 H0' ⟨rfl, rfl⟩
      exact ⟨[], rfl, (fun t ht => by cases ht), none, h2, by simp [chN]⟩
    · cases hs
  · cases hs
theorem VLt_ok : SpecOk Tryz.prog (tabS [(19, eLitK)] noS) := by
  refine tabS_ok (fun p hp => ?_) noS_ok
  simp only [List.mem_cons, List.mem_nil_iff, or_false] at hp
  subst hp
  exact eLitK_ok
theorem lt_vc (l r : FL) (e : Nat) (ro : Bool) (c : Nat) (ex : Bool) (hl : ∀ f ∈ l, f.1.length ≤ 281474976710656 ∧ f.2.length ≤ 281474976710656) : vLt l r e ro c ex := by
  rw [vLt_eq]
  simp only [ic, cond_F, sameB_self, Nat.beq_refl]
  simp only [cond_P, leI_t, leI_f, ltI_t, ltI_f, eqI_t, eqI_f, and_t, not_t, not_f, dec_t, dec_f, Nat.zero_add, Nat.mul_one, List.drop_zero]
  simp only [cells_tsr, cells_fld, take_ts, ts_length, and_true, true_and, and_false, false_and, or_false, false_or, exists_false, Nat.le_refl, exists_const, Nat.succ_ne_self, Nat.not_succ_le_self, false_implies, not_false_eq_true, true_implies, fldT_at, fldOk_at, getS_ts]
  exact ⟨by rw [getF_fieldC], by rw [getF_fieldC, List.length_append]; omega, hl⟩
theorem ltN_vc : Holds2 vLtN := ⟨by rw [vLtN_eq]; simp⟩
theorem ltZ_vc : Holds2 vLtZ := ⟨by rw [vLtZ_eq]; simp⟩
theorem eLit20_ok : EntryOk Tryz.prog 5 eLit20 := by
  intro args H sr hs K hk
  unfold eLit20 at hs
  split at hs
  · cases hs
    refine (SC.flat (K := fun v' H' => v' = .bool true ∧ H' = H) (oneH (SC.ofH2 (V := VLt) names0 mixed0 VLt_ok noO_ok ltN_vc)) rfl ?_).mono ?_
    · rintro v0 T ⟨rfl, rfl⟩; exact ⟨(fun k hk => by cases hk), rfl, by simp⟩
    · rintro v H' ⟨rfl, rfl⟩; exact ⟨none, hk, rfl⟩
  · cases hs
    refine (SC.flat (K := fun v' H' => v' = .bool true ∧ H' = H) (oneH (SC.ofH2 (V := VLt) names0 mixed0 VLt_ok noO_ok ltZ_vc)) rfl ?_).mono ?_
    · rintro v0 T ⟨rfl, rfl⟩; exact ⟨(fun k hk => by cases hk), rfl, by simp⟩
    · rintro v H' ⟨rfl, rfl⟩; exact ⟨none, hk, rfl⟩
  · rename_i b n c ex
    split at hs
    · rename_i vs e ro hb
      cases hs
      obtain ⟨⟨g1, g2, g3⟩, h2⟩ := hk
      have hl : n = (fldT vs n).length := by unfold fldT; rw [List.length_take]; omega
      have h1 : vs = fieldC (fldT vs n ++ (getF vs).drop n) := by unfold fldT; rw [List.take_append_drop]; exact g1
      generalize (getF vs).drop n = r at *
      generalize fldT vs n = l at *
      subst h1
      subst hl
      have hsc := out1 (SC.ofF (V := VLt) names0 mixed0 VLt_ok noO_ok (lt_vc l r e ro c ex g3))
      refine SC.reads1 (b := b) (H := H) hsc (cells_ren (fieldC_flat _) e ro) (by simp) hb ?_
      rintro v0 H0' ⟨rfl, rfl⟩
      exact ⟨[], rfl, (fun t ht => by cases ht), none, h2, by simp [chN]⟩
    · cases hs
  · cases hs
end Go.Proofs.YtciciemaldbidaaGreatDoor

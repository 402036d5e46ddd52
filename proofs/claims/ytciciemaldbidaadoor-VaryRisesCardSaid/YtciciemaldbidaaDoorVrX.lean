/- The law VaryRises: light fields, the chapter's example, and the cases joined. -/
import Derived.Test.YtciciemaldbidaaDoorVrW
import Derived.Test.YtciciemaldbidaaDoorRef2
set_option linter.unusedSimpArgs false
set_option linter.unusedVariables false
namespace Go.Proofs.YtciciemaldbidaaDoor
open Go Go.Ve
set_option maxRecDepth 20000
noncomputable def eLitK : SpecE := fun args H =>
  match args with
  | [.nilsl, .int .i64 20, .int .i64 600] => some (.ok (.bool true) none)
  | [.slz, .int .i64 20, .int .i64 600] => some (.ok (.bool true) none)
  | [.sl b 0 n _ _, .int .i64 20, .int .i64 600] => match H[b]? with
    | some (.cells vs _ _) => some (.needP (vs = fieldC (getF vs) ∧ n ≤ (getF vs).length ∧ ∀ f ∈ fldT vs n, f.1.length ≤ 281474976710656 ∧ f.2.length ≤ 281474976710656) (.ok (.bool (light20 (fldT vs n))) none))
    | _ => none
  | _ => none
noncomputable def VLt : VE := ⟨Tryd.prog, tabS [(35, eLitK)] noS, noO, fun _ => none⟩
noncomputable def eNmL : SpecE := fun args H =>
  match args with
  | [.sl b 0 n _ _] => match H[b]? with
    | some (.cells vs _ _) => some (.needP (fldOk vs n ∧ listF (fldT vs n) varyN = [[66], [97], [98]]) (.ok (.tuple [.sl H.length 0 2 3 false, .bool false]) (some (H ++ [.cells [.str [97], .str [98], .str []] eT false]))))
    | _ => none
  | _ => none
noncomputable def faL12 (f : FuncId) : Option FA := match Nat.beq f 25 with
  | true => some ⟨[(6, .quiet)], [], []⟩
  | false => match Nat.beq f 24 with | true => some ⟨[], [], []⟩ | false => none
noncomputable def VL12 : VE := ⟨Tryd.prog, tabS [(21, eNmL)] noS, noO, faL12⟩

noncomputable def vLk  (l r : FL) (e : Nat) (ro : Bool) (c : Nat) (ex : Bool) : Prop := vcF VR1 [(7, .quiet)] 300 (aLit l r e ro) [] 35 [.sl 0 0 l.length c ex, .int .i64 20, .int .i64 600] [.cells (fieldC (l ++ r)) e ro] (outF l r e ro (.bool (light20 l)))
noncomputable def vLkN  : Prop := vcF VR1 [(7, .quiet)] 300 [] [] 35 [.nilsl, .int .i64 20, .int .i64 600] [] (Go.Ve.one (.bool true))
noncomputable def vLkZ  : Prop := vcF VR1 [(7, .quiet)] 300 [] [] 35 [.slz, .int .i64 20, .int .i64 600] [] (Go.Ve.one (.bool true))
noncomputable def vLt  (l r : FL) (e : Nat) (ro : Bool) (c : Nat) (ex : Bool) : Prop := vcF VLt [] 300 [] [] 20 [.sl 0 0 l.length c ex] [.cells (fieldC (l ++ r)) e ro] (outF l r e ro (.bool (light20 l)))
noncomputable def vLtN  : Prop := vcF VLt [] 300 [] [] 20 [.nilsl] [] (Go.Ve.one (.bool true))
noncomputable def vLtZ  : Prop := vcF VLt [] 300 [] [] 20 [.slz] [] (Go.Ve.one (.bool true))
noncomputable def vL12  : Prop := vcF VL12 [] 300 [] [] 19 [] [] (Go.Ve.one (.bool true))
noncomputable def vRiN  : Prop := vcF (VRi 1 []) [(16, .quiet), (22, .quiet)] 300 [] [] 4 [.nilsl] [] (Go.Ve.one (.bool true))
noncomputable def vRiZ  : Prop := vcF (VRi 1 []) [(16, .quiet), (22, .quiet)] 300 [] [] 4 [.slz] [] (Go.Ve.one (.bool true))
def gqVrX0 : Nat → Nat := (fun (b : Nat) => [(0 : Nat)].getD b (1 : Nat))
theorem vLk_eq  (l r : FL) (e : Nat) (ro : Bool) (c : Nat) (ex : Bool) : vLk l r e ro c ex = (bif ltI (20 : Int) (ic (List.length l)) then ∃ (_x : Unit), True ∧ ((bif e.beq e && sameB ro ro then cellsP gqVrX0 (fieldC (l ++ r)) (fieldC (l ++ r)) ∧ True else False) ∧ True) ∧ false = light20 l ∧ True else (∃ (x : Nat), (x ≤ List.length l ∧ sumL (List.take x l) ≤ (600 : Nat)) ∧ ((bif e.beq e && sameB ro ro then cellsP gqVrX0 (fieldC (l ++ r)) (fieldC (l ++ r)) ∧ True else False) ∧ True) ∧ (0 : Int) = ic x ∧ (0 : Int) = ic (sumL (List.take x l)) ∧ True) ∧ ∀ (x : Nat), x ≤ List.length l ∧ sumL (List.take x l) ≤ (600 : Nat) → bif ltI (ic x) (ic (List.length l)) then bif ltI (ic x) (ic (List.length l)) then (fieldC (l ++ r))[(0 : Nat) + x * (2 : Nat) + (0 : Nat)]? = some (AV.str (fld l x).fst) ∧ bif leI (ic (sumL (List.take x l)) + ic (fld l x).fst.length) (9223372036854775807 : Int) then bif ltI (ic x) (ic (List.length l)) then (fieldC (l ++ r))[(0 : Nat) + x * (2 : Nat) + (1 : Nat)]? = some (AV.str (fld l x).snd) ∧ bif leI (ic (sumL (List.take x l)) + ic (fld l x).fst.length + ic (fld l x).snd.length) (9223372036854775807 : Int) then bif ltI (600 : Int) (ic (sumL (List.take x l)) + ic (fld l x).fst.length + ic (fld l x).snd.length) then ∃ (_x : Unit), True ∧ ((bif e.beq e && sameB ro ro then cellsP gqVrX0 (fieldC (l ++ r)) (fieldC (l ++ r)) ∧ True else False) ∧ True) ∧ false = light20 l ∧ True else bif leI (ic x + (1 : Int)) (9223372036854775807 : Int) then ∃ (y : Nat), (y ≤ List.length l ∧ sumL (List.take y l) ≤ (600 : Nat)) ∧ List.length l - y < List.length l - x ∧ ((bif e.beq e && sameB ro ro then cellsP gqVrX0 (fieldC (l ++ r)) (fieldC (l ++ r)) ∧ True else False) ∧ True) ∧ ic x + (1 : Int) = ic y ∧ ic (sumL (List.take x l)) + ic (fld l x).fst.length + ic (fld l x).snd.length = ic (sumL (List.take y l)) ∧ True else False else False else False else False else False else ∃ (_x : Unit), True ∧ ((bif e.beq e && sameB ro ro then cellsP gqVrX0 (fieldC (l ++ r)) (fieldC (l ++ r)) ∧ True else False) ∧ True) ∧ true = light20 l ∧ True) := by kernel_rfl
theorem vLkN_eq  : vLkN  = (∃ (_x : Unit), True ∧ True ∧ true = true ∧ True) := by kernel_rfl
theorem vLkZ_eq  : vLkZ  = (∃ (_x : Unit), True ∧ True ∧ true = true ∧ True) := by kernel_rfl
theorem vLt_eq  (l r : FL) (e : Nat) (ro : Bool) (c : Nat) (ex : Bool) : vLt l r e ro c ex = ((fieldC (l ++ r) = fieldC (getF (fieldC (l ++ r))) ∧ List.length l ≤ List.length (getF (fieldC (l ++ r))) ∧ ∀ (f : List UInt8 × List UInt8), List.Mem f (fldT (fieldC (l ++ r)) (List.length l)) → f.fst.length ≤ (281474976710656 : Nat) ∧ f.snd.length ≤ (281474976710656 : Nat)) ∧ ∃ (_x : Unit), True ∧ ((bif e.beq e && sameB ro ro then cellsP gqVrX0 (fieldC (l ++ r)) (fieldC (l ++ r)) ∧ True else False) ∧ True) ∧ light20 (fldT (fieldC (l ++ r)) (List.length l)) = light20 l ∧ True) := by kernel_rfl
theorem vLtN_eq  : vLtN  = (∃ (_x : Unit), True ∧ True ∧ true = true ∧ True) := by kernel_rfl
theorem vLtZ_eq  : vLtZ  = (∃ (_x : Unit), True ∧ True ∧ true = true ∧ True) := by kernel_rfl
theorem vL12_eq  : vL12  = ((fldOk [AV.str [(118 : UInt8), (97 : UInt8), (114 : UInt8), (121 : UInt8)], AV.str [(66 : UInt8), (44 : UInt8), (32 : UInt8), (97 : UInt8), (44 : UInt8), (32 : UInt8), (98 : UInt8)]] (1 : Nat) ∧ listF (fldT [AV.str [(118 : UInt8), (97 : UInt8), (114 : UInt8), (121 : UInt8)], AV.str [(66 : UInt8), (44 : UInt8), (32 : UInt8), (97 : UInt8), (44 : UInt8), (32 : UInt8), (98 : UInt8)]] (1 : Nat)) varyN = [[(66 : UInt8)], [(97 : UInt8)], [(98 : UInt8)]]) ∧ ∃ (_x : Unit), True ∧ True ∧ true = true ∧ True) := by kernel_rfl
theorem vRiN_eq  : vRiN  = ((fldOk [AV.str [(86 : UInt8), (97 : UInt8), (114 : UInt8), (121 : UInt8)], AV.str (([] : List UInt8) ++ [])] (1 : Nat) ∧ nmsL (listF (fldT [AV.str [(86 : UInt8), (97 : UInt8), (114 : UInt8), (121 : UInt8)], AV.str (([] : List UInt8) ++ [])] (1 : Nat)) varyN) = []) ∧ (∃ (x : Nat), x ≤ (0 : Nat) ∧ ((([(86 : UInt8), (97 : UInt8), (114 : UInt8), (121 : UInt8)] = [(86 : UInt8), (97 : UInt8), (114 : UInt8), (121 : UInt8)] ∧ ([] : List UInt8) ++ [] = [] ++ [] ∧ True) ∧ True) ∧ (([(86 : UInt8), (97 : UInt8), (114 : UInt8), (121 : UInt8)] = [(86 : UInt8), (97 : UInt8), (114 : UInt8), (121 : UInt8)] ∧ ([] : List UInt8) ++ [] = [] ++ [] ∧ True) ∧ True) ∧ True) ∧ (0 : Int) = ic x ∧ True) ∧ ∀ (x : Nat), x ≤ (0 : Nat) → ∃ (_x : Unit), True ∧ True ∧ true = true ∧ True) := by kernel_rfl
theorem vRiZ_eq  : vRiZ  = ((fldOk [AV.str [(86 : UInt8), (97 : UInt8), (114 : UInt8), (121 : UInt8)], AV.str (([] : List UInt8) ++ [])] (1 : Nat) ∧ nmsL (listF (fldT [AV.str [(86 : UInt8), (97 : UInt8), (114 : UInt8), (121 : UInt8)], AV.str (([] : List UInt8) ++ [])] (1 : Nat)) varyN) = []) ∧ (∃ (x : Nat), x ≤ (0 : Nat) ∧ ((([(86 : UInt8), (97 : UInt8), (114 : UInt8), (121 : UInt8)] = [(86 : UInt8), (97 : UInt8), (114 : UInt8), (121 : UInt8)] ∧ ([] : List UInt8) ++ [] = [] ++ [] ∧ True) ∧ True) ∧ (([(86 : UInt8), (97 : UInt8), (114 : UInt8), (121 : UInt8)] = [(86 : UInt8), (97 : UInt8), (114 : UInt8), (121 : UInt8)] ∧ ([] : List UInt8) ++ [] = [] ++ [] ∧ True) ∧ True) ∧ True) ∧ (0 : Int) = ic x ∧ True) ∧ ∀ (x : Nat), x ≤ (0 : Nat) → ∃ (_x : Unit), True ∧ True ∧ true = true ∧ True) := by kernel_rfl
structure Holds1 (p : Prop) : Prop where
  h : p
theorem SC.ofH1 {V : VE} (hP : V.P.funcs.all (fun fn => !(fn.name == "runtime.NumGoroutine")) = true) (hm : V.P.follows .mixedOrders = true) (hS : SpecOk V.P V.sp) (hO : CallOk V.P V.orc) {md : List (Nat × DMode)} {k : Nat} {A : Anns} {hs : List (Nat × AV)} {f : FuncId} {args : List AV} {H : AH} {L : List Out} (h : Holds1 (vcF V md k A hs f args H L)) : SC V.P f args H (outE L) := SC.ofF hP hm hS hO h.h
theorem one1 {f : FuncId} {args : List AV} {v : AV} (h : SC Tryd.prog f args [] (outE (Go.Ve.one v))) : SC Tryd.prog f args [] (fun v' H' => v' = v ∧ H' = []) :=
  h.mono fun v' H' h => by
    obtain ⟨_, _, h1, h2⟩ := outE_one h
    exact ⟨h1, h2⟩
theorem lk_vc (l r : FL) (e : Nat) (ro : Bool) (c : Nat) (ex : Bool) (hl : ∀ f ∈ l, f.1.length ≤ 281474976710656 ∧ f.2.length ≤ 281474976710656) : vLk l r e ro c ex := by
  rw [vLk_eq]
  simp only [ic, cond_F, sameB_self, Nat.beq_refl]
  simp only [cond_P, leI_t, leI_f, ltI_t, ltI_f, eqI_t, eqI_f, and_t, not_t, not_f, dec_t, dec_f, Nat.zero_add, Nat.mul_one, List.drop_zero]
  simp only [cells_tsr, cells_fld, take_ts, ts_length, and_true, true_and, and_false, false_and, or_false, false_or, exists_false, Nat.le_refl, exists_const, false_implies, not_false_eq_true, true_implies, fldT_at, fldOk_at, getS_ts]
  refine ⟨fun h => (decide_eq_false (by omega)).symm, fun h => ⟨⟨0, ⟨Nat.zero_le _, Nat.zero_le _⟩, rfl, rfl⟩, fun x hx => ⟨fun hlt => ?_, fun hge => ?_⟩⟩⟩
  · have hx' : x < l.length := by omega
    have h1 := fieldC_get l r x hx'
    have h2 := hl _ (fld_mem hx')
    have h3 := sumL_step hx'
    have h4 := sumL_take l (x + 1)
    refine ⟨hlt, h1.1, by omega, hlt, h1.2, by omega, fun hb => (decide_eq_false (by omega)).symm, fun hb => ⟨by omega, x + 1, ⟨by omega, by omega⟩, by omega, by omega, by omega⟩⟩
  · have e : l.take x = l := List.take_of_length_le (by omega)
    rw [e] at hx
    exact (decide_eq_true (by omega)).symm
theorem lkN_vc : Holds1 vLkN := ⟨by rw [vLkN_eq]; simp⟩
theorem lkZ_vc : Holds1 vLkZ := ⟨by rw [vLkZ_eq]; simp⟩
theorem eLitK_ok : EntryOk Tryd.prog 35 eLitK := by
  intro args H sr hs K hk
  unfold eLitK at hs
  split at hs
  · cases hs
    refine (SC.flat (K := fun v' H' => v' = .bool true ∧ H' = H) (one1 (SC.ofH1 (V := VR1) names0 mixed0 TR1_ok noO_ok lkN_vc)) rfl ?_).mono ?_
    · rintro v0 T ⟨rfl, rfl⟩; exact ⟨(fun k hk => by cases hk), rfl, by simp⟩
    · rintro v H' ⟨rfl, rfl⟩; exact ⟨none, hk, rfl⟩
  · cases hs
    refine (SC.flat (K := fun v' H' => v' = .bool true ∧ H' = H) (one1 (SC.ofH1 (V := VR1) names0 mixed0 TR1_ok noO_ok lkZ_vc)) rfl ?_).mono ?_
    · rintro v0 T ⟨rfl, rfl⟩; exact ⟨(fun k hk => by cases hk), rfl, by simp⟩
    · rintro v H' ⟨rfl, rfl⟩; exact ⟨none, hk, rfl⟩
  · rename_i b n c ex
    split at hs
    · rename_i vs e ro hb
      cases hs
      obtain ⟨⟨g1, g2, g3⟩, h2⟩ := hk
      have hl : n = (fldT vs n).length := by unfold fldT; rw [List.length_take]; omega
      have h1 : vs = fieldC (fldT vs n ++ (getF vs).drop n) := by unfold fldT; rw [List.take_append_drop]; exact g1
      generalize (getF vs).drop n = r at *
      generalize fldT vs n = l at *
      subst h1
      subst hl
      have hsc := out1 (SC.ofF (V := VR1) names0 mixed0 TR1_ok noO_ok (lk_vc l r e ro c ex g3))
      refine SC.reads1 (b := b) (H := H) hsc (cells_ren (fieldC_flat _) e ro) (by simp) hb ?_
      rintro v0 H0' ⟨rfl, rfl⟩
      exact ⟨[], rfl, (fun t ht => by cases ht), none, h2, by simp [chN]⟩
    · cases hs
  · cases hs
theorem VLt_ok : SpecOk Tryd.prog (tabS [(35, eLitK)] noS) := by
  refine tabS_ok (fun p hp => ?_) noS_ok
  simp only [List.mem_cons, List.mem_nil_iff, or_false] at hp
  subst hp
  exact eLitK_ok
theorem lt_vc (l r : FL) (e : Nat) (ro : Bool) (c : Nat) (ex : Bool) (hl : ∀ f ∈ l, f.1.length ≤ 281474976710656 ∧ f.2.length ≤ 281474976710656) : vLt l r e ro c ex := by
  rw [vLt_eq]
  simp only [ic, cond_F, sameB_self, Nat.beq_refl]
  simp only [cond_P, leI_t, leI_f, ltI_t, ltI_f, eqI_t, eqI_f, and_t, not_t, not_f, dec_t, dec_f, Nat.zero_add, Nat.mul_one, List.drop_zero]
  simp only [cells_tsr, cells_fld, take_ts, ts_length, and_true, true_and, and_false, false_and, or_false, false_or, exists_false, Nat.le_refl, exists_const, false_implies, not_false_eq_true, true_implies, fldT_at, fldOk_at, getS_ts]
  exact ⟨by rw [getF_fieldC], by rw [getF_fieldC, List.length_append]; omega, hl⟩
theorem ltN_vc : Holds1 vLtN := ⟨by rw [vLtN_eq]; simp⟩
theorem ltZ_vc : Holds1 vLtZ := ⟨by rw [vLtZ_eq]; simp⟩
theorem eLit20_ok : EntryOk Tryd.prog 20 eLit20 := by
  intro args H sr hs K hk
  unfold eLit20 at hs
  split at hs
  · cases hs
    refine (SC.flat (K := fun v' H' => v' = .bool true ∧ H' = H) (one1 (SC.ofH1 (V := VLt) names0 mixed0 VLt_ok noO_ok ltN_vc)) rfl ?_).mono ?_
    · rintro v0 T ⟨rfl, rfl⟩; exact ⟨(fun k hk => by cases hk), rfl, by simp⟩
    · rintro v H' ⟨rfl, rfl⟩; exact ⟨none, hk, rfl⟩
  · cases hs
    refine (SC.flat (K := fun v' H' => v' = .bool true ∧ H' = H) (one1 (SC.ofH1 (V := VLt) names0 mixed0 VLt_ok noO_ok ltZ_vc)) rfl ?_).mono ?_
    · rintro v0 T ⟨rfl, rfl⟩; exact ⟨(fun k hk => by cases hk), rfl, by simp⟩
    · rintro v H' ⟨rfl, rfl⟩; exact ⟨none, hk, rfl⟩
  · rename_i b n c ex
    split at hs
    · rename_i vs e ro hb
      cases hs
      obtain ⟨⟨g1, g2, g3⟩, h2⟩ := hk
      have hl : n = (fldT vs n).length := by unfold fldT; rw [List.length_take]; omega
      have h1 : vs = fieldC (fldT vs n ++ (getF vs).drop n) := by unfold fldT; rw [List.take_append_drop]; exact g1
      generalize (getF vs).drop n = r at *
      generalize fldT vs n = l at *
      subst h1
      subst hl
      have hsc := out1 (SC.ofF (V := VLt) names0 mixed0 VLt_ok noO_ok (lt_vc l r e ro c ex g3))
      refine SC.reads1 (b := b) (H := H) hsc (cells_ren (fieldC_flat _) e ro) (by simp) hb ?_
      rintro v0 H0' ⟨rfl, rfl⟩
      exact ⟨[], rfl, (fun t ht => by cases ht), none, h2, by simp [chN]⟩
    · cases hs
  · cases hs
theorem nms_ab : nmsL [[66], [97], [98]] = [[97], [98]] := by
  have hs : starN ∉ ([[66], [97], [98]] : LL) := by decide
  refine asc_unique (nms_asc _) (by decide) fun x => ?_
  rw [nms_mem hs]
  have e : lows [[66], [97], [98]] = [[98], [97], [98]] := by decide
  rw [e]
  simp only [List.mem_cons, List.mem_nil_iff, or_false]
  constructor
  · rintro (h | h | h) <;> simp [h]
  · rintro (h | h) <;> simp [h]
theorem eNmL_ok : EntryOk Tryd.prog 21 eNmL := by
  intro args H sr hs K hk
  unfold eNmL at hs
  split at hs
  · rename_i b n c ex
    split at hs
    · rename_i vs e ro hb
      cases hs
      obtain ⟨⟨g1, g2⟩, h2⟩ := hk
      refine eNames_ok _ H _ (by unfold eNames; simp only [hb]; rfl) K ?_
      have hc : nmsC [[66], [97], [98]] = [[97], [98], []] := by unfold nmsC; rw [nms_ab]; rfl
      refine ⟨g1, ?_⟩
      rw [g2]
      show cond (starB [[66], [97], [98]]) _ (cond (decide (([[66], [97], [98]] : LL) = [])) _ _)
      rw [show starB [[66], [97], [98]] = false from by decide, show decide (([[66], [97], [98]] : LL) = []) = false from by decide]
      show K (.tuple [.sl H.length 0 (nmsL [[66], [97], [98]]).length _ false, .bool false]) (some (H ++ [.cells (ts (nmsC [[66], [97], [98]])) eT false]))
      rw [nms_ab, hc]
      exact h2
    · cases hs
  · cases hs
theorem VL12_ok : SpecOk Tryd.prog (tabS [(21, eNmL)] noS) := by
  refine tabS_ok (fun p hp => ?_) noS_ok
  simp only [List.mem_cons, List.mem_nil_iff, or_false] at hp
  subst hp
  exact eNmL_ok
theorem l12_vc : Holds1 vL12 := by
  refine ⟨?_⟩
  rw [vL12_eq]
  exact ⟨⟨⟨rfl, by decide, by decide⟩, by kernel_rfl⟩, (), trivial, trivial, rfl, trivial⟩
theorem gLiv12_ok : EntryOk Tryd.prog 19 (flatE gLiv12) := by
  refine flatE_ok fun args b v hg hb => ?_
  unfold gLiv12 at hg
  split at hg
  · cases hg
    exact ⟨rfl, rfl, one1 (SC.ofH1 (V := VL12) names0 mixed0 VL12_ok noO_ok l12_vc)⟩
  · cases hg
theorem eNmC_ok (c : Nat) : EntryOk Tryd.prog 21 (eNmC c) := by
  intro args H sr hs K hk
  unfold eNmC at hs
  split at hs
  · cases hs; exact eNames_ok _ H _ rfl K hk
  · cases hs; exact eNames_ok _ H _ rfl K hk
  · rename_i b n c' ex
    split at hs
    · rename_i vs e ro hb
      have key : ∀ {g : Prop} {v : AV} {ch : Option AH}, sr = .needP g (.ok v ch) → (g → fldOk vs n) → (g → ∃ a b : Bool, starB (listF (fldT vs n) varyN) = a ∧ decide (listF (fldT vs n) varyN = []) = b ∧ SR.run noC noR H K (match a with | true => .ok (.tuple [.nilsl, .bool true]) none | false => match b with | true => .ok (.tuple [.nilsl, .bool false]) none | false => .ok (.tuple [.sl H.length 0 (nmsL (listF (fldT vs n) varyN)).length (listF (fldT vs n) varyN).length false, .bool false]) (some (H ++ [.cells (ts (nmsC (listF (fldT vs n) varyN))) eT false]))) = K v ch) → SC Tryd.prog 21 [.sl b 0 n c' ex] H fun v' H' => ∃ ch, K v' ch ∧ H' = chN H ch := by
        intro g v ch e1 e2 e3
        subst e1
        obtain ⟨hg, h2⟩ := hk
        refine eNames_ok _ H _ (by unfold eNames; simp only [hb]; rfl) K ?_
        refine ⟨e2 hg, ?_⟩
        obtain ⟨a, b, h3, h4, h5⟩ := e3 hg
        show cond (starB (listF (fldT vs n) varyN)) _ (cond (decide (listF (fldT vs n) varyN = [])) _ _)
        rw [h3, h4]
        cases a <;> cases b <;> (first | exact h5.mpr h2)
      split at hs
      · cases hs; exact key rfl (fun h => h.1) fun h => ⟨true, _, h.2, rfl, rfl⟩
      · cases hs; exact key rfl (fun h => h.1) fun h => ⟨false, true, (by rw [h.2]; rfl), decide_eq_true h.2, rfl⟩
      · cases hs; exact key rfl (fun h => h.1) fun h => ⟨false, false, h.2.1, decide_eq_false h.2.2, rfl⟩
      · cases hs; exact key rfl (fun h => h.1) fun h => ⟨false, false, (by
          by_cases hs : starN ∈ listF (fldT vs n) varyN
          · exact absurd (if_pos hs : nmsL _ = []) h.2
          · exact decide_eq_false hs), (by
          refine decide_eq_false fun he => h.2 ?_
          rw [he, nms_nil]), rfl⟩
      · cases hs
        refine key rfl (fun h => h.1) fun h => ?_
        by_cases hs : starN ∈ listF (fldT vs n) varyN
        · have e1 : starB (listF (fldT vs n) varyN) = true := decide_eq_true hs
          rw [e1]
          exact ⟨true, _, rfl, rfl, rfl⟩
        · have e1 : starB (listF (fldT vs n) varyN) = false := decide_eq_false hs
          rw [e1]
          refine ⟨false, true, rfl, decide_eq_true ?_, rfl⟩
          cases hq : listF (fldT vs n) varyN with
          | nil => rfl
          | cons p r =>
            rw [hq] at hs h
            have := (nms_mem hs (lower p)).2 (by simp [lows])
            rw [h.2] at this; cases this
    · cases hs
  · cases hs
theorem eLiC_ok (c : Nat) : EntryOk Tryd.prog 22 (eLiC c) := by
  intro args H sr hs K hk
  unfold eLiC at hs
  split at hs
  · cases hs; exact eListR_ok _ H _ rfl K hk
  · cases hs; exact eListR_ok _ H _ rfl K hk
  · rename_i b n c' ex nm
    split at hs
    · rename_i vs e ro hb
      split at hs
      · cases hs
        obtain ⟨⟨g1, g2, g3⟩, h2⟩ := hk
        refine eListR_ok _ H _ (by unfold eList; simp only [hb]; rfl) K ?_
        refine ⟨⟨g1, g2⟩, ?_⟩
        show cond (decide (listF (fldT vs n) nm = [])) _ _
        rw [decide_eq_true g3]; exact h2
      · cases hs
        obtain ⟨⟨g1, g2, g3⟩, h2⟩ := hk
        refine eListR_ok _ H _ (by unfold eList; simp only [hb]; rfl) K ?_
        refine ⟨⟨g1, g2⟩, ?_⟩
        show cond (decide (listF (fldT vs n) nm = [])) _ _
        rw [decide_eq_false g3]; exact h2
    · cases hs
  · cases hs
theorem TRi_ok (c : Nat) : SpecOk Tryd.prog (tabS (TRi c) noS) := by
  refine tabS_ok (fun p hp => ?_) noS_ok
  simp only [TRi, List.mem_cons, List.mem_nil_iff, or_false] at hp
  rcases hp with rfl | rfl | rfl | rfl | rfl
  · exact gLiv12_ok
  · exact eLit20_ok
  · exact eNmC_ok c
  · exact eLiC_ok c
  · exact g1_ok (fun _ => rfl) fun s hs => SC.one (V := V0) names0 mixed0 noS_ok noO_ok (lowR_vc s (by have := of_decide_eq_true hs; omega))
theorem riN_vc : Holds1 vRiN := by
  refine ⟨?_⟩
  rw [vRiN_eq]
  exact ⟨⟨⟨rfl, by decide, by decide⟩, by
    rw [show listF (fldT [AV.str [86, 97, 114, 121], AV.str ([] ++ [])] 1) varyN = split [] from list_v1 [], split_nil, nms_nil]⟩, ⟨0, Nat.le_refl _, ⟨⟨⟨rfl, rfl, trivial⟩, trivial⟩, ⟨⟨rfl, rfl, trivial⟩, trivial⟩, trivial⟩, rfl, trivial⟩, fun _ _ => ⟨(), trivial, trivial, rfl, trivial⟩⟩
theorem riZ_vc : Holds1 vRiZ := by
  refine ⟨?_⟩
  rw [vRiZ_eq]
  exact ⟨⟨⟨rfl, by decide, by decide⟩, by
    rw [show listF (fldT [AV.str [86, 97, 114, 121], AV.str ([] ++ [])] 1) varyN = split [] from list_v1 [], split_nil, nms_nil]⟩, ⟨0, Nat.le_refl _, ⟨⟨⟨rfl, rfl, trivial⟩, trivial⟩, ⟨⟨rfl, rfl, trivial⟩, trivial⟩, trivial⟩, rfl, trivial⟩, fun _ _ => ⟨(), trivial, trivial, rfl, trivial⟩⟩
theorem rises_N : SC Tryd.prog 4 [.nilsl] [] fun v _ => v = .bool true :=
  (SC.ofH1 (V := VRi 1 []) names0 mixed0 (TRi_ok 1) noO_ok riN_vc).mono fun v H h => by obtain ⟨_, _, h1, _⟩ := outE_one h; exact h1
theorem rises_Z : SC Tryd.prog 4 [.slz] [] fun v _ => v = .bool true :=
  (SC.ofH1 (V := VRi 1 []) names0 mixed0 (TRi_ok 1) noO_ok riZ_vc).mono fun v H h => by obtain ⟨_, _, h1, _⟩ := outE_one h; exact h1
theorem rises_A (l r : FL) (hG : ∀ f ∈ l, f.1.length ≤ 281474976710656 ∧ f.2.length ≤ 281474976710656) : SC Tryd.prog 4 [.sl 0 0 l.length (l.length + r.length) true] [.cells (fieldC (l ++ r)) 0 true] fun v _ => v = .bool true := by
  have fin : ∀ {c : Nat} {N : LL} {A : Anns}, vcF (VRi c N) [(16, .quiet), (22, .quiet)] 300 A [] 4 [.sl 0 0 l.length (l.length + r.length) true] [.cells (fieldC (l ++ r)) 0 true] (outRi l r) → SC Tryd.prog 4 [.sl 0 0 l.length (l.length + r.length) true] [.cells (fieldC (l ++ r)) 0 true] fun v _ => v = .bool true := fun {c N A} h =>
    (SC.ofF (V := VRi c N) names0 mixed0 (TRi_ok c) noO_ok h).mono fun v H h => by obtain ⟨_, _, h1, _⟩ := outE_one h; exact h1
  by_cases hn : listF l varyN = []
  · exact fin (ri1_vc l r hG hn)
  · cases hs : starB (listF l varyN) with
    | true => exact fin (ri0_vc l r hG hs)
    | false =>
      by_cases hA : agN (nmsL (listF l varyN)) = []
      · exact fin (ri2_vc l r hG hs hn fun _ => hA)
      · exact fin (ri3_vc l r hG hs hn fun _ => hA)
end Go.Proofs.YtciciemaldbidaaDoor

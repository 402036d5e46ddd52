/- What the functions of layer 23 and the document's answer for numbers, NaN and all. -/
import Derived.Test.YtainjcpocodehaaScF
set_option linter.unusedSimpArgs false
set_option linter.unusedVariables false
namespace Go.Proofs.Ytainjcpocodehaa
open Go Go.Ve
set_option maxRecDepth 20000
def rr (b : Nat) : Int := rk b - 9223372036854775808
def gRR (args : List AV) : Option (Bool × AV) := match args with | [.float .f64 b] => some (in64 b, .int .i64 (rr b)) | _ => none
noncomputable def TRR : List (Nat × SpecE) := [(59, flatE gRR)]
noncomputable def VRR : VE := ⟨Try.prog, tabS TRR noS, noO, fun _ => none⟩
def clN (x l h : Nat) : Nat := cond (ltI (rk x) (rk l)) l (cond (ltI (rk h) (rk x)) h x)
def gCl (args : List AV) : Option (Bool × AV) := match args with | [.float .f64 x, .float .f64 l, .float .f64 h] => some (in64 x && (in64 l && in64 h), .float .f64 (clN x l h)) | _ => none
noncomputable def TCl : List (Nat × SpecE) := [(14, flatE gCmpF), (24, flatE gCmpF)]
noncomputable def VCl : VE := ⟨Try.prog, tabS TCl noS, noO, fun _ => none⟩
def ldM (n : Int) : Nat := FloatKind.f64.nearest (max n 0 + 1)
noncomputable def oFad (a b p : Nat) : List Out := [⟨Unit, fun _ => .float .f64 (fadV a b p), fun _ => [], fun _ => fadB a b p = true, gcB⟩, ⟨Unit, fun _ => .nan .f64, fun _ => [], fun _ => fadB a b p = false, gcB⟩]
noncomputable def oLd (n : Int) (w : Nat) : List Out := [⟨Unit, fun _ => .float .f64 (flV .quo (ldM n) w), fun _ => [], fun _ => (flR .quo (ldM n) w).isSome = true, gcB⟩, ⟨Unit, fun _ => .nan .f64, fun _ => [], fun _ => (flR .quo (ldM n) w).isSome = false, gcB⟩]

noncomputable def vRrk  (b : Nat) : Prop := vcF V0 [] 40 [] [(6, .bad), (10, .bad), (11, .bad)] 59 [.float .f64 b] [] (Go.Ve.one (.int .i64 (rr b)))
noncomputable def vRCmp  (x y : Nat) : Prop := vcF VRR [] 40 [] [] 24 [.float .f64 x, .float .f64 y] [] (Go.Ve.one (.int .i64 (cmpv (rk x) (rk y))))
noncomputable def vRChk  (w : Nat) : Prop := vcF V0 [] 40 [] [] 25 [.float .f64 w] [] (Go.Ve.one (.int .i64 (chkV w)))
noncomputable def vCl  (x l h : Nat) : Prop := vcF VCl [] 40 [] [] 31 [.float .f64 x, .float .f64 l, .float .f64 h] [] (Go.Ve.one (.float .f64 (clN x l h)))
noncomputable def vRCl  (x l h : Nat) : Prop := vcF VCl [] 40 [] [] 32 [.float .f64 x, .float .f64 l, .float .f64 h] [] (Go.Ve.one (.float .f64 (clN x l h)))
noncomputable def vFad  (a b p : Nat) : Prop := vcF V0 [] 40 [] [] 17 [.float .f64 a, .float .f64 b, .float .f64 p] [] (oFad a b p)
noncomputable def vRFad  (a b p : Nat) : Prop := vcF V0 [] 40 [] [] 29 [.float .f64 a, .float .f64 b, .float .f64 p] [] (oFad a b p)
noncomputable def vLd  (n : Int) (w : Nat) : Prop := vcF V0 [] 40 [] [] 15 [.int .i64 n, .float .f64 w] [] (oLd n w)
noncomputable def vRLd  (n : Int) (w : Nat) : Prop := vcF V0 [] 40 [] [] 30 [.int .i64 n, .float .f64 w] [] (oLd n w)
theorem vRrk_eq  (b : Nat) : vRrk b = (bif ltI (IntKind.i64.wrap (ic b)) (0 : Int) then ∃ (_x : Unit), True ∧ True ∧ IntKind.i64.wrap (IntKind.i64.wrap ((-9223372036854775808 : Int) - IntKind.i64.wrap (ic b)) - (1 : Int)) = rr b ∧ True else ∃ (_x : Unit), True ∧ True ∧ IntKind.i64.wrap (ic b) = rr b ∧ True) := by kernel_rfl
theorem vRCmp_eq  (x y : Nat) : vRCmp x y = (bif in64 x then bif in64 y then bif ltI (rr x) (rr y) then ∃ (_x : Unit), True ∧ True ∧ (-1 : Int) = cmpv (rk x) (rk y) ∧ True else bif ltI (rr y) (rr x) then ∃ (_x : Unit), True ∧ True ∧ (1 : Int) = cmpv (rk x) (rk y) ∧ True else ∃ (_x : Unit), True ∧ True ∧ (0 : Int) = cmpv (rk x) (rk y) ∧ True else False else False) := by kernel_rfl
theorem vRChk_eq  (w : Nat) : vRChk w = (bif flC BinOp.geq w (4517110426252607488 : Nat) then bif flC BinOp.leq w (4697254411347427328 : Nat) then ∃ (_x : Unit), True ∧ True ∧ (0 : Int) = chkV w ∧ True else ∃ (_x : Unit), True ∧ True ∧ (230 : Int) = chkV w ∧ True else ∃ (_x : Unit), True ∧ True ∧ (230 : Int) = chkV w ∧ True) := by kernel_rfl
theorem vCl_eq  (x l h : Nat) : vCl x l h = (bif in64 x && in64 l then bif ltI (cmpv (rk x) (rk l)) (0 : Int) then ∃ (_x : Unit), True ∧ True ∧ AV.float FloatKind.f64 l = AV.float FloatKind.f64 (clN x l h) ∧ True else bif in64 x && in64 h then bif ltI (0 : Int) (cmpv (rk x) (rk h)) then ∃ (_x : Unit), True ∧ True ∧ AV.float FloatKind.f64 h = AV.float FloatKind.f64 (clN x l h) ∧ True else ∃ (_x : Unit), True ∧ True ∧ AV.float FloatKind.f64 x = AV.float FloatKind.f64 (clN x l h) ∧ True else False else False) := by kernel_rfl
theorem vRCl_eq  (x l h : Nat) : vRCl x l h = (bif in64 x && in64 l then bif ltI (cmpv (rk x) (rk l)) (0 : Int) then ∃ (_x : Unit), True ∧ True ∧ AV.float FloatKind.f64 l = AV.float FloatKind.f64 (clN x l h) ∧ True else bif in64 x && in64 h then bif ltI (0 : Int) (cmpv (rk x) (rk h)) then ∃ (_x : Unit), True ∧ True ∧ AV.float FloatKind.f64 h = AV.float FloatKind.f64 (clN x l h) ∧ True else ∃ (_x : Unit), True ∧ True ∧ AV.float FloatKind.f64 x = AV.float FloatKind.f64 (clN x l h) ∧ True else False else False) := by kernel_rfl
theorem vFad_eq  (a b p : Nat) : vFad a b p = (bif (flR BinOp.sub b a).isSome then bif (flR BinOp.mul p (flV BinOp.sub b a)).isSome then bif (flR BinOp.add a (flV BinOp.mul p (flV BinOp.sub b a))).isSome then (∃ (_x : Unit), fadB a b p = true ∧ True ∧ AV.float FloatKind.f64 (flV BinOp.add a (flV BinOp.mul p (flV BinOp.sub b a))) = AV.float FloatKind.f64 (fadV a b p) ∧ True) ∨ ∃ (_x : Unit), fadB a b p = false ∧ True ∧ AV.float FloatKind.f64 (flV BinOp.add a (flV BinOp.mul p (flV BinOp.sub b a))) = AV.nan FloatKind.f64 ∧ True else (∃ (_x : Unit), fadB a b p = true ∧ True ∧ AV.nan FloatKind.f64 = AV.float FloatKind.f64 (fadV a b p) ∧ True) ∨ ∃ (_x : Unit), fadB a b p = false ∧ True ∧ AV.nan FloatKind.f64 = AV.nan FloatKind.f64 ∧ True else (∃ (_x : Unit), fadB a b p = true ∧ True ∧ AV.nan FloatKind.f64 = AV.float FloatKind.f64 (fadV a b p) ∧ True) ∨ ∃ (_x : Unit), fadB a b p = false ∧ True ∧ AV.nan FloatKind.f64 = AV.nan FloatKind.f64 ∧ True else (∃ (_x : Unit), fadB a b p = true ∧ True ∧ AV.nan FloatKind.f64 = AV.float FloatKind.f64 (fadV a b p) ∧ True) ∨ ∃ (_x : Unit), fadB a b p = false ∧ True ∧ AV.nan FloatKind.f64 = AV.nan FloatKind.f64 ∧ True) := by kernel_rfl
theorem vRFad_eq  (a b p : Nat) : vRFad a b p = (bif (flR BinOp.sub b a).isSome then bif (flR BinOp.mul p (flV BinOp.sub b a)).isSome then bif (flR BinOp.add a (flV BinOp.mul p (flV BinOp.sub b a))).isSome then (∃ (_x : Unit), fadB a b p = true ∧ True ∧ AV.float FloatKind.f64 (flV BinOp.add a (flV BinOp.mul p (flV BinOp.sub b a))) = AV.float FloatKind.f64 (fadV a b p) ∧ True) ∨ ∃ (_x : Unit), fadB a b p = false ∧ True ∧ AV.float FloatKind.f64 (flV BinOp.add a (flV BinOp.mul p (flV BinOp.sub b a))) = AV.nan FloatKind.f64 ∧ True else (∃ (_x : Unit), fadB a b p = true ∧ True ∧ AV.nan FloatKind.f64 = AV.float FloatKind.f64 (fadV a b p) ∧ True) ∨ ∃ (_x : Unit), fadB a b p = false ∧ True ∧ AV.nan FloatKind.f64 = AV.nan FloatKind.f64 ∧ True else (∃ (_x : Unit), fadB a b p = true ∧ True ∧ AV.nan FloatKind.f64 = AV.float FloatKind.f64 (fadV a b p) ∧ True) ∨ ∃ (_x : Unit), fadB a b p = false ∧ True ∧ AV.nan FloatKind.f64 = AV.nan FloatKind.f64 ∧ True else (∃ (_x : Unit), fadB a b p = true ∧ True ∧ AV.nan FloatKind.f64 = AV.float FloatKind.f64 (fadV a b p) ∧ True) ∨ ∃ (_x : Unit), fadB a b p = false ∧ True ∧ AV.nan FloatKind.f64 = AV.nan FloatKind.f64 ∧ True) := by kernel_rfl
theorem vLd_eq  (n : Int) (w : Nat) : vLd n w = (bif leI (0 : Int) (max n (0 : Int)) && leI (max n (0 : Int)) (18446744073709551615 : Int) then bif leI (0 : Int) (max n (0 : Int) + (1 : Int)) && leI (max n (0 : Int) + (1 : Int)) (18446744073709551615 : Int) then bif (flR BinOp.quo (FloatKind.f64.nearest (max n (0 : Int) + (1 : Int))) w).isSome then (∃ (_x : Unit), (flR BinOp.quo (ldM n) w).isSome = true ∧ True ∧ AV.float FloatKind.f64 (flV BinOp.quo (FloatKind.f64.nearest (max n (0 : Int) + (1 : Int))) w) = AV.float FloatKind.f64 (flV BinOp.quo (ldM n) w) ∧ True) ∨ ∃ (_x : Unit), (flR BinOp.quo (ldM n) w).isSome = false ∧ True ∧ AV.float FloatKind.f64 (flV BinOp.quo (FloatKind.f64.nearest (max n (0 : Int) + (1 : Int))) w) = AV.nan FloatKind.f64 ∧ True else (∃ (_x : Unit), (flR BinOp.quo (ldM n) w).isSome = true ∧ True ∧ AV.nan FloatKind.f64 = AV.float FloatKind.f64 (flV BinOp.quo (ldM n) w) ∧ True) ∨ ∃ (_x : Unit), (flR BinOp.quo (ldM n) w).isSome = false ∧ True ∧ AV.nan FloatKind.f64 = AV.nan FloatKind.f64 ∧ True else False else False) := by kernel_rfl
theorem vRLd_eq  (n : Int) (w : Nat) : vRLd n w = (bif (flR BinOp.add (FloatKind.f64.nearest (max (0 : Int) n)) (4607182418800017408 : Nat)).isSome then bif (flR BinOp.quo (flV BinOp.add (FloatKind.f64.nearest (max (0 : Int) n)) (4607182418800017408 : Nat)) w).isSome then (∃ (_x : Unit), (flR BinOp.quo (ldM n) w).isSome = true ∧ True ∧ AV.float FloatKind.f64 (flV BinOp.quo (flV BinOp.add (FloatKind.f64.nearest (max (0 : Int) n)) (4607182418800017408 : Nat)) w) = AV.float FloatKind.f64 (flV BinOp.quo (ldM n) w) ∧ True) ∨ ∃ (_x : Unit), (flR BinOp.quo (ldM n) w).isSome = false ∧ True ∧ AV.float FloatKind.f64 (flV BinOp.quo (flV BinOp.add (FloatKind.f64.nearest (max (0 : Int) n)) (4607182418800017408 : Nat)) w) = AV.nan FloatKind.f64 ∧ True else (∃ (_x : Unit), (flR BinOp.quo (ldM n) w).isSome = true ∧ True ∧ AV.nan FloatKind.f64 = AV.float FloatKind.f64 (flV BinOp.quo (ldM n) w) ∧ True) ∨ ∃ (_x : Unit), (flR BinOp.quo (ldM n) w).isSome = false ∧ True ∧ AV.nan FloatKind.f64 = AV.nan FloatKind.f64 ∧ True else (∃ (_x : Unit), (flR BinOp.quo (ldM n) w).isSome = true ∧ True ∧ AV.nan FloatKind.f64 = AV.float FloatKind.f64 (flV BinOp.quo (ldM n) w) ∧ True) ∨ ∃ (_x : Unit), (flR BinOp.quo (ldM n) w).isSome = false ∧ True ∧ AV.nan FloatKind.f64 = AV.nan FloatKind.f64 ∧ True) := by kernel_rfl
theorem rr_lo {b : Nat} (h : b < 2 ^ 63) : rr b = (b : Int) := by unfold rr rk; rw [if_pos h]; omega
theorem rr_hi {b : Nat} (h : ¬ b < 2 ^ 63) : rr b = 9223372036854775807 - (b : Int) := by unfold rr rk; rw [if_neg h]; omega
theorem wrap_i64 {n : Int} (h0 : -9223372036854775808 ≤ n) (h1 : n ≤ 9223372036854775807) : IntKind.i64.wrap n = n := by
  unfold IntKind.wrap
  simp [IntKind.signed, IntKind.bits]
  omega
theorem rrk_vc (b : Nat) (h : b < 2 ^ 64) : vRrk b := by
  rw [vRrk_eq]
  by_cases hb : b < 2 ^ 63
  · rw [rr_lo hb]
    simp only [ic, wrap_lo hb]
    refine cond_intro (fun k => ?_) fun k => ⟨(), trivial, trivial, by first | exact trivial | rfl, trivial⟩
    rw [ltI_t] at k
    omega
  · rw [rr_hi hb]
    simp only [ic, wrap_hi (by omega) h]
    refine cond_intro (fun k => ⟨(), trivial, trivial, ?_, trivial⟩) fun k => ?_
    · have e1 : IntKind.i64.wrap (-9223372036854775808 - ((b : Int) - 2 ^ 64)) = -9223372036854775808 - ((b : Int) - 2 ^ 64) := wrap_i64 (by omega) (by omega)
      rw [e1, wrap_i64 (by omega) (by omega)]
      omega
    · rw [ltI_f] at k
      omega
theorem gRR_ok : EntryOk Try.prog 59 (flatE gRR) := by
  refine flatE_ok fun args b v hg hb => ?_
  unfold gRR at hg
  split at hg
  · cases hg
    exact ⟨rfl, rfl, oneS (SC.ofF (V := V0) names0 mixed0 noS_ok noO_ok (rrk_vc _ (in64_of hb)))⟩
  · cases hg
theorem TRR_ok : SpecOk Try.prog (tabS TRR noS) := by
  refine tabS_ok (fun p hp => ?_) noS_ok
  simp only [TRR, List.mem_cons, List.mem_nil_iff, or_false] at hp
  rcases hp with rfl
  exact gRR_ok
theorem rcmp_vc (x y : Nat) (hx : in64 x = true) (hy : in64 y = true) : vRCmp x y := by
  rw [vRCmp_eq]
  refine need_intro hx (need_intro hy (cond_intro (fun k => ⟨(), trivial, trivial, ?_, trivial⟩) fun k => cond_intro (fun k2 => ⟨(), trivial, trivial, ?_, trivial⟩) fun k2 => ⟨(), trivial, trivial, ?_, trivial⟩))
  · rw [ltI_t] at k
    unfold rr at k
    unfold cmpv
    rw [if_pos (by omega)]
  · rw [ltI_f] at k
    rw [ltI_t] at k2
    unfold rr at k k2
    unfold cmpv
    rw [if_neg (by omega), if_pos (by omega)]
  · rw [ltI_f] at k k2
    unfold rr at k k2
    unfold cmpv
    rw [if_neg (by omega), if_neg (by omega)]
theorem gRCmp_ok : EntryOk Try.prog 24 (flatE gCmpF) := by
  refine flatE_ok fun args b v hg hb => ?_
  unfold gCmpF at hg
  split at hg
  · cases hg
    have hb := Bool.and_eq_true _ _ ▸ hb
    exact ⟨rfl, rfl, oneS (SC.ofF (V := VRR) names0 mixed0 TRR_ok noO_ok (rcmp_vc _ _ hb.1 hb.2))⟩
  · cases hg
theorem rchk_vc (w : Nat) : vRChk w := by
  rw [vRChk_eq]
  refine cond_intro (fun k => cond_intro (fun k2 => ⟨(), trivial, trivial, ?_, trivial⟩) fun k2 => ⟨(), trivial, trivial, ?_, trivial⟩) fun k => ⟨(), trivial, trivial, ?_, trivial⟩
  · unfold chkV chkB; rw [k, k2]; rfl
  · unfold chkV chkB; rw [k, k2]; rfl
  · unfold chkV chkB; rw [k]; rfl
theorem gRChk_ok : EntryOk Try.prog 25 (flatE gChk) := by
  refine flatE_ok fun args b v hg hb => ?_
  unfold gChk at hg
  split at hg
  · cases hg
    exact ⟨rfl, rfl, oneS (SC.ofF (V := V0) names0 mixed0 noS_ok noO_ok (rchk_vc _))⟩
  · cases hg
theorem TCl_ok : SpecOk Try.prog (tabS TCl noS) := by
  refine tabS_ok (fun p hp => ?_) noS_ok
  simp only [TCl, List.mem_cons, List.mem_nil_iff, or_false] at hp
  rcases hp with rfl | rfl
  · exact gCmpF_ok
  · exact gRCmp_ok
theorem ltI_y {x y : Int} (h : x < y) : ltI x y = true := by rw [ltI_t]; exact h
theorem ltI_n {x y : Int} (h : y ≤ x) : ltI x y = false := by rw [ltI_f]; exact h
theorem cmp_lt {x y : Int} : ltI (cmpv x y) 0 = ltI x y := by
  unfold cmpv
  by_cases h : x < y
  · rw [if_pos h, ltI_y h]; rfl
  · rw [if_neg h, ltI_n (show y ≤ x by omega)]
    split <;> rfl
theorem cmp_gt {x y : Int} : ltI 0 (cmpv x y) = ltI y x := by
  unfold cmpv
  by_cases h : x < y
  · rw [if_pos h, ltI_n (show x ≤ y by omega)]; rfl
  · rw [if_neg h]
    by_cases h2 : y < x
    · rw [if_pos h2, ltI_y h2]; rfl
    · rw [if_neg h2, ltI_n (show x ≤ y by omega)]; rfl
theorem cl_vc (x l h : Nat) (hx : in64 x = true) (hl : in64 l = true) (hh : in64 h = true) : vCl x l h := by
  rw [vCl_eq, hx, hl, hh, cmp_lt, cmp_gt]
  refine need_intro rfl (cond_intro (fun k => ⟨(), trivial, trivial, ?_, trivial⟩) fun k => need_intro rfl (cond_intro (fun k2 => ⟨(), trivial, trivial, ?_, trivial⟩) fun k2 => ⟨(), trivial, trivial, ?_, trivial⟩))
  · unfold clN; rw [k]; rfl
  · unfold clN; rw [k, k2]; rfl
  · unfold clN; rw [k, k2]; rfl
theorem rcl_vc (x l h : Nat) (hx : in64 x = true) (hl : in64 l = true) (hh : in64 h = true) : vRCl x l h := by
  rw [vRCl_eq, hx, hl, hh, cmp_lt, cmp_gt]
  refine need_intro rfl (cond_intro (fun k => ⟨(), trivial, trivial, ?_, trivial⟩) fun k => need_intro rfl (cond_intro (fun k2 => ⟨(), trivial, trivial, ?_, trivial⟩) fun k2 => ⟨(), trivial, trivial, ?_, trivial⟩))
  · unfold clN; rw [k]; rfl
  · unfold clN; rw [k, k2]; rfl
  · unfold clN; rw [k, k2]; rfl
theorem gCl_ok : EntryOk Try.prog 31 (flatE gCl) := by
  refine flatE_ok fun args b v hg hb => ?_
  unfold gCl at hg
  split at hg
  · cases hg
    simp only [Bool.and_eq_true] at hb
    exact ⟨rfl, rfl, oneS (SC.ofF (V := VCl) names0 mixed0 TCl_ok noO_ok (cl_vc _ _ _ hb.1 hb.2.1 hb.2.2))⟩
  · cases hg
theorem gRCl_ok : EntryOk Try.prog 32 (flatE gCl) := by
  refine flatE_ok fun args b v hg hb => ?_
  unfold gCl at hg
  split at hg
  · cases hg
    simp only [Bool.and_eq_true] at hb
    exact ⟨rfl, rfl, oneS (SC.ofF (V := VCl) names0 mixed0 TCl_ok noO_ok (rcl_vc _ _ _ hb.1 hb.2.1 hb.2.2))⟩
  · cases hg
theorem fadB_1 {a b p : Nat} (h : (flR .sub b a).isSome = false) : fadB a b p = false := by unfold fadB; rw [h]; rfl
theorem fadB_2 {a b p : Nat} (h : (flR .mul p (flV .sub b a)).isSome = false) : fadB a b p = false := by unfold fadB; rw [h]; cases (flR .sub b a).isSome <;> rfl
theorem fadB_3 {a b p : Nat} (h : (flR .add a (flV .mul p (flV .sub b a))).isSome = false) : fadB a b p = false := by unfold fadB fadS; rw [h]; cases (flR .sub b a).isSome <;> cases (flR .mul p (flV .sub b a)).isSome <;> rfl
theorem fad_vc (a b p : Nat) : vFad a b p := by
  rw [vFad_eq]
  refine cond_intro (fun h1 => cond_intro (fun h2 => cond_intro (fun h3 => .inl ⟨(), ?_, trivial, rfl, trivial⟩) fun h3 => .inr ⟨(), fadB_3 h3, trivial, rfl, trivial⟩) fun h2 => .inr ⟨(), fadB_2 h2, trivial, rfl, trivial⟩) fun h1 => .inr ⟨(), fadB_1 h1, trivial, rfl, trivial⟩
  unfold fadB fadS
  rw [h1, h2, h3]; rfl
theorem rfad_vc (a b p : Nat) : vRFad a b p := by
  rw [vRFad_eq]
  refine cond_intro (fun h1 => cond_intro (fun h2 => cond_intro (fun h3 => .inl ⟨(), ?_, trivial, rfl, trivial⟩) fun h3 => .inr ⟨(), fadB_3 h3, trivial, rfl, trivial⟩) fun h2 => .inr ⟨(), fadB_2 h2, trivial, rfl, trivial⟩) fun h1 => .inr ⟨(), fadB_1 h1, trivial, rfl, trivial⟩
  unfold fadB fadS
  rw [h1, h2, h3]; rfl
theorem ld_vc (n : Int) (w : Nat) (h : n ≤ 1125899906842624) : vLd n w := by
  rw [vLd_eq]
  refine need_intro ?_ (need_intro ?_ (cond_intro (fun k => .inl ⟨(), k, trivial, rfl, trivial⟩) fun k => .inr ⟨(), k, trivial, rfl, trivial⟩))
  · rw [and_t, leI_t, leI_t]; omega
  · rw [and_t, leI_t, leI_t]; omega
theorem ld_add (n : Int) (h : n ≤ 1125899906842624) : flR .add (FloatKind.f64.nearest (max 0 n)) 4607182418800017408 = some (ldM n) := by
  have e1 : (4607182418800017408 : Nat) = Rnd.fI 1 := by rw [← near_fI 1]; rfl
  unfold ldM
  rw [flR_add, near_fI, near_fI, e1, Rnd.fI_add (by omega) (by omega)]
  congr 2
  omega
theorem rld_vc (n : Int) (w : Nat) (h : n ≤ 1125899906842624) : vRLd n w := by
  rw [vRLd_eq]
  have e := ld_add n h
  rw [e, flV_of e]
  refine cond_intro (fun _ => cond_intro (fun k => .inl ⟨(), k, trivial, rfl, trivial⟩) fun k => .inr ⟨(), k, trivial, rfl, trivial⟩) fun h => by cases h

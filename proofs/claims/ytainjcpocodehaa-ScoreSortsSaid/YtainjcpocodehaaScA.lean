/- What the functions of layer 23 answer for numbers. -/
import Derived.Test.YtainjcpocodehaaProg
import Derived.Test.YtainjcpocodehaaSc
import Derived.Test.YtainjcpocodehaaBits
import Derived.Test.YtainjcpocodehaaFlP
set_option linter.unusedSimpArgs false
set_option linter.unusedVariables false
namespace Go.Proofs.Ytainjcpocodehaa
open Go Go.Ve
set_option maxRecDepth 20000
theorem names0 : Try.prog.funcs.all (fun fn => !(fn.name == "runtime.NumGoroutine")) = true := by kernel_rfl
theorem mixed0 : Try.prog.follows .mixedOrders = true := by kernel_rfl
noncomputable def faN (f : FuncId) : Option FA := match Nat.beq f 69 with | true => some ⟨[], [], []⟩ | false => none
noncomputable def V0 : VE := ⟨Try.prog, noS, noO, faN⟩
/-- The rank of a number of these bits. -/
def rk (b : Nat) : Int := if b < 2 ^ 63 then (b : Int) + 2 ^ 63 else 2 ^ 64 - 1 - (b : Int)
def cmpv (x y : Int) : Int := if x < y then -1 else if y < x then 1 else 0
def in64 (b : Nat) : Bool := decide (b < 18446744073709551616)
def gRank (args : List AV) : Option (Bool × AV) := match args with | [.float .f64 b] => some (in64 b, .int .u64 (rk b)) | _ => none
def gCmpU (args : List AV) : Option (Bool × AV) := match args with | [.int .u64 x, .int .u64 y] => some (true, .int .i64 (cmpv x y)) | _ => none
def gCmpF (args : List AV) : Option (Bool × AV) := match args with | [.float .f64 x, .float .f64 y] => some (in64 x && in64 y, .int .i64 (cmpv (rk x) (rk y))) | _ => none
noncomputable def TR0 : List (Nat × SpecE) := [(54, flatE gRank), (53, flatE gCmpU)]
noncomputable def VR0 : VE := ⟨Try.prog, tabS TR0 noS, noO, fun _ => none⟩
/-- May it be a weight? -/
def chkB (w : Nat) : Bool := flC .geq w 4517110426252607488 && flC .leq w 4697254411347427328
def chkV (w : Nat) : Int := cond (chkB w) 0 230
def gChk (args : List AV) : Option (Bool × AV) := match args with | [.float .f64 w] => some (true, .int .i64 (chkV w)) | _ => none
def gLoad (args : List AV) : Option (Bool × AV) := match args with | [.int .i64 n, .float .f64 w] => some (leI 0 n && (ltI n 2199023255552 && (flR .quo (FloatKind.f64.nearest (n + 1)) w).isSome), .float .f64 (flV .quo (FloatKind.f64.nearest (n + 1)) w)) | _ => none
def fadS (a b p : Nat) : Nat := flV .mul p (flV .sub b a)
def fadB (a b p : Nat) : Bool := (flR .sub b a).isSome && ((flR .mul p (flV .sub b a)).isSome && (flR .add a (fadS a b p)).isSome)
def fadV (a b p : Nat) : Nat := flV .add a (fadS a b p)
def gFade (args : List AV) : Option (Bool × AV) := match args with | [.float .f64 a, .float .f64 b, .float .f64 p] => some (fadB a b p, .float .f64 (fadV a b p)) | _ => none
def gAbs (args : List AV) : Option (Bool × AV) := match args with | [.float .f64 a] => some (in64 a, .float .f64 (Rnd.rung a)) | _ => none
def samB (a b : Nat) : Bool := (flC .neq a a && flC .neq b b) || Nat.beq a b
def gSame (args : List AV) : Option (Bool × AV) := match args with | [.float .f64 a, .float .f64 b] => some (true, .bool (samB a b)) | _ => none

noncomputable def vRank  (b : Nat) : Prop := vcF V0 [] 40 [] [(8, .bad), (10, .bad)] 54 [.float .f64 b] [] (Go.Ve.one (.int .u64 (rk b)))
noncomputable def vCmpU  (x y : Int) : Prop := vcF V0 [] 40 [] [] 53 [.int .u64 x, .int .u64 y] [] (Go.Ve.one (.int .i64 (cmpv x y)))
noncomputable def vCmpF  (x y : Nat) : Prop := vcF VR0 [] 40 [] [] 14 [.float .f64 x, .float .f64 y] [] (Go.Ve.one (.int .i64 (cmpv (rk x) (rk y))))
noncomputable def vChk  (w : Nat) : Prop := vcF V0 [] 40 [] [] 13 [.float .f64 w] [] (Go.Ve.one (.int .i64 (chkV w)))
noncomputable def vLoad  (n : Int) (w : Nat) : Prop := vcF V0 [] 40 [] [] 15 [.int .i64 n, .float .f64 w] [] (Go.Ve.one (.float .f64 (flV .quo (FloatKind.f64.nearest (n + 1)) w)))
noncomputable def vFade  (a b p : Nat) : Prop := vcF V0 [] 40 [] [] 17 [.float .f64 a, .float .f64 b, .float .f64 p] [] (Go.Ve.one (.float .f64 (fadV a b p)))
noncomputable def vAbs  (a : Nat) : Prop := vcF V0 [] 40 [] [] 16 [.float .f64 a] [] (Go.Ve.one (.float .f64 (Rnd.rung a)))
noncomputable def vSame  (a b : Nat) : Prop := vcF V0 [] 40 [] [] 11 [.float .f64 a, .float .f64 b] [] (Go.Ve.one (.bool (samB a b)))
theorem vRank_eq  (b : Nat) : vRank b = (∃ (_x : Unit), True ∧ True ∧ IntKind.u64.wrap (ic ((BitVec.ofInt (64 : Nat) (ic b)).xor (BitVec.ofInt (64 : Nat) (IntKind.u64.wrap (ic ((BitVec.ofInt (64 : Nat) (IntKind.u64.wrap ((IntKind.i64.wrap (ic b)).fdiv (9223372036854775808 : Int)))).or (BitVec.ofInt (64 : Nat) (9223372036854775808 : Int))).toNat)))).toNat) = rk b ∧ True) := by kernel_rfl
theorem vCmpU_eq  (x y : Int) : vCmpU x y = (bif !eqI x x then bif !eqI y y then ∃ (_x : Unit), True ∧ True ∧ (0 : Int) = cmpv x y ∧ True else ∃ (_x : Unit), True ∧ True ∧ (-1 : Int) = cmpv x y ∧ True else bif !eqI y y then ∃ (_x : Unit), True ∧ True ∧ (1 : Int) = cmpv x y ∧ True else bif ltI x y then ∃ (_x : Unit), True ∧ True ∧ (-1 : Int) = cmpv x y ∧ True else bif ltI y x then ∃ (_x : Unit), True ∧ True ∧ (1 : Int) = cmpv x y ∧ True else ∃ (_x : Unit), True ∧ True ∧ (0 : Int) = cmpv x y ∧ True) := by kernel_rfl
theorem vCmpF_eq  (x y : Nat) : vCmpF x y = (bif in64 x then bif in64 y then ∃ (_x : Unit), True ∧ True ∧ cmpv (rk x) (rk y) = cmpv (rk x) (rk y) ∧ True else False else False) := by kernel_rfl
theorem vChk_eq  (w : Nat) : vChk w = (bif flC BinOp.geq w (4517110426252607488 : Nat) then bif flC BinOp.leq w (4697254411347427328 : Nat) then ∃ (_x : Unit), True ∧ True ∧ (0 : Int) = chkV w ∧ True else ∃ (_x : Unit), True ∧ True ∧ (230 : Int) = chkV w ∧ True else ∃ (_x : Unit), True ∧ True ∧ (230 : Int) = chkV w ∧ True) := by kernel_rfl
theorem vLoad_eq  (n : Int) (w : Nat) : vLoad n w = (bif leI (0 : Int) (max n (0 : Int)) && leI (max n (0 : Int)) (18446744073709551615 : Int) then bif leI (0 : Int) (max n (0 : Int) + (1 : Int)) && leI (max n (0 : Int) + (1 : Int)) (18446744073709551615 : Int) then bif (flR BinOp.quo (FloatKind.f64.nearest (max n (0 : Int) + (1 : Int))) w).isSome then ∃ (_x : Unit), True ∧ True ∧ AV.float FloatKind.f64 (flV BinOp.quo (FloatKind.f64.nearest (max n (0 : Int) + (1 : Int))) w) = AV.float FloatKind.f64 (flV BinOp.quo (FloatKind.f64.nearest (n + (1 : Int))) w) ∧ True else ∃ (_x : Unit), True ∧ True ∧ AV.nan FloatKind.f64 = AV.float FloatKind.f64 (flV BinOp.quo (FloatKind.f64.nearest (n + (1 : Int))) w) ∧ True else False else False) := by kernel_rfl
theorem vFade_eq  (a b p : Nat) : vFade a b p = (bif (flR BinOp.sub b a).isSome then bif (flR BinOp.mul p (flV BinOp.sub b a)).isSome then bif (flR BinOp.add a (flV BinOp.mul p (flV BinOp.sub b a))).isSome then ∃ (_x : Unit), True ∧ True ∧ AV.float FloatKind.f64 (flV BinOp.add a (flV BinOp.mul p (flV BinOp.sub b a))) = AV.float FloatKind.f64 (fadV a b p) ∧ True else ∃ (_x : Unit), True ∧ True ∧ AV.nan FloatKind.f64 = AV.float FloatKind.f64 (fadV a b p) ∧ True else ∃ (_x : Unit), True ∧ True ∧ AV.nan FloatKind.f64 = AV.float FloatKind.f64 (fadV a b p) ∧ True else ∃ (_x : Unit), True ∧ True ∧ AV.nan FloatKind.f64 = AV.float FloatKind.f64 (fadV a b p) ∧ True) := by kernel_rfl
theorem vAbs_eq  (a : Nat) : vAbs a = (∃ (_x : Unit), True ∧ True ∧ AV.float FloatKind.f64 (IntKind.u64.wrap (ic ((BitVec.ofInt (64 : Nat) (ic a)).and (BitVec.ofInt (64 : Nat) (9223372036854775808 : Int)).not).toNat)).toNat = AV.float FloatKind.f64 (Rnd.rung a) ∧ True) := by kernel_rfl
theorem vSame_eq  (a b : Nat) : vSame a b = (bif flC BinOp.neq a a then bif flC BinOp.neq b b then ∃ (_x : Unit), True ∧ True ∧ true = samB a b ∧ True else ∃ (_x : Unit), True ∧ True ∧ eqI (ic a) (ic b) = samB a b ∧ True else ∃ (_x : Unit), True ∧ True ∧ eqI (ic a) (ic b) = samB a b ∧ True) := by kernel_rfl
theorem in64_of {b : Nat} (h : in64 b = true) : b < 2 ^ 64 := of_decide_eq_true h
theorem rank_vc (b : Nat) (h : b < 2 ^ 64) : vRank b := by
  rw [vRank_eq]
  refine ⟨(), trivial, trivial, ?_, trivial⟩
  simp only [ic]
  unfold rk
  by_cases hb : b < 2 ^ 63
  · rw [if_pos hb, wrap_lo hb, show ((b : Int).fdiv 9223372036854775808) = 0 from fdiv_lo hb]
    exact xor_lo hb
  · rw [if_neg hb, wrap_hi (by omega) h, show Int.fdiv ((b : Int) - 2 ^ 64) 9223372036854775808 = -1 from fdiv_hi (by omega) h]
    exact xor_hi h
theorem cmpU_vc (x y : Int) : vCmpU x y := by
  rw [vCmpU_eq]
  simp only [exists_const, true_and, and_true]
  simp only [cond_P, leI_t, leI_f, ltI_t, ltI_f, eqI_t, eqI_f, and_t, not_t, not_f, dec_t, dec_f, Nat.zero_add, Nat.mul_one, List.drop_zero]
  unfold cmpv
  refine ⟨fun h => absurd rfl h, fun _ => ⟨fun h => absurd rfl h, fun _ => ⟨fun h => by rw [if_pos h], fun h => ⟨fun h2 => by rw [if_neg (by omega), if_pos h2], fun h2 => by rw [if_neg (by omega), if_neg (by omega)]⟩⟩⟩⟩
theorem cmpF_vc (x y : Nat) (hx : in64 x = true) (hy : in64 y = true) : vCmpF x y := by
  rw [vCmpF_eq, hx, hy]
  exact ⟨(), trivial, trivial, rfl, trivial⟩
theorem chk_vc (w : Nat) : vChk w := by
  rw [vChk_eq]
  unfold chkV chkB
  cases flC .geq w 4517110426252607488 <;> cases flC .leq w 4697254411347427328 <;> exact ⟨(), trivial, trivial, rfl, trivial⟩
theorem load_vc (n : Int) (w : Nat) (h0 : 0 ≤ n) (h1 : n < 2199023255552) (h2 : (flR .quo (FloatKind.f64.nearest (n + 1)) w).isSome = true) : vLoad n w := by
  rw [vLoad_eq]
  have e : max n 0 = n := by omega
  rw [e, h2]
  simp only [cond_P, leI_t, leI_f, ltI_t, ltI_f, eqI_t, eqI_f, and_t, not_t, not_f, dec_t, dec_f, Nat.zero_add, Nat.mul_one, List.drop_zero]
  exact ⟨fun _ => ⟨fun _ => ⟨fun _ => ⟨(), trivial, trivial, trivial, trivial⟩, fun h => by cases h⟩, fun h => by rcases Bool.and_eq_false_iff.1 h with h | h <;> simp only [leI_f] at h <;> omega⟩, fun h => by rcases Bool.and_eq_false_iff.1 h with h | h <;> simp only [leI_f] at h <;> omega⟩
theorem fade_vc (a b p : Nat) (h : fadB a b p = true) : vFade a b p := by
  rw [vFade_eq]
  unfold fadB fadS at h
  simp only [Bool.and_eq_true] at h
  rw [h.1, h.2.1, h.2.2]
  exact ⟨(), trivial, trivial, rfl, trivial⟩
theorem abs_bits {a : Nat} (h : a < 2 ^ 64) : (IntKind.u64.wrap (((BitVec.ofInt 64 (a : Int)).and (BitVec.ofInt 64 9223372036854775808).not).toNat : Nat)).toNat = Rnd.rung a := by
  have e : ((BitVec.ofInt 64 (a : Int)).and (BitVec.ofInt 64 9223372036854775808).not).toNat = a % 2 ^ 63 := by
    show (BitVec.ofInt 64 (a : Int) &&& ~~~ BitVec.ofInt 64 9223372036854775808).toNat = _
    rw [show ~~~ BitVec.ofInt 64 9223372036854775808 = BitVec.ofNat 64 (2 ^ 63 - 1) from rfl, BitVec.toNat_and, ← Nat.and_two_pow_sub_one_eq_mod]
    congr 1
    simp; omega
  rw [e, wrap_u64 (by omega) (by omega), Int.toNat_natCast]
  exact Rnd.rung_eq h
theorem abs_vc (a : Nat) (h : a < 2 ^ 64) : vAbs a := by
  rw [vAbs_eq]
  exact ⟨(), trivial, trivial, by simp only [ic]; rw [abs_bits h], trivial⟩
theorem same_vc (a b : Nat) : vSame a b := by
  rw [vSame_eq]
  have e : eqI (ic a) (ic b) = Nat.beq a b := by
    rw [eqI_eq]
    cases h : Nat.beq a b
    · exact decide_eq_false fun h2 => by
        have : a = b := Int.ofNat.inj h2
        subst this
        rw [Nat.beq_refl] at h; cases h
    · rw [Nat.eq_of_beq_eq_true h]; exact decide_eq_true rfl
  rw [e]
  unfold samB
  cases flC .neq a a <;> cases flC .neq b b <;> exact ⟨(), trivial, trivial, rfl, trivial⟩
theorem oneS {f : FuncId} {args : List AV} {v : AV} (h : SC Try.prog f args [] (outE (Go.Ve.one v))) : SC Try.prog f args [] (fun v' H' => v' = v ∧ H' = []) :=
  h.mono fun v' H' h => by
    obtain ⟨_, _, h1, h2⟩ := outE_one h
    exact ⟨h1, h2⟩
theorem gRank_ok : EntryOk Try.prog 54 (flatE gRank) := by
  refine flatE_ok fun args b v hg hb => ?_
  unfold gRank at hg
  split at hg
  · cases hg
    exact ⟨rfl, rfl, oneS (SC.ofF (V := V0) names0 mixed0 noS_ok noO_ok (rank_vc _ (in64_of hb)))⟩
  · cases hg
theorem gCmpU_ok : EntryOk Try.prog 53 (flatE gCmpU) := by
  refine flatE_ok fun args b v hg hb => ?_
  unfold gCmpU at hg
  split at hg
  · cases hg
    exact ⟨rfl, rfl, oneS (SC.ofF (V := V0) names0 mixed0 noS_ok noO_ok (cmpU_vc _ _))⟩
  · cases hg
theorem TR0_ok : SpecOk Try.prog (tabS TR0 noS) := by
  refine tabS_ok (fun p hp => ?_) noS_ok
  simp only [TR0, List.mem_cons, List.mem_nil_iff, or_false] at hp
  rcases hp with rfl | rfl
  · exact gRank_ok
  · exact gCmpU_ok
theorem gCmpF_ok : EntryOk Try.prog 14 (flatE gCmpF) := by
  refine flatE_ok fun args b v hg hb => ?_
  unfold gCmpF at hg
  split at hg
  · cases hg
    have hb := Bool.and_eq_true _ _ ▸ hb
    exact ⟨rfl, rfl, oneS (SC.ofF (V := VR0) names0 mixed0 TR0_ok noO_ok (cmpF_vc _ _ hb.1 hb.2))⟩
  · cases hg
theorem gChk_ok : EntryOk Try.prog 13 (flatE gChk) := by
  refine flatE_ok fun args b v hg hb => ?_
  unfold gChk at hg
  split at hg
  · cases hg
    exact ⟨rfl, rfl, oneS (SC.ofF (V := V0) names0 mixed0 noS_ok noO_ok (chk_vc _))⟩
  · cases hg
theorem gLoad_ok : EntryOk Try.prog 15 (flatE gLoad) := by
  refine flatE_ok fun args b v hg hb => ?_
  unfold gLoad at hg
  split at hg
  · cases hg
    simp only [Bool.and_eq_true, leI_t, ltI_t] at hb
    exact ⟨rfl, rfl, oneS (SC.ofF (V := V0) names0 mixed0 noS_ok noO_ok (load_vc _ _ hb.1 hb.2.1 hb.2.2))⟩
  · cases hg
theorem gFade_ok : EntryOk Try.prog 17 (flatE gFade) := by
  refine flatE_ok fun args b v hg hb => ?_
  unfold gFade at hg
  split at hg
  · cases hg
    exact ⟨rfl, rfl, oneS (SC.ofF (V := V0) names0 mixed0 noS_ok noO_ok (fade_vc _ _ _ hb))⟩
  · cases hg
theorem gAbs_ok : EntryOk Try.prog 16 (flatE gAbs) := by
  refine flatE_ok fun args b v hg hb => ?_
  unfold gAbs at hg
  split at hg
  · cases hg
    exact ⟨rfl, rfl, oneS (SC.ofF (V := V0) names0 mixed0 noS_ok noO_ok (abs_vc _ (in64_of hb)))⟩
  · cases hg
theorem gSame_ok : EntryOk Try.prog 11 (flatE gSame) := by
  refine flatE_ok fun args b v hg hb => ?_
  unfold gSame at hg
  split at hg
  · cases hg
    exact ⟨rfl, rfl, oneS (SC.ofF (V := V0) names0 mixed0 noS_ok noO_ok (same_vc _ _))⟩
  · cases hg

/- Plain facts that the law ScoreFades wants: sums of whole numbers, loads, averages that fade by nothing. -/
import Derived.Test.YtainjcpocodehaaScA
set_option linter.unusedSimpArgs false
set_option linter.unusedVariables false
namespace Go.Proofs.Ytainjcpocodehaa
open Go Go.Ve Rnd
set_option maxRecDepth 20000
theorem flR_add (a b : Nat) : flR .add a b = Ieee.double.add a b := rfl
theorem flR_sub (a b : Nat) : flR .sub a b = Ieee.double.sub a b := rfl
theorem flR_mul (a b : Nat) : flR .mul a b = Ieee.double.mul a b := rfl
theorem flR_quo (a b : Nat) : flR .quo a b = Ieee.double.div a b := rfl
theorem flV_of {op : BinOp} {a b r : Nat} (h : flR op a b = some r) : flV op a b = r := by unfold flV; rw [h]; rfl
theorem near_fI (z : Int) : FloatKind.f64.nearest z = fI z := nearest_fI z
theorem fI_zero : fI 0 = 0 := by rw [← nearest_fI 0]; rfl
theorem in64_iff {b : Nat} (h : in64 b = true) : b < 2 ^ 64 := of_decide_eq_true h
theorem inf_eq : INF = 2047 * 2 ^ 52 := rfl

/-! ### Finite numbers -/
theorem fin_of_sub {x : Nat} (hx : x < 2 ^ 64) (h : (flR .sub x x).isSome = true) : rung x < INF := by
  refine Nat.lt_of_not_le fun hge => ?_
  rw [flR_sub] at h
  unfold Ieee.Format.sub at h
  rcases Nat.lt_or_ge INF (rung x) with h1 | h1
  · rw [read_nan hx h1] at h
    cases h
  · rw [read_inf hx (by have := inf_eq; omega)] at h
    cases hn : neg x <;> rw [hn] at h <;> cases h
theorem fin_isN {x : Nat} (h : rung x < INF) : isN x = false := decide_eq_false (by have := inf_eq; omega)
theorem eql_sv {a b : Nat} (ha : a < 2 ^ 64) (hb : b < 2 ^ 64) (na : isN a = false) (nb : isN b = false) : flC .eql a b = decide (sv a = sv b) := by
  show (Ieee.double.order a b == some .eq) = _
  rw [order_sv ha hb na nb]
  rcases Int.lt_trichotomy (sv a) (sv b) with h | h | h
  · rw [Int.compare_eq_lt.2 h, decide_eq_false (by omega)]; rfl
  · rw [Int.compare_eq_eq.2 h, decide_eq_true h]; rfl
  · rw [Int.compare_eq_gt.2 h, decide_eq_false (by omega)]; rfl
theorem eql_nan {a b : Nat} (ha : a < 2 ^ 64) (na : isN a = true) : flC .eql a b = false := by
  show (Ieee.double.order a b == some .eq) = false
  rw [order_nanL ha na]; rfl
theorem zero_of_eql {p : Nat} (hp : p < 2 ^ 64) (h : flC .eql p 0 = true) : rung p = 0 := by
  cases hn : isN p
  · rw [eql_sv hp (by decide) hn (by decide)] at h
    exact sv_zero' ((of_decide_eq_true h).trans (by decide))
  · rw [eql_nan hp hn] at h; cases h
theorem lss_sv {a b : Nat} (ha : a < 2 ^ 64) (hb : b < 2 ^ 64) (na : isN a = false) (nb : isN b = false) (h : flC .lss a b = true) : sv a < sv b := by
  have h : (Ieee.double.order a b == some .lt) = true := h
  rw [order_sv ha hb na nb] at h
  rcases Int.lt_trichotomy (sv a) (sv b) with h1 | h1 | h1
  · exact h1
  · rw [Int.compare_eq_eq.2 h1] at h; cases h
  · rw [Int.compare_eq_gt.2 h1] at h; cases h

/-! ### Averages -/
theorem fade_of {old now part far : Nat} (ho : old < 2 ^ 64) (hp : part < 2 ^ 64) (fo : rung old < INF) (h1 : flR .sub now old = some far) (hz : flR .mul part far = some (wd (neg part ^^ neg far) 0)) : fadB old now part = true ∧ flC .eql (fadV old now part) old = true := by
  obtain ⟨r, h2, h3, h4, h5⟩ := add_zero (z := wd (neg part ^^ neg far) 0) ho (wd_lt _ (by decide)) fo (wd_rung _ (by decide))
  have e : fadS old now part = wd (neg part ^^ neg far) 0 := by unfold fadS; rw [flV_of h1, flV_of hz]
  have e2 : flR .add old (fadS old now part) = some r := by rw [e]; exact h2
  refine ⟨?_, ?_⟩
  · unfold fadB
    rw [e2, flV_of h1, hz, h1]; rfl
  · unfold fadV
    rw [flV_of e2, eql_sv h3 ho h4 (fin_isN fo)]
    exact decide_eq_true h5
theorem fade_same {old now part : Nat} (ho : old < 2 ^ 64) (hp : part < 2 ^ 64) (hs : samB old now = true) (h1 : (flR .sub old old).isSome = true) (h2 : (flR .sub part part).isSome = true) : fadB old now part = true ∧ flC .eql (fadV old now part) old = true := by
  have fo := fin_of_sub ho h1
  have fp := fin_of_sub hp h2
  have e : old = now := by
    unfold samB at hs
    rcases Bool.or_eq_true _ _ ▸ hs with h | h
    · have h := (Bool.and_eq_true _ _ ▸ h).1
      have h' : (!(flC .eql old old)) = true := h
      rw [eql_sv ho ho (fin_isN fo) (fin_isN fo), decide_eq_true rfl] at h'
      cases h'
    · exact Nat.eq_of_beq_eq_true h
  subst e
  refine fade_of ho hp fo (sub_self ho fo) ?_
  rw [flR_mul, mul_zeroR hp (by decide) (by decide) fp]
theorem fade_none {old now part : Nat} (ho : old < 2 ^ 64) (hn : now < 2 ^ 64) (hp : part < 2 ^ 64) (h0 : flC .eql part 0 = true) (h1 : (flR .sub old old).isSome = true) (h2 : (flR .sub now now).isSome = true)
    (h3 : flC .lss (rung old) 6850974717710472879 = true) (h4 : flC .lss (rung now) 6850974717710472879 = true) : fadB old now part = true ∧ flC .eql (fadV old now part) old = true := by
  have fo := fin_of_sub ho h1
  have fn := fin_of_sub hn h2
  have ie := inf_eq
  have lt : ∀ {x : Nat}, rung x < INF → flC .lss (rung x) 6850974717710472879 = true → fv (rung x) < fv 6850974717710472879 := fun {x} hf h => by
    have hl : rung x < 2 ^ 63 := by omega
    have hr : rung (rung x) = rung x := by generalize rung x = r at *; unfold rung; rw [if_pos hl]
    have := lss_sv (by omega) (by decide) (fin_isN (by rw [hr]; exact hf)) (by decide) h
    rw [sv_pos hl, sv_pos (by decide)] at this
    omega
  have lo := lt fo h3
  have ln := lt fn h4
  have hd : (sv now - sv old).natAbs ≤ 2 * fv 6850974717710472879 := by
    rw [sv_eq now, sv_eq old]
    generalize fv 6850974717710472879 = F at *
    cases neg now <;> cases neg old <;> simp only [Bool.false_eq_true, if_false, if_true] <;> omega
  have hs := sub_sv hn ho fn fo
  have hlt : rg 0 (sv now - sv old).natAbs < INF := Nat.lt_of_le_of_lt (rg_mono hd) (of_decide_eq_true (by kernel_rfl))
  have h63 : rg 0 (sv now - sv old).natAbs < 2 ^ 63 := by omega
  refine fade_of ho hp fo hs ?_
  rw [flR_mul, mul_zeroL hp (wd_lt _ h63) (zero_of_eql hp h0) (by rw [wd_rung _ h63]; exact hlt)]

/-! ### Sums -/
def sumZ (zs : List Int) : Int := zs.sum
theorem sumZ_step {zs : List Int} {i : Nat} (h : i < zs.length) : sumZ (zs.take (i + 1)) = sumZ (zs.take i) + zs.getD i 0 := by
  unfold sumZ
  rw [List.take_succ_eq_append_getElem h, List.sum_append, List.getD_eq_getElem?_getD, List.getElem?_eq_getElem h]
  simp
theorem sumZ_le {zs : List Int} (hb : ∀ z ∈ zs, -2147483648 ≤ z ∧ z ≤ 2147483647) : (sumZ zs).natAbs ≤ zs.length * 2147483648 := by
  induction zs with
  | nil => decide
  | cons a r ih =>
    have h1 := hb a (by simp)
    have h2 := ih fun z hz => hb z (by simp [hz])
    simp only [sumZ, List.sum_cons, List.length_cons] at h2 ⊢
    omega
theorem sum_near {zs : List Int} (hb : ∀ z ∈ zs, -2147483648 ≤ z ∧ z ≤ 2147483647) (hn : zs.length ≤ 60) {i : Nat} (h : i < zs.length) :
    flR .add (FloatKind.f64.nearest (sumZ (zs.take i))) (FloatKind.f64.nearest (zs.getD i 0)) = some (FloatKind.f64.nearest (sumZ (zs.take (i + 1)))) := by
  have h1 := sumZ_le (zs := zs.take i) fun z hz => hb z (List.mem_of_mem_take hz)
  have h2 : (zs.take i).length ≤ 60 := by rw [List.length_take]; omega
  have h3 : zs.getD i 0 ∈ zs := by
    rw [List.getD_eq_getElem?_getD, List.getElem?_eq_getElem h]; exact List.getElem_mem h
  have h4 := hb _ h3
  rw [near_fI, near_fI, near_fI, sumZ_step h, flR_add]
  exact fI_add (by omega) (by omega)
theorem sum_end {zs : List Int} (hb : ∀ z ∈ zs, -2147483648 ≤ z ∧ z ≤ 2147483647) (hn : zs.length ≤ 60) :
    flR .add (FloatKind.f64.nearest (sumZ zs)) 0 = some (FloatKind.f64.nearest (sumZ zs)) := by
  have h1 := sumZ_le hb
  have := fI_add (a := sumZ zs) (b := 0) (by omega) (by decide)
  rw [Int.add_zero, fI_zero] at this
  rw [near_fI]; exact this

/-! ### Loads -/
theorem fv_mul (k : Nat) (h1 : 1 ≤ k) (h2 : k ≤ 2046) : fv (k * 2 ^ 52) = 2 ^ (52 + (k - 1)) := by
  unfold fv
  rw [if_neg (by omega), Nat.mul_mod_left, Nat.mul_div_cancel _ (by decide), Nat.add_zero, ← Nat.pow_add]
theorem chk_rung {w : Nat} (hw : w < 2 ^ 64) (h : chkB w = true) : 4517110426252607488 ≤ w ∧ w ≤ 4697254411347427328 := by
  have h := Bool.and_eq_true _ _ ▸ h
  have h1 : (Ieee.double.order w 4517110426252607488 == some .gt || Ieee.double.order w 4517110426252607488 == some .eq) = true := h.1
  have h2 : (Ieee.double.order w 4697254411347427328 == some .lt || Ieee.double.order w 4697254411347427328 == some .eq) = true := h.2
  cases hn : isN w
  · rw [order_sv hw (by decide) hn (by decide)] at h1 h2
    have l1 : sv 4517110426252607488 ≤ sv w := by
      rcases Int.lt_trichotomy (sv w) (sv 4517110426252607488) with h | h | h
      · rw [Int.compare_eq_lt.2 h] at h1; cases h1
      · omega
      · omega
    have l2 : sv w ≤ sv 4697254411347427328 := by
      rcases Int.lt_trichotomy (sv w) (sv 4697254411347427328) with h | h | h
      · omega
      · omega
      · rw [Int.compare_eq_gt.2 h] at h2; cases h2
    have p1 : 0 < fv 4517110426252607488 := fv_lt (r := 0) (by decide)
    have h63 : w < 2 ^ 63 := by
      refine Nat.lt_of_not_le fun hge => ?_
      have := sv_neg (b := w) (by omega)
      rw [sv_pos (b := 4517110426252607488) (by decide)] at l1
      omega
    rw [sv_pos (by decide), sv_pos h63] at l1
    rw [sv_pos h63, sv_pos (by decide)] at l2
    exact ⟨Nat.le_of_not_lt fun hh => by have := fv_lt hh; omega, Nat.le_of_not_lt fun hh => by have := fv_lt hh; omega⟩
  · rw [order_nanL hw hn] at h1; cases h1
theorem two_mul_le {a b c : Nat} (h : a + b ≤ c) : 2 ^ a * 2 ^ b ≤ 2 ^ c := by rw [← Nat.pow_add]; exact Nat.pow_le_pow_right (by decide) h
theorem two_mul_ge {a b c : Nat} (h : a + b ≤ c) : 2 ^ a * 2 ^ b ≤ 2 ^ c := two_mul_le h
theorem lo_arith {X Xm B A : Nat} (h1 : B * (2 ^ 54 - 1) ≤ Xm * 2 ^ 54) (h2 : Xm ≤ X * 2 ^ 53) (h3 : A * 2 ^ 54 ≤ B) : A ≤ X := by omega
theorem hi_arith {X Xm nB B C : Nat} (h1 : X * 2 ^ 52 ≤ Xm) (h2 : Xm * 2 ^ 54 ≤ nB * (2 ^ 54 + 1)) (h3 : nB ≤ 1099511627776 * B) (h4 : B * 2 ^ 54 ≤ C) (h5 : 0 < B) : X < C := by omega
theorem sep_a1 {Xm nB B : Nat} (h1 : Xm * 2 ^ 54 ≤ nB * (2 ^ 54 + 1)) (h3 : nB ≤ 1099511627776 * B) : Xm * 16384 ≤ nB * 16384 + B := by
  refine Nat.le_of_mul_le_mul_right (c := 1099511627776) ?_ (by decide)
  rw [Nat.mul_assoc, Nat.add_mul, Nat.mul_assoc]
  rw [Nat.mul_add, Nat.mul_one] at h1
  exact Nat.le_trans h1 (Nat.add_le_add_left (by rw [Nat.mul_comm B]; exact h3) _)
theorem sep_a2 {Ym nB B : Nat} (h2 : (nB + B) * (2 ^ 54 - 1) ≤ Ym * 2 ^ 54) (h3 : nB ≤ 1099511627776 * B) : (nB + B) * 8192 ≤ Ym * 8192 + B := by
  refine Nat.le_of_mul_le_mul_right (c := 2199023255552) ?_ (by decide)
  rw [Nat.mul_assoc, Nat.add_mul (Ym * 8192), Nat.mul_assoc]
  have h4 : nB + B ≤ B * 2199023255552 := by omega
  exact Nat.le_trans (Nat.le_of_eq (show (nB + B) * (8192 * 2199023255552) = (nB + B) * (2 ^ 54 - 1) + (nB + B) from Nat.mul_succ (nB + B) (2 ^ 54 - 1))) (Nat.add_le_add h2 h4)
theorem sep_arith {Xm Ym nB B : Nat} (h1 : Xm * 2 ^ 54 ≤ nB * (2 ^ 54 + 1)) (h2 : (nB + B) * (2 ^ 54 - 1) ≤ Ym * 2 ^ 54) (h3 : nB ≤ 1099511627776 * B) : Xm * (2 ^ 50 + 1) ≤ Ym * 2 ^ 50 := by
  have a1 := sep_a1 h1 h3
  have a2 := sep_a2 h2 h3
  clear h1 h2
  obtain ⟨d, hd⟩ : ∃ d, Ym = Xm + d := ⟨Ym - Xm, by omega⟩
  have a3 : B ≤ 2 * d := by omega
  have a4 : Xm ≤ 2 ^ 50 * d := by omega
  rw [hd, Nat.mul_add, Nat.add_mul, Nat.mul_one, Nat.mul_comm d]
  exact Nat.add_le_add_left a4 _
theorem rg_pos' {c q x : Nat} (h1 : c ≤ q) (h : 2 ^ q ≤ x) : 0 < rg c x := rg_pos (Nat.le_trans (Nat.pow_le_pow_right (by decide) h1) h)
/-- The load of one more is greater. -/
theorem load_up {n w : Nat} (hn1 : 1 ≤ n) (hn2 : n ≤ 1099511627776) (hw0 : 4517110426252607488 ≤ w) (hw1 : w ≤ 4697254411347427328) :
    ∃ r s : Nat, flR .quo (fI (n : Int)) w = some r ∧ flR .quo (fI ((n : Int) + 1)) w = some s ∧ 0 < r ∧ r < s ∧ s ≤ INF := by
  have ie := inf_eq
  have e0 : ∀ m : Nat, fI (m : Int) = fl m := fun m => by unfold fI; rw [decide_eq_false (by omega), Int.natAbs_natCast]; unfold wd; rw [if_neg (by decide)]
  have e1 := e0 n
  have e2 := e0 (n + 1)
  rw [Int.natCast_add, Int.natCast_one] at e2
  have norm : ∀ m : Nat, 1 ≤ m → m < 2 ^ 53 → 2 ^ 52 ≤ fl m ∧ fl m < INF := fun m h1 h2 => by
    refine ⟨?_, fl_inf h2⟩
    refine Nat.le_of_not_lt fun hh => ?_
    have h3 := fv_fl h2
    have h4 : fv (fl m) = fl m := by unfold fv; rw [if_pos hh]
    rw [h4] at h3
    have h5 : 2 ^ 52 ≤ m * 2 ^ 1074 := by
      refine Nat.le_trans (Nat.pow_le_pow_right (by decide) (show 52 ≤ 1074 by decide)) ?_
      exact Nat.le_mul_of_pos_left _ h1
    omega
  obtain ⟨a1, a2⟩ := norm n hn1 (by omega)
  obtain ⟨b1, b2⟩ := norm (n + 1) (by omega) (by omega)
  obtain ⟨X, d1, d2, d3⟩ := div_units' a1 a2 (w := w) (by omega) (by omega)
  obtain ⟨Y, g1, g2, g3⟩ := div_units' b1 b2 (w := w) (by omega) (by omega)
  rw [fv_fl (by omega)] at d2 d3 g2 g3
  have hew : w / 2 ^ 52 - 1 ≤ 1042 := by omega
  have hew0 : 1002 ≤ w / 2 ^ 52 - 1 := by omega
  obtain ⟨K, hK⟩ : ∃ K, 1074 + (2148 - (w / 2 ^ 52 - 1)) = K := ⟨_, rfl⟩
  have hK1 : 2180 ≤ K := by omega
  have hK2 : K ≤ 2220 := by omega
  have eK : ∀ a : Nat, a * 2 ^ 1074 * 2 ^ (2148 - (w / 2 ^ 52 - 1)) = a * 2 ^ K := fun a => by
    rw [← hK, Nat.pow_add]
    exact Nat.mul_assoc _ _ _
  rw [eK] at d2 d3 g2 g3
  clear eK
  have hm1 : 2 ^ 52 ≤ 2 ^ 52 + w % 2 ^ 52 := by omega
  have hm2 : 2 ^ 52 + w % 2 ^ 52 < 2 ^ 53 := by omega
  generalize 2 ^ 52 + w % 2 ^ 52 = m at *
  have hnB : n * 2 ^ K ≤ 1099511627776 * 2 ^ K := Nat.mul_le_mul_right _ hn2
  have h1B : 2 ^ K ≤ n * 2 ^ K := Nat.le_mul_of_pos_left _ hn1
  rw [Nat.add_mul, Nat.one_mul] at g2 g3
  -- the bounds of X
  obtain ⟨q, hq⟩ : ∃ q, 1074 + 103 = q := ⟨_, rfl⟩
  have lo : 2 ^ q ≤ X := by
    have h1 : 2 ^ K * (2 ^ 54 - 1) ≤ X * m * 2 ^ 54 := Nat.le_trans (Nat.mul_le_mul_right _ h1B) d3
    have h2 : X * m ≤ X * 2 ^ 53 := Nat.mul_le_mul_left _ (Nat.le_of_lt hm2)
    obtain ⟨b, hb⟩ : ∃ b, b = 1003 := ⟨_, rfl⟩
    have h3 : 2 ^ q * 2 ^ b ≤ 2 ^ K := two_mul_le (by omega)
    have h5 : (2 : Nat) ^ 54 ≤ 2 ^ b := Nat.pow_le_pow_right (by decide) (by omega)
    exact lo_arith h1 h2 (Nat.le_trans (Nat.mul_le_mul_left _ h5) h3)
  obtain ⟨q2, hq2⟩ : ∃ q2, 1074 + 1900 = q2 := ⟨_, rfl⟩
  have hi : X < 2 ^ q2 := by
    have h1 : X * 2 ^ 52 ≤ X * m := Nat.mul_le_mul_left _ hm1
    have h3 : 2 ^ K * 2 ^ 54 ≤ 2 ^ q2 := two_mul_le (by omega)
    exact hi_arith h1 d2 hnB h3 (Nat.two_pow_pos K)
  have sep : X * (2 ^ 50 + 1) ≤ Y * 2 ^ 50 := by
    have e3 : X * (2 ^ 50 + 1) * m = X * m * (2 ^ 50 + 1) := Nat.mul_right_comm _ _ _
    have e4 : Y * 2 ^ 50 * m = Y * m * 2 ^ 50 := Nat.mul_right_comm _ _ _
    have key : X * (2 ^ 50 + 1) * m ≤ Y * 2 ^ 50 * m := by
      rw [e3, e4]
      exact sep_arith d2 g3 hnB
    exact Nat.le_of_mul_le_mul_right key (Nat.lt_of_lt_of_le (by decide) hm1)
  have p1 : 0 < rg 1074 X := rg_pos' (c := 1074) (q := q) (by omega) lo
  have p2 : rg 1074 X < rg 1074 Y := rg_sep (c := 1074) (by rw [hq]; exact lo) (by rw [hq2]; exact hi) sep
  have p3 : rg 1074 Y ≤ INF := rg_inf _ _
  have q1 : flR .quo (fI (n : Int)) w = some (rg 1074 X) := by rw [flR_quo, e1]; exact d1
  have q2 : flR .quo (fI ((n : Int) + 1)) w = some (rg 1074 Y) := by rw [flR_quo, e2]; exact g1
  exact ⟨_, _, q1, q2, p1, p2, p3⟩
end Go.Proofs.Ytainjcpocodehaa

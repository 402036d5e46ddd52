/- What the walk of the document's Sorted asks is so. -/
import Derived.Test.YtainjcpocodehaaScU
import Derived.Test.YtainjcpocodehaaScZ
set_option linter.unusedSimpArgs false
set_option linter.unusedVariables false
namespace Go.Proofs.Ytainjcpocodehaa
open Go Go.Ve
set_option maxRecDepth 20000
theorem cellsR (σ : Nat → Nat) {a b : FL} (h : a = b) : cellsP σ (fC a) (fC b) ∧ True := ⟨cellsP_flat (fC_flat _) (by rw [h]), trivial⟩
theorem twoR {b1 b2 b3 b4 b5 b6 : Bool} {G1 G2 F R H : Prop} (h8 : H → R) (hA : b1 = true → b2 = true ∧ b3 = true ∧ G1 ∧ b4 = true ∧ G2 ∧ b5 = true ∧ (b6 = true → F) ∧ (b6 = false → H)) (hB : b1 = false → H) :
    cond b1 (cond b2 (cond b3 (G1 ∧ cond b4 (G2 ∧ cond b5 (cond b6 F R) False) False) False) False) R := by
  cases b1 with
  | false => exact h8 (hB rfl)
  | true =>
    obtain ⟨rfl, rfl, g1, rfl, g2, rfl, f, h⟩ := hA rfl
    refine ⟨g1, g2, ?_⟩
    cases b6 with
    | true => exact f rfl
    | false => exact h8 (h rfl)
theorem cmp_lt0 {x y : Int} : ltI 0 (cmpv x y) = decide (y < x) := by
  rw [Bool.eq_iff_iff, ltI_t, decide_eq_true_eq]
  unfold cmpv
  split
  · omega
  · split <;> omega
set_option maxHeartbeats 4000000 in
theorem so_vc (l r : FL) (e : Nat) (ro : Bool) (c : Nat) (ex : Bool) (hl : l.length ≤ 1048576) (o : ok64 (l ++ r)) : vSo l r e ro c ex := by
  have ol : ok64 l := fun v hv => o v (List.mem_append_left _ hv)
  rw [vSo_eq]
  refine ⟨.inl ⟨(), trivial, ⟨F_ok _ _ _ _, trivial⟩, rfl, trivial, trivial⟩, fun _ _ => cond_intro (fun k => ?_) fun k => .inl ⟨(), ?_, ⟨F_ok _ _ _ _, trivial⟩, trivial, trivial⟩, fun x hx => cond_intro (fun k => ?_) fun k => .inr ⟨(), ?_, ?_, ?_, trivial⟩⟩
  · have k0 := k
    rw [ltI_t] at k
    have k : 0 < l.length := Int.ofNat_lt.1 k
    have leaf : ∀ L R : Prop, (∃ (y : Nat), (1 ≤ y ∧ y ≤ List.length l) ∧ List.length l - y < List.length l ∧ ((bif e.beq e && sameB ro ro then cellsP (fun (b : Nat) => [0, 3].getD b 4) (fC (l ++ r)) (fC (l ++ r)) ∧ True else False) ∧ (cellsP (fun (b : Nat) => [0, 3].getD b 4) (fC (isF l y)) [AV.float FloatKind.f64 (fk l 0)] ∧ True) ∧ True) ∧ 1 = ic y ∧ (0 = 0 ∧ 1 = y ∧ 1 = y ∧ false = false) ∧ True) := fun _ _ => ⟨1, ⟨Nat.le_refl _, k⟩, by omega, ⟨F_ok _ _ _ _, cellsR _ (show isF l 1 = [fk l 0] from rfl), trivial⟩, rfl, ⟨rfl, rfl, rfl, rfl⟩, trivial⟩
    refine need_intro k0 ⟨fC_get l r k, ?_⟩
    repeat' (first | exact trivial | exact rfl | exact .inr (leaf True True) | apply And.intro)
  · rw [ltI_f] at k
    have k : (l.length : Int) ≤ 0 := k
    exact List.length_eq_zero_iff.1 (by omega)
  · have k0 := k
    rw [ltI_t] at k
    have k : x < l.length := Int.ofNat_lt.1 k
    refine ⟨⟨x, ⟨Nat.le_refl _, rfl⟩, ⟨F_ok _ _ _ _, cellsR _ rfl, trivial⟩, rfl, trivial⟩, fun p hp => ?_⟩
    obtain ⟨hp, hq⟩ := hp
    have hs : (isF l x).length = x := isF_len2 l x
    refine twoR (H := posF (fk l x) (isF l x) x = p) (fun h8 => ?_) (fun h => ?_) (fun h => ?_)
    · have v1 : (x : Int) + 1 ≤ 9223372036854775807 := by omega
      have b0 : leI (ic x + 1) 9223372036854775807 = true := by rw [leI_t]; exact v1
      have E1 : ([] : List AV) ++ List.take (p * 1) (fC (isF l x)) = fC ((isF l x).take p) := by rw [List.nil_append, Nat.mul_one, fC_take]
      have E2 : List.take ((x - p) * 1) (List.drop (0 + p * 1) (fC (isF l x))) = fC ((isF l x).drop p) := by
        rw [Nat.mul_one, Nat.mul_one, Nat.zero_add, fC_drop, fC_take, List.take_of_length_le (by rw [List.length_drop]; omega)]
      have E3 : fC ((isF l x).take p) ++ [AV.float .f64 (fk l x)] = fC ((isF l x).take p ++ [fk l x]) := by rw [fC_one, fC_app2]
      have E4 : AV.float .f64 (fk l x) :: fC ((isF l x).drop p) = fC (fk l x :: (isF l x).drop p) := rfl
      have L1 : (fC (isF l x)).length = x := by rw [fC_len2, hs]
      have L2 : (fC ((isF l x).take p)).length = p := by rw [fC_len2, List.length_take, hs]; omega
      have L3 : (fC ((isF l x).take p ++ [fk l x])).length = p + 1 := by rw [fC_len2, List.length_append, List.length_take, hs]; show min p x + 1 = p + 1; omega
      have leaf : ∀ (σ : Nat → Nat) (E : FL) (n : Nat) (Lft : Prop), E = isF l (x + 1) → n = x + 1 → (Lft ∨ ∃ (y : Nat), (1 ≤ y ∧ y ≤ List.length l) ∧ List.length l - y < List.length l - x ∧ ((bif e.beq e && sameB ro ro then cellsP σ (fC (l ++ r)) (fC (l ++ r)) ∧ True else False) ∧ (cellsP σ (fC (isF l y)) (fC E) ∧ True) ∧ True) ∧ ic x + 1 = ic y ∧ (True ∧ n = y ∧ n = y ∧ True) ∧ True) :=
        fun σ E n _ hE hn => .inr ⟨x + 1, ⟨by omega, by omega⟩, by omega, ⟨F_ok _ _ _ _, cellsR _ hE.symm, trivial⟩, rfl, ⟨trivial, hn, hn, trivial⟩, trivial⟩
      have at1 := isF_at l x p h8
      have a1 : decide (x ≤ x) = true := decide_eq_true (Nat.le_refl _)
      have a2 : leI (ic p) (ic x) = true := by rw [leI_t]; show (p : Int) ≤ x; omega
      have a3 : decide (0 = x) = false := decide_eq_false (by omega)
      have a4 : decide (0 + p * 1 + (x - p) * 1 ≤ x) = true := decide_eq_true (by omega)
      have a5 : decide (0 + p * 1 ≤ x) = true := decide_eq_true (by omega)
      have a6 : decide (1 + (x - p) ≤ 9223372036854775807) = true := decide_eq_true (by omega)
      have a7 : decide ((1 + (x - p)) * 8 ≤ 140737488355328) = true := decide_eq_true (by omega)
      have a8 : decide (0 + p ≤ 9223372036854775807) = true := decide_eq_true (by omega)
      have a9 : decide ((0 + p) * 8 ≤ 140737488355328) = true := decide_eq_true (by omega)
      have a10 : decide (0 + p ≤ 0 + p) = true := decide_eq_true (Nat.le_refl _)
      have a11 : decide (0 + (0 + p) * 1 ≤ p) = true := decide_eq_true (by omega)
      have a12 : decide (0 + p + 1 ≤ 0 + p) = false := decide_eq_false (by omega)
      have a13 : decide (0 + p + 1 ≤ 9223372036854775807) = true := decide_eq_true (by omega)
      have a14 : decide ((0 + p + 1) * 8 ≤ 140737488355328) = true := decide_eq_true (by omega)
      have a15 : decide (0 + p = 0 + p) = true := decide_eq_true rfl
      have a16 : decide (0 + (0 + p) * 1 = p) = true := decide_eq_true (by omega)
      have a17 : decide (0 + p + 1 ≤ 0 + p + 1) = true := decide_eq_true (Nat.le_refl _)
      have a18 : decide (0 + (0 + p + 1) * 1 ≤ p + 1) = true := decide_eq_true (by omega)
      have a19 : decide (0 + p + 1 + (x - p) ≤ 9223372036854775807) = true := decide_eq_true (by omega)
      have a20 : decide ((0 + p + 1 + (x - p)) * 8 ≤ 140737488355328) = true := decide_eq_true (by omega)
      have a21 : decide (0 + p + 1 = 0 + p + 1) = true := decide_eq_true rfl
      have a22 : decide (0 + (0 + p + 1) * 1 = p + 1) = true := decide_eq_true (by omega)
      rcases (by omega : p = 0 ∨ (0 < p ∧ p < x) ∨ p = x) with c | c | c
      · have c1 : decide (p = 0) = true := decide_eq_true c
        have c2 : decide (p = x) = false := decide_eq_false (by omega)
        have c3 : decide (x - p = 0) = false := decide_eq_false (by omega)
        have c4 : decide (1 + (x - p) ≤ 1) = false := decide_eq_false (by omega)
        have key : fk l x :: (isF l x).drop p = isF l (x + 1) := by rw [at1, c]; rfl
        simp only [E1, E2, List.drop_zero, E3, E4, L1, L2, L3, fC_all, b0, k0, a1, a2, a3, a4, a5, a6, a7, a8, a9, a10, a11, a12, a13, a14, a15, a16, a17, a18, a19, a20, a21, a22, c1, c2, c3, c4, Bool.and_true, Bool.true_and, Bool.and_self, Bool.not_false, decide_true, cond_true, cond_false]
        refine ⟨fC_get l r k, ?_⟩
        repeat' (first | exact trivial | exact rfl | exact leaf _ _ _ _ key (by omega) | apply And.intro)
      · have c1 : decide (p = 0) = false := decide_eq_false (by omega)
        have c2 : decide (p = x) = false := decide_eq_false (by omega)
        have c3 : decide (x - p = 0) = false := decide_eq_false (by omega)
        have c5 : decide (0 + p ≤ 0) = false := decide_eq_false (by omega)
        have c6 : decide (0 + p + 1 + (x - p) ≤ 0 + p + 1) = false := decide_eq_false (by omega)
        have key : (isF l x).take p ++ [fk l x] ++ (isF l x).drop p = isF l (x + 1) := at1.symm
        simp only [E1, E2, List.drop_zero, E3, E4, L1, L2, L3, fC_all, fC_app2, b0, k0, a1, a2, a3, a4, a5, a6, a7, a8, a9, a10, a11, a12, a13, a14, a15, a16, a17, a18, a19, a20, a21, a22, c1, c2, c3, c5, c6, Bool.and_true, Bool.true_and, Bool.and_self, Bool.not_false, decide_true, cond_true, cond_false]
        refine ⟨fC_get l r k, ?_⟩
        repeat' (first | exact trivial | exact rfl | exact leaf _ _ _ _ key (by omega) | apply And.intro)
      · have c1 : decide (p = 0) = false := decide_eq_false (by omega)
        have c2 : decide (p = x) = true := decide_eq_true c
        have c3 : decide (x - p = 0) = true := decide_eq_true (by omega)
        have c5 : decide (0 + p ≤ 0) = false := decide_eq_false (by omega)
        have key : (isF l x).take p ++ [fk l x] = isF l (x + 1) := by
          rw [at1, List.drop_of_length_le (by omega), List.append_nil]
        simp only [E1, E2, List.drop_zero, E3, E4, L1, L2, L3, fC_all, fC_app2, b0, k0, a1, a2, a3, a4, a5, a6, a7, a8, a9, a10, a11, a12, a13, a14, a15, a16, a17, a18, a19, a20, a21, a22, c1, c2, c3, c5, Bool.and_true, Bool.true_and, Bool.and_self, Bool.not_false, decide_true, cond_true, cond_false]
        refine ⟨fC_get l r k, ?_⟩
        repeat' (first | exact trivial | exact rfl | exact leaf _ _ _ _ key (by omega) | apply And.intro)
    · rw [ltI_t] at h
      have h : 0 < p := by have h : (0 : Int) < (p : Int) := h; omega
      have e1 : (ic p - 1).toNat = p - 1 := by show ((p : Int) - 1).toNat = _; omega
      have e2 : posF (fk l x) (isF l x) p = cond (ltI (rk (fk l x)) (rk (fk (isF l x) (p - 1)))) (posF (fk l x) (isF l x) (p - 1)) p := by
        obtain ⟨q, rfl⟩ : ∃ q, p = q + 1 := ⟨p - 1, by omega⟩
        rfl
      have b1 : leI (-9223372036854775808) (ic p - 1) = true := by rw [leI_t]; show _ ≤ (p : Int) - 1; omega
      have b2 : leI (ic p - 1) 9223372036854775807 = true := by rw [leI_t]; show (p : Int) - 1 ≤ _; omega
      have b3 : leI 0 (ic p - 1) = true := by rw [leI_t]; show _ ≤ (p : Int) - 1; omega
      have b4 : ltI (ic p - 1) (ic x) = true := by rw [ltI_t]; show (p : Int) - 1 < (x : Int); omega
      rw [b1, b2, b3, b4, ok64_at (isF_ok2 ol x (by omega)) (show p - 1 < (isF l x).length by omega), ok64_at ol k, e1, cmp_lt0]
      refine ⟨rfl, rfl, ?_, k0, fC_get l r k, rfl, fun h => ⟨p - 1, ⟨by omega, ?_⟩, by omega, ⟨F_ok _ _ _ _, cellsR _ rfl, trivial⟩, ?_, trivial⟩, fun h => ?_⟩
      · have := fC_get (isF l x) [] (i := p - 1) (by omega)
        rwa [List.append_nil] at this
      · rw [hq, e2, (ltI_t _ _).mpr (of_decide_eq_true h)]; rfl
      · show (p : Int) - 1 = ((p - 1 : Nat) : Int); omega
      · rw [hq, e2, (ltI_f _ _).mpr (by have := of_decide_eq_false h; omega)]; rfl
    · rw [ltI_f] at h
      have h : (p : Int) ≤ 0 := h
      obtain rfl : p = 0 := by omega
      exact hq
  · intro h; subst h; simp at hx; omega
  · rw [ltI_f] at k
    have k : l.length ≤ x := Int.ofNat_le.1 k
    have e : x = l.length := by omega
    subst e
    exact ⟨F_ok _ _ _ _, cellsR _ rfl, trivial⟩
  · rw [ltI_f] at k
    have k : l.length ≤ x := Int.ofNat_le.1 k
    exact ⟨rfl, by omega, by omega, rfl⟩
theorem eRSo_ok : EntryOk Try.prog 33 eSo := eSo_of fun l r e ro c ex hl ho => SC.ofF (V := VCp) names0 mixed0 TCp_ok noO_ok (so_vc l r e ro c ex hl ho)
end Go.Proofs.Ytainjcpocodehaa

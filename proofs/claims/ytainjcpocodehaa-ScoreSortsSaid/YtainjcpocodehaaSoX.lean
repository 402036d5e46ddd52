/- The law ScoreSorts: what its walk asks is so. -/
import Derived.Test.YtainjcpocodehaaSoW
set_option linter.unusedSimpArgs false
set_option linter.unusedVariables false
namespace Go.Proofs.Ytainjcpocodehaa
open Go Go.Ve
set_option maxRecDepth 20000
theorem sF_len (l : FL) : (sF l).length = l.length := isF_len l l.length
theorem sF_perm (l : FL) : (sF l).Perm l := by
  have := isF_perm l l.length (Nat.le_refl _)
  rwa [List.take_length] at this
theorem asc_le {s : FL} (h : Asc s) {i j : Nat} (hij : i ≤ j) (hj : j < s.length) : rk (fk s i) ≤ rk (fk s j) := by
  rcases Nat.lt_or_ge i j with h1 | h1
  · rw [fk_get (by omega), fk_get hj]
    exact List.pairwise_iff_getElem.1 h i j (by omega) hj h1
  · have e : i = j := by omega
    subst e
    exact Int.le_refl _
theorem mem_fk {l : FL} {x : Nat} (h : x ∈ l) : ∃ i, i < l.length ∧ fk l i = x := by
  obtain ⟨i, hi, e⟩ := List.getElem_of_mem h
  exact ⟨i, hi, by rw [fk_get hi]; exact e⟩
theorem fk_mem {l : FL} {i : Nat} (h : i < l.length) : fk l i ∈ l := by rw [fk_get h]; exact List.getElem_mem h
theorem bI_lt (g : Bool) {l : FL} (h : 0 < l.length) : bI g l < l.length := bi_lt g l h
theorem best_le {l : FL} {x : Nat} (hx : x ∈ l) : rk (fk l (bI false l)) ≤ rk x := by
  obtain ⟨j, hj, rfl⟩ := mem_fk hx
  have h : ltI (rk (fk l j)) (rk (fk l (bi false l l.length))) = false := (bi_first false l l.length j hj).2
  rw [ltI_f] at h
  exact h
theorem best_ge {l : FL} {x : Nat} (hx : x ∈ l) : rk x ≤ rk (fk l (bI true l)) := by
  obtain ⟨j, hj, rfl⟩ := mem_fk hx
  have h : ltI (rk (fk l (bi true l l.length))) (rk (fk l j)) = false := (bi_first true l l.length j hj).2
  rw [ltI_f] at h
  exact h
theorem first_le {l : FL} {j : Nat} (hn : 0 < l.length) (h : j < bI false l) : leI (cmpv (rk (fk l j)) (rk (fk l (bI false l)))) 0 = false := by
  have h2 : ltI (rk (fk l (bi false l l.length))) (rk (fk l j)) = true := (bi_first false l l.length j (Nat.lt_trans h (bI_lt false hn))).1 h
  rw [ltI_t] at h2
  have h2 : rk (fk l (bI false l)) < rk (fk l j) := h2
  rw [leI_f]
  unfold cmpv
  rw [if_neg (by omega), if_pos h2]; decide
theorem first_ge {l : FL} {j : Nat} (hn : 0 < l.length) (h : j < bI true l) : leI 0 (cmpv (rk (fk l j)) (rk (fk l (bI true l)))) = false := by
  have h2 : ltI (rk (fk l j)) (rk (fk l (bi true l l.length))) = true := (bi_first true l l.length j (Nat.lt_trans h (bI_lt true hn))).1 h
  rw [ltI_t] at h2
  have h2 : rk (fk l j) < rk (fk l (bI true l)) := h2
  rw [leI_f]
  unfold cmpv
  rw [if_pos h2]; decide
theorem least_eq {l : FL} (hn : 0 < l.length) : rk (fk l (bI false l)) = rk (fk (sF l) 0) := by
  have h1 := best_le ((sF_perm l).mem_iff.1 (fk_mem (show 0 < (sF l).length by rw [sF_len]; exact hn)))
  obtain ⟨k, hk, e⟩ := mem_fk ((sF_perm l).mem_iff.2 (fk_mem (bI_lt false hn)))
  have h2 := asc_le (isF_asc l l.length) (Nat.zero_le k) hk
  have h2 : rk (fk (sF l) 0) ≤ rk (fk (sF l) k) := h2
  rw [e] at h2
  omega
theorem most_eq {l : FL} (hn : 0 < l.length) : rk (fk l (bI true l)) = rk (fk (sF l) (l.length - 1)) := by
  have h1 := best_ge ((sF_perm l).mem_iff.1 (fk_mem (show l.length - 1 < (sF l).length by rw [sF_len]; omega)))
  obtain ⟨k, hk, e⟩ := mem_fk ((sF_perm l).mem_iff.2 (fk_mem (bI_lt true hn)))
  have h2 := asc_le (isF_asc l l.length) (i := k) (j := l.length - 1) (by have : k < (sF l).length := hk; rw [sF_len] at this; omega) (by rw [isF_len]; omega)
  have h2 : rk (fk (sF l) k) ≤ rk (fk (sF l) (l.length - 1)) := h2
  rw [e] at h2
  omega
theorem cellsR (σ : Nat → Nat) {a b : FL} (h : a = b) : cellsP σ (fC a) (fC b) ∧ True := ⟨cellsP_flat (fC_flat _) (by rw [h]), trivial⟩
theorem entsR (σ : Nat → Nat) {a b : UP} (h : a = b) : entsP σ (umap a) (umap b) ∧ True := by
  refine ⟨entsP_flat ?_ (by rw [h]), trivial⟩
  rw [List.all_eq_true]
  intro p hp
  obtain ⟨q, _, rfl⟩ := List.mem_map.1 hp
  rfl
theorem fC_get0 (l : FL) {i : Nat} (h : i < l.length) : (fC l)[0 + i * 1]? = some (.float .f64 (fk l i)) := by
  have := fC_get l [] h
  rwa [List.append_nil] at this
theorem cmp_gt0 {x y : Int} (h : ltI 0 (cmpv x y) = true) : y < x := by
  rw [ltI_t] at h
  unfold cmpv at h
  split at h
  · omega
  · split at h <;> omega
theorem ic_lt {a b : Nat} (h : a < b) : ltI (ic a) (ic b) = true := by rw [ltI_t]; exact Int.ofNat_lt.2 h
theorem eqI_f'' {n : Nat} (h : 0 < n) : eqI (ic n) 0 = false := by rw [eqI_f]; show ¬ (n : Int) = 0; omega
theorem leI_no {a b : Nat} (h : b < a) : leI (ic a) (ic b) = false := by rw [leI_f]; exact Int.ofNat_lt.2 h
set_option maxHeartbeats 4000000 in
theorem ss_vc (l r : FL) (e : Nat) (ro : Bool) (c : Nat) (ex : Bool) (hn : 0 < l.length) (o : ok64 (l ++ r)) : vSS l r e ro c ex := by
  have ol : ok64 l := fun v hv => o v (List.mem_append_left _ hv)
  have os : ok64 (sF l) := isF_ok ol l.length (Nat.le_refl _)
  have tk : List.take l.length (getF (fC (l ++ r))) = l := by rw [getF_fC, List.take_left]
  have tk2 : List.take l.length (getF (fC l)) = l := by rw [getF_fC, List.take_length]
  rw [vSS_eq, tk, tk2]
  refine cond_intro (fun _ => ⟨(), trivial, ⟨F_ok _ _ _ _, trivial⟩, rfl, trivial⟩) fun hl => ?_
  rw [not_f, leI_t] at hl
  have hl : l.length ≤ 60 := by have hl : (l.length : Int) ≤ 60 := hl; omega
  have L1 : (fC (l ++ r)).length = l.length + r.length := by rw [fC_len, List.length_append]
  have rf : RF (fC (l ++ r)) l.length := ⟨by rw [getF_fC], by rw [getF_fC, List.length_append]; omega, by omega, by rw [getF_fC]; exact o⟩
  have rg : RF (fC l) l.length := ⟨by rw [getF_fC], by rw [getF_fC]; exact Nat.le_refl _, by omega, by rw [getF_fC]; exact ol⟩
  have b1 : decide (0 + l.length * 1 ≤ (fC (l ++ r)).length) = true := decide_eq_true (by rw [L1]; omega)
  have b2 : decide (l.length = 0) = false := decide_eq_false (by omega)
  have b3 : decide (0 + l.length ≤ 0) = false := decide_eq_false (by omega)
  have b4 : (decide (0 + l.length ≤ 9223372036854775807) && decide ((0 + l.length) * 8 ≤ 140737488355328)) = true := by rw [decide_eq_true (by omega), decide_eq_true (by omega)]; rfl
  have b5 : Nat.beq l.length 0 = false := by
    cases h : l.length with
    | zero => omega
    | succ n => rfl
  have v60 : ∀ x : Nat, x < l.length → leI (ic x + 1) 9223372036854775807 = true := fun x hx => by rw [leI_t]; show (x : Int) + 1 ≤ _; omega
  rw [b1, b2, b3, b4, b5]
  refine ⟨⟨(), trivial, ⟨F_ok _ _ _ _, trivial, ⟨cellsP_flat (fC_flat _) ?_, trivial⟩, trivial⟩, ⟨rfl, by omega, by omega, rfl⟩, trivial⟩, fun _ _ => ⟨rf, ?_⟩⟩
  · rw [List.nil_append, List.drop_zero, Nat.mul_one]
    unfold fC
    rw [← List.map_take, List.take_left]
  rw [eqI_self]
  refine ⟨⟨rf, rg⟩, ?_⟩
  rw [decide_eq_true (show l = l from rfl)]
  refine ⟨⟨0, Nat.zero_le _, ⟨F_ok _ _ _ _, trivial, cellsR _ rfl, cellsR _ rfl, entsR _ rfl, trivial⟩, rfl, trivial⟩, fun x hx => cond_intro (fun k => ?_) fun k => ?_⟩
  · have k0 := k
    rw [ltI_t] at k
    have k : x < l.length := Int.ofNat_lt.1 k
    have ks : x < (sF l).length := by rw [sF_len]; exact k
    have U1 : putK (AV.int .u64 (ic (fk l x))) (AV.int .i64 (valK (AV.int .u64 (ic (fk l x))) (umap (mm l (sF l) x)) + 1)) (umap (mm l (sF l) x)) = umap (u1 l x (mm l (sF l) x)) := by rw [val_uget, put_uput]; rfl
    have U2 : putK (AV.int .u64 (ic (fk (sF l) x))) (AV.int .i64 (valK (AV.int .u64 (ic (fk (sF l) x))) (umap (u1 l x (mm l (sF l) x))) - 1)) (umap (u1 l x (mm l (sF l) x))) = umap (mm l (sF l) (x + 1)) := by rw [val_uget, put_uput]; rfl
    have B1 := mm_bd l (sF l) (sF_len l) (fk l x) x hx
    have B2 := u1_bd l (sF l) (sF_len l) (fk (sF l) x) x hx
    rw [U1, U2]
    have V1 : valK (AV.int .u64 (ic (fk l x))) (umap (mm l (sF l) x)) = uval (fk l x) (mm l (sF l) x) := val_uget _ _
    have V2 : valK (AV.int .u64 (ic (fk (sF l) x))) (umap (u1 l x (mm l (sF l) x))) = uval (fk (sF l) x) (u1 l x (mm l (sF l) x)) := val_uget _ _
    rw [V1, V2]
    have fin : ∃ (y : Nat), y ≤ List.length l ∧ List.length l - y < List.length l - x ∧ ((bif e.beq e && sameB ro ro then cellsP (fun (b : Nat) => [0, 1, 2, 3, 4].getD b 5) (fC (l ++ r)) (fC (l ++ r)) ∧ True else False) ∧ True ∧ (cellsP (fun (b : Nat) => [0, 1, 2, 3, 4].getD b 5) (fC l) (fC l) ∧ True) ∧
        (cellsP (fun (b : Nat) => [0, 1, 2, 3, 4].getD b 5) (fC (sF l)) (fC (sF l)) ∧ True) ∧ (entsP (fun (b : Nat) => [0, 1, 2, 3, 4].getD b 5) (umap (mm l (sF l) y)) (umap (mm l (sF l) (x + 1))) ∧ True) ∧ True) ∧ ic x + 1 = ic y ∧ True :=
      ⟨x + 1, k, by omega, ⟨F_ok _ _ _ _, trivial, cellsR _ rfl, cellsR _ rfl, entsR _ rfl, trivial⟩, rfl, trivial⟩
    refine need_intro k0 ⟨fC_get l r k, umap_keys _ _, umap_ints _, rfl, need_intro ?_ ⟨umap_keys _ _, need_intro k0 ⟨fC_get0 (sF l) ks, umap_keys _ _, umap_ints _, rfl, need_intro ?_ ⟨umap_keys _ _, cond_intro (fun p => need_intro ?_ (need_intro ?_ ⟨?_, need_intro k0 ⟨fC_get0 (sF l) ks, need_intro ?_ (cond_intro (fun bad => ?_) fun _ => need_intro (v60 x k) fin)⟩⟩)) fun p => need_intro (v60 x k) fin⟩⟩⟩⟩
    · rw [and_t, leI_t, leI_t]; omega
    · rw [and_t, leI_t, leI_t]; omega
    · rw [and_t, leI_t, leI_t]; show _ ≤ (x : Int) - 1 ∧ (x : Int) - 1 ≤ _; omega
    · rw [ltI_t] at p
      have p : (0 : Int) < (x : Int) := p
      rw [and_t, leI_t, ltI_t]; show _ ≤ (x : Int) - 1 ∧ (x : Int) - 1 < (l.length : Int); omega
    · rw [ltI_t] at p
      have p : (0 : Int) < (x : Int) := p
      have e1 : (ic x - 1).toNat = x - 1 := by show ((x : Int) - 1).toNat = _; omega
      rw [e1]
      exact fC_get0 (sF l) (by omega)
    · rw [and_t]; exact ⟨ok64_at os (by omega), ok64_at os ks⟩
    · have h1 := asc_le (isF_asc l l.length) (show x - 1 ≤ x by omega) (show x < (isF l l.length).length by rw [isF_len]; exact k)
      have h1 : rk (fk (sF l) (x - 1)) ≤ rk (fk (sF l) x) := h1
      have h2 := cmp_gt0 bad
      omega
  · rw [ltI_f] at k
    have k : l.length ≤ x := Int.ofNat_le.1 k
    obtain rfl : x = l.length := by omega
    have lf := bI_lt false hn
    have lt := bI_lt true hn
    refine ⟨fun p hp => ?_, ⟨fun a b hm => ?_, ?_⟩⟩
    · obtain ⟨q, _, rfl⟩ := List.mem_map.1 hp
      exact ⟨_, _, rfl, rfl⟩
    · have := mm_zero (sF_perm l) hm
      subst this
      exact ⟨rfl, trivial⟩
    rw [eqI_f'' hn]
    refine ⟨⟨rf, hn⟩, ⟨rf, hn⟩, ?_⟩
    rw [leI_no lf, leI_no lt]
    refine ⟨⟨0, Nat.zero_le _, ⟨F_ok _ _ _ _, trivial, cellsR _ rfl, cellsR _ rfl, entsR _ rfl, trivial, trivial⟩, rfl, trivial⟩, fun j hj => cond_intro (fun k => ?_) fun k => ⟨⟨0, Nat.zero_le _, ⟨F_ok _ _ _ _, trivial, cellsR _ rfl, cellsR _ rfl, entsR _ rfl, trivial, trivial⟩, rfl, trivial⟩, fun j2 hj2 => cond_intro (fun k2 => ?_) fun k2 => ?_⟩⟩
    · rw [ltI_t] at k
      have k : j < bI false l := Int.ofNat_lt.1 k
      refine need_intro (ic_lt (by omega)) ⟨fC_get l r (by omega), need_intro (ic_lt lf) ⟨fC_get l r lf, need_intro (by rw [and_t]; exact ⟨ok64_at ol (by omega), ok64_at ol lf⟩) ?_⟩⟩
      rw [first_le hn k]
      exact need_intro (v60 j (by omega)) ⟨j + 1, k, by omega, ⟨F_ok _ _ _ _, trivial, cellsR _ rfl, cellsR _ rfl, entsR _ rfl, trivial, trivial⟩, rfl, trivial⟩
    · rw [ltI_t] at k2
      have k2 : j2 < bI true l := Int.ofNat_lt.1 k2
      refine need_intro (ic_lt (by omega)) ⟨fC_get l r (by omega), need_intro (ic_lt lt) ⟨fC_get l r lt, need_intro (by rw [and_t]; exact ⟨ok64_at ol (by omega), ok64_at ol lt⟩) ?_⟩⟩
      rw [first_ge hn k2]
      exact need_intro (v60 j2 (by omega)) ⟨j2 + 1, k2, by omega, ⟨F_ok _ _ _ _, trivial, cellsR _ rfl, cellsR _ rfl, entsR _ rfl, trivial, trivial⟩, rfl, trivial⟩
    · have e1 : (ic l.length - 1).toNat = l.length - 1 := by show ((l.length : Int) - 1).toNat = _; omega
      have hs0 : 0 < (sF l).length := by rw [sF_len]; exact hn
      have hs1 : l.length - 1 < (sF l).length := by rw [sF_len]; omega
      refine need_intro (ic_lt lf) ⟨fC_get l r lf, need_intro (ic_lt hn) ⟨fC_get0 (sF l) hs0, need_intro (by rw [and_t]; exact ⟨ok64_at ol lf, ok64_at os hs0⟩) ?_⟩⟩
      rw [cmp_zero.2 (least_eq hn)]
      refine need_intro (ic_lt lt) ⟨fC_get l r lt, need_intro (by rw [and_t, leI_t, leI_t]; show _ ≤ (l.length : Int) - 1 ∧ (l.length : Int) - 1 ≤ _; omega) (need_intro (by rw [and_t, leI_t, ltI_t]; show _ ≤ (l.length : Int) - 1 ∧ (l.length : Int) - 1 < (l.length : Int); omega) ⟨?_, need_intro (by rw [and_t]; exact ⟨ok64_at ol lt, ok64_at os hs1⟩) ⟨(), trivial, ⟨F_ok _ _ _ _, trivial⟩, cmp_zero.2 (most_eq hn), trivial⟩⟩)⟩
      rw [e1]
      exact fC_get0 (sF l) hs1
end Go.Proofs.Ytainjcpocodehaa

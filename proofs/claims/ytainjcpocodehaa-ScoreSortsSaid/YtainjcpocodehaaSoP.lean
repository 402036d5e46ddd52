/- The law ScoreSorts: the counts and the order, with no program in sight. -/
import Derived.Test.YtainjcpocodehaaScQ
set_option linter.unusedSimpArgs false
set_option linter.unusedVariables false
namespace Go.Proofs.Ytainjcpocodehaa
open Go Go.Ve
set_option maxRecDepth 20000
/-- How often a number is there, told by its bits. -/
abbrev UP := List (Int × Int)
def umap (m : UP) : List (AV × AV) := m.map fun p => (.int .u64 p.1, .int .i64 p.2)
def uget (n : Int) : UP → Option Int
  | [] => none
  | p :: r => if p.1 = n then some p.2 else uget n r
def uput (n v : Int) : UP → UP
  | [] => [(n, v)]
  | p :: r => if p.1 = n then (n, v) :: r else p :: uput n v r
def uval (n : Int) (m : UP) : Int := (uget n m).getD 0
theorem umap_keys (m : UP) (n : Int) : keysK (.int .u64 n) (umap m) := by
  intro e he
  obtain ⟨p, _, rfl⟩ := List.mem_map.1 he
  rfl
theorem umap_ints (m : UP) : intsK .i64 (umap m) := by
  intro e he
  obtain ⟨p, _, rfl⟩ := List.mem_map.1 he
  exact ⟨_, rfl⟩
theorem findK_sh (k : AV) : ∀ (es : List (AV × AV)) (i : Nat), findK k es (i + 1) = (findK k es i).map fun r => (r.1 + 1, r.2)
  | [], _ => rfl
  | e :: es, i => by
    simp only [findK]
    cases eqK k e.1 with
    | true => rfl
    | false => exact findK_sh k es (i + 1)
theorem eqK_u (a b : Int) : eqK (.int .u64 a) (.int .u64 b) = decide (a = b) := rfl
theorem umap_cons (p : Int × Int) (r : UP) : umap (p :: r) = (.int .u64 p.1, .int .i64 p.2) :: umap r := rfl
theorem find_uget (n : Int) : ∀ m : UP, (findK (.int .u64 n) (umap m) 0).map (·.2) = (uget n m).map (.int .i64)
  | [] => rfl
  | p :: r => by
    rw [umap_cons]
    simp only [findK, eqK_u, uget]
    by_cases h : n = p.1
    · rw [decide_eq_true h, if_pos h.symm]; rfl
    · rw [decide_eq_false h, if_neg (Ne.symm h)]
      simp only [cond_false]
      rw [findK_sh, Option.map_map, ← find_uget n r]
      cases findK (.int .u64 n) (umap r) 0 <;> rfl
theorem val_uget (n : Int) (m : UP) : valK (.int .u64 n) (umap m) = uval n m := by
  have := find_uget n m
  unfold valK uval
  cases hf : findK (.int .u64 n) (umap m) 0 with
  | none =>
    cases hg : uget n m
    · rfl
    · rw [hf, hg] at this; cases this
  | some r =>
    cases hg : uget n m with
    | none => rw [hf, hg] at this; cases this
    | some v =>
      rw [hf, hg] at this
      obtain ⟨i, a⟩ := r
      have e : a = .int .i64 v := Option.some.inj this
      subst e; rfl
theorem put_uput (n v : Int) : ∀ m : UP, putK (.int .u64 n) (.int .i64 v) (umap m) = umap (uput n v m)
  | [] => rfl
  | p :: r => by
    have ih := put_uput n v r
    unfold putK at ih ⊢
    rw [umap_cons]
    simp only [findK, eqK_u, uput]
    by_cases h : n = p.1
    · rw [decide_eq_true h, if_pos h.symm]; rfl
    · rw [decide_eq_false h, if_neg (Ne.symm h)]
      simp only [cond_false]
      rw [findK_sh, umap_cons, ← ih]
      cases findK (.int .u64 n) (umap r) 0 <;> rfl
theorem uval_put (n v k : Int) : ∀ m : UP, uval k (uput n v m) = if k = n then v else uval k m
  | [] => by
    unfold uval uput uget uget
    by_cases h : n = k
    · rw [if_pos h, if_pos h.symm]; rfl
    · rw [if_neg h, if_neg (Ne.symm h)]
  | p :: r => by
    have ih := uval_put n v k r
    unfold uval at ih ⊢
    unfold uput
    by_cases h : p.1 = n
    · rw [if_pos h]
      unfold uget
      by_cases hk : n = k
      · rw [if_pos hk, if_pos hk.symm]; rfl
      · rw [if_neg hk, if_neg (Ne.symm hk), if_neg (by rw [h]; exact hk)]
    · rw [if_neg h]
      unfold uget
      by_cases hk : p.1 = k
      · rw [if_pos hk, if_pos hk, if_neg (fun e => h (hk.trans e))]
      · rw [if_neg hk, if_neg hk]; exact ih
/-- Each key once: what stands there is what is found. -/
def Uq (m : UP) : Prop := (m.map (·.1)).Nodup
theorem uput_keys (n v : Int) : ∀ m : UP, ∀ k, k ∈ (uput n v m).map (·.1) → k = n ∨ k ∈ m.map (·.1)
  | [], k, h => by
    unfold uput at h
    simp only [List.map_cons, List.map_nil, List.mem_singleton] at h
    exact .inl h
  | p :: r, k, h => by
    unfold uput at h
    by_cases hp : p.1 = n
    · rw [if_pos hp, List.map_cons, List.mem_cons] at h
      rcases h with h | h
      · exact .inl h
      · exact .inr (by rw [List.map_cons]; exact List.mem_cons_of_mem _ h)
    · rw [if_neg hp, List.map_cons, List.mem_cons] at h
      rw [List.map_cons, List.mem_cons]
      rcases h with h | h
      · exact .inr (.inl h)
      · rcases uput_keys n v r k h with h | h
        · exact .inl h
        · exact .inr (.inr h)
theorem uput_uq {n v : Int} : ∀ {m : UP}, Uq m → Uq (uput n v m)
  | [], _ => by unfold Uq uput; simp
  | p :: r, h => by
    have h' : p.1 ∉ r.map (·.1) ∧ (r.map (·.1)).Nodup := List.nodup_cons.1 h
    unfold Uq uput
    by_cases hp : p.1 = n
    · rw [if_pos hp, List.map_cons, List.nodup_cons]
      exact ⟨hp ▸ h'.1, h'.2⟩
    · rw [if_neg hp, List.map_cons, List.nodup_cons]
      refine ⟨fun hk => ?_, uput_uq h'.2⟩
      rcases uput_keys n v r _ hk with hk | hk
      · exact hp hk
      · exact h'.1 hk
theorem uq_val : ∀ {m : UP}, Uq m → ∀ p ∈ m, p.2 = uval p.1 m
  | q :: r, h, p, hp => by
    have h' : q.1 ∉ r.map (·.1) ∧ (r.map (·.1)).Nodup := List.nodup_cons.1 h
    unfold uval uget
    rcases List.mem_cons.1 hp with rfl | hp
    · rw [if_pos rfl]; rfl
    · rw [if_neg (fun e : q.1 = p.1 => h'.1 (e ▸ List.mem_map.2 ⟨p, hp, rfl⟩))]
      exact uq_val h'.2 p hp
/-- The counts after so many rounds: one more for l's, one less for s's. -/
def u1 (l : FL) (i : Nat) (m : UP) : UP := uput (fk l i) (uval (fk l i) m + 1) m
def u2 (s : FL) (i : Nat) (m : UP) : UP := uput (fk s i) (uval (fk s i) m - 1) m
def mm (l s : FL) : Nat → UP
  | 0 => []
  | i + 1 => u2 s i (u1 l i (mm l s i))
theorem mm_uq (l s : FL) : ∀ i, Uq (mm l s i)
  | 0 => List.nodup_nil
  | i + 1 => uput_uq (uput_uq (mm_uq l s i))
def cn (b : Int) (l : FL) : Int := (l.countP fun x : Nat => decide ((x : Int) = b) : Nat)
theorem cn_take {l : FL} {i : Nat} (h : i < l.length) (b : Int) : cn b (l.take (i + 1)) = cn b (l.take i) + (if b = fk l i then 1 else 0) := by
  unfold cn
  rw [take_succF h, List.countP_append]
  by_cases hb : b = fk l i
  · rw [if_pos hb]; simp [hb]
  · rw [if_neg hb]
    have : decide (((fk l i : Nat) : Int) = b) = false := decide_eq_false (Ne.symm hb)
    simp [this]
theorem mm_val (l s : FL) (hs : s.length = l.length) (b : Int) : ∀ i, i ≤ l.length → uval b (mm l s i) = cn b (l.take i) - cn b (s.take i)
  | 0, _ => rfl
  | i + 1, h => by
    show uval b (u2 s i (u1 l i (mm l s i))) = _
    unfold u2
    rw [uval_put]
    have e1 : ∀ k, uval k (u1 l i (mm l s i)) = if k = fk l i then uval (fk l i) (mm l s i) + 1 else uval k (mm l s i) := fun k => by unfold u1; rw [uval_put]
    rw [cn_take (by omega), cn_take (by omega), e1, e1, mm_val l s hs _ i (by omega), mm_val l s hs _ i (by omega), mm_val l s hs _ i (by omega)]
    by_cases h1 : b = fk s i
    · subst h1
      by_cases h2 : ((fk s i : Nat) : Int) = fk l i
      · rw [if_pos rfl, if_pos h2, if_pos h2, if_pos rfl, h2]; omega
      · rw [if_pos rfl, if_neg h2, if_neg h2, if_pos rfl]; omega
    · by_cases h2 : b = fk l i
      · subst h2
        rw [if_neg h1, if_pos rfl, if_pos rfl, if_neg h1]; omega
      · rw [if_neg h1, if_neg h2, if_neg h2, if_neg h1]; omega
theorem mm_zero {l s : FL} (h : s.Perm l) {x y : Int} (hm : (AV.int .u64 x, AV.int .i64 y) ∈ umap (mm l s l.length)) : y = 0 := by
  obtain ⟨p, hp, e⟩ := List.mem_map.1 hm
  have e1 : p.1 = x := by injection e with e1 e2; injection e1
  have e2 : p.2 = y := by injection e with e1 e2; injection e2
  rw [← e2, uq_val (mm_uq l s _) p hp, mm_val l s h.length_eq _ _ (Nat.le_refl _), List.take_length, ← h.length_eq, List.take_length]
  unfold cn
  rw [h.countP_eq]
  omega
theorem mm_bd (l s : FL) (hs : s.length = l.length) (b : Int) (i : Nat) (h : i ≤ l.length) : -(i : Int) ≤ uval b (mm l s i) ∧ uval b (mm l s i) ≤ i := by
  rw [mm_val l s hs b i h]
  unfold cn
  have h1 := List.countP_le_length (p := fun x : Nat => decide ((x : Int) = b)) (l := l.take i)
  have h2 := List.countP_le_length (p := fun x : Nat => decide ((x : Int) = b)) (l := s.take i)
  rw [List.length_take] at h1 h2
  omega
theorem u1_bd (l s : FL) (hs : s.length = l.length) (b : Int) (i : Nat) (h : i ≤ l.length) : -(i : Int) ≤ uval b (u1 l i (mm l s i)) ∧ uval b (u1 l i (mm l s i)) ≤ i + 1 := by
  have e1 : uval b (u1 l i (mm l s i)) = if b = fk l i then uval (fk l i) (mm l s i) + 1 else uval b (mm l s i) := by unfold u1; rw [uval_put]
  have h1 := mm_bd l s hs b i h
  have h2 := mm_bd l s hs (fk l i) i h
  rw [e1]
  split <;> omega

/-! ### The first of the least, and of the greatest -/
theorem bi_first (g : Bool) (l : FL) : ∀ i j, j < i → (j < bi g l i → nearer g l (bi g l i) j = true) ∧ nearer g l j (bi g l i) = false
  | i + 1, j, h => by
    have hb : bi g l (i + 1) = cond (nearer g l i (bi g l i)) i (bi g l i) := rfl
    cases hn : nearer g l i (bi g l i) with
    | true =>
      rw [hb, hn]
      simp only [cond_true]
      have hgen : ∀ j, j < i → nearer g l i j = true := fun j hj => by
        obtain ⟨_, h2⟩ := bi_first g l i j hj
        cases g
        · have h2 : ltI (rk (fk l j)) (rk (fk l (bi false l i))) = false := h2
          have hn : ltI (rk (fk l i)) (rk (fk l (bi false l i))) = true := hn
          show ltI (rk (fk l i)) (rk (fk l j)) = true
          rw [ltI_t] at *
          rw [ltI_f] at h2
          omega
        · have h2 : ltI (rk (fk l (bi true l i))) (rk (fk l j)) = false := h2
          have hn : ltI (rk (fk l (bi true l i))) (rk (fk l i)) = true := hn
          show ltI (rk (fk l j)) (rk (fk l i)) = true
          rw [ltI_t] at *
          rw [ltI_f] at h2
          omega
      rcases Nat.lt_or_ge j i with hj | hj
      · refine ⟨fun _ => hgen j hj, ?_⟩
        have := hgen j hj
        cases g
        · have this : ltI (rk (fk l i)) (rk (fk l j)) = true := this
          show ltI (rk (fk l j)) (rk (fk l i)) = false
          rw [ltI_t] at this; rw [ltI_f]; omega
        · have this : ltI (rk (fk l j)) (rk (fk l i)) = true := this
          show ltI (rk (fk l i)) (rk (fk l j)) = false
          rw [ltI_t] at this; rw [ltI_f]; omega
      · have e : j = i := by omega
        subst e
        refine ⟨fun h => absurd h (Nat.lt_irrefl _), ?_⟩
        cases g
        · show ltI _ _ = false
          rw [ltI_f]; exact Int.le_refl _
        · show ltI _ _ = false
          rw [ltI_f]; exact Int.le_refl _
    | false =>
      rw [hb, hn]
      simp only [cond_false]
      rcases Nat.lt_or_ge j i with hj | hj
      · exact bi_first g l i j hj
      · have e : j = i := by omega
        subst e
        refine ⟨fun h => ?_, hn⟩
        rcases Nat.eq_zero_or_pos j with h0 | h0
        · subst h0; exact absurd h (Nat.not_lt_zero _)
        · have := bi_lt g l h0; omega
end Go.Proofs.Ytainjcpocodehaa

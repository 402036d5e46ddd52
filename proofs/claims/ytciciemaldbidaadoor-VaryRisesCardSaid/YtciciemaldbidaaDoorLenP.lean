/- Numbers in digits, apart and together: what framing.Length makes of them (plain law). -/
import Derived.Test.YtciciemaldbidaaDoorFr2
set_option linter.unusedSimpArgs false
set_option linter.unusedVariables false
namespace Go.Proofs.YtciciemaldbidaaDoor
open Go Go.Ve
set_option maxRecDepth 20000
theorem byte_mid {s pre post : List UInt8} {c : UInt8} (hs : s = pre ++ c :: post) : pre.length < s.length ∧ byteAt s pre.length = c.toNat := by
  subst hs
  refine ⟨by simp, ?_⟩
  rw [byteAt_get _ _ (by simp)]
  simp
theorem seg_step {s : List UInt8} {post : List UInt8} {q : Bool} {fm : Nat} {acc : LL} : ∀ {seg pre : List UInt8}, s = pre ++ seg ++ post → (∀ c ∈ seg, c.toNat ≠ 34 ∧ (q = true → c.toNat ≠ 92) ∧ (q = false → c.toNat ≠ 44)) → splitF s pre.length fm q acc = splitF s (pre.length + seg.length) fm q acc
  | [], pre, _, _ => rfl
  | c :: seg, pre, hs, hc => by
    obtain ⟨h1, h2, h3⟩ := hc c (by simp)
    obtain ⟨g1, g2⟩ := byte_mid (s := s) (pre := pre) (c := c) (post := seg ++ post) (by rw [hs]; simp)
    have ih := seg_step (s := s) (post := post) (q := q) (fm := fm) (acc := acc) (seg := seg) (pre := pre ++ [c]) (by rw [hs]; simp) fun x hx => hc x (by simp [hx])
    rw [splitF_in g1, g2, if_neg (fun h => h2 h.1 (by omega)), if_neg (by omega), if_neg (fun h => h3 h.2 (by omega))]
    simp only [List.length_append, List.length_cons, List.length_nil] at ih ⊢
    rw [show pre.length + (seg.length + 1) = pre.length + 1 + seg.length by omega]
    exact ih
theorem comma_step {s pre post : List UInt8} {fm : Nat} {acc : LL} (hs : s = pre ++ 44 :: post) : splitF s pre.length fm false acc = splitF s (pre.length + 1) (pre.length + 1) false (putF s fm pre.length acc) := by
  obtain ⟨g1, g2⟩ := byte_mid hs
  have g3 : byteAt s pre.length = 44 := g2
  rw [splitF_in g1, g3, if_neg (by omega), if_neg (by omega), if_pos ⟨rfl, rfl⟩]
theorem trim_mid {a b x : List UInt8} (ha : ∀ c ∈ a, c = 32) (hb : ∀ c ∈ b, c = 32) {c d : UInt8} {y z : List UInt8} (hx : x = c :: y) (hz : x = z ++ [d]) (hc : memB white c.toNat = false) (hd : memB white d.toNat = false) : trimW (a ++ x ++ b) = x := by
  have hw : memB white (32 : UInt8).toNat = true := by decide
  have e0 : ∀ (b u : List UInt8), (∀ c ∈ b, c = 32) → tr (memB white) (u ++ z ++ [d] ++ b.reverse) = u ++ z ++ [d] := by
    intro b u hb
    induction b with
    | nil => rw [List.reverse_nil, List.append_nil, tr_snoc, if_neg (by rw [hd]; decide)]
    | cons k b ih =>
      have hk : k = 32 := hb k (by simp)
      rw [List.reverse_cons, ← List.append_assoc, tr_snoc, hk, if_pos hw]
      exact ih fun c hc => hb c (by simp [hc])
  have e1 : ∀ (b u : List UInt8), (∀ c ∈ b, c = 32) → tr (memB white) (u ++ z ++ [d] ++ b) = u ++ z ++ [d] := by
    intro b u hb
    have := e0 b.reverse u fun c hc => hb c (by simpa using hc)
    rwa [List.reverse_reverse] at this
  have e2 : ∀ a : List UInt8, (∀ c ∈ a, c = 32) → tl (memB white) (a ++ x) = x := by
    intro a ha
    induction a with
    | nil => rw [List.nil_append, hx, tl_cons, if_neg (by rw [hc]; decide)]
    | cons k a ih =>
      have hk : k = 32 := ha k (by simp)
      rw [List.cons_append, tl_cons, hk, if_pos hw]
      exact ih fun c hc => ha c (by simp [hc])
  have e3 := e1 b a hb
  unfold trimW trimP
  rw [show a ++ x ++ b = a ++ z ++ [d] ++ b by rw [hz]; simp, e3, show a ++ z ++ [d] = a ++ x by rw [hz]; simp]
  exact e2 a ha
theorem put_mid {s pre x post : List UInt8} {acc : LL} (hs : s = pre ++ x ++ post) : putF s pre.length (pre.length + x.length) acc = if trimW x = [] then acc else acc ++ [trimW x] := by
  have e : (s.drop pre.length).take (pre.length + x.length - pre.length) = x := by
    rw [hs, List.append_assoc, List.drop_left, Nat.add_sub_cancel_left, List.take_left]
  unfold putF
  rw [e]
/-- The digits of a number. -/
def digN (n : Nat) : List UInt8 := if n < 10 then [UInt8.ofNat (48 + n)] else digN (n / 10) ++ [UInt8.ofNat (48 + n % 10)]
termination_by n
decreasing_by omega
theorem dig_byte {k : Nat} (h : k < 10) : (UInt8.ofNat (48 + k)).toNat = 48 + k := by simp; omega
theorem digN_lt {n : Nat} (h : n < 10) : digN n = [UInt8.ofNat (48 + n)] := by rw [digN, if_pos h]
theorem digN_ge {n : Nat} (h : ¬ n < 10) : digN n = digN (n / 10) ++ [UInt8.ofNat (48 + n % 10)] := by rw [digN, if_neg h]
theorem natV_snoc (s : List UInt8) (c : UInt8) : natV (s ++ [c]) = natV s * 10 + (c.toNat - 48) := by simp [natV, List.foldl_append]
theorem digN_val (n : Nat) : natV (digN n) = n := by
  induction n using Nat.strongRecOn with
  | _ n ih =>
    by_cases h : n < 10
    · rw [digN_lt h]
      show 0 * 10 + ((UInt8.ofNat (48 + n)).toNat - 48) = n
      rw [dig_byte h]; omega
    · rw [digN_ge h, natV_snoc, ih _ (by omega), dig_byte (by omega)]
      omega
theorem digN_dig (n : Nat) : ∀ c ∈ digN n, 48 ≤ c.toNat ∧ c.toNat ≤ 57 := by
  induction n using Nat.strongRecOn with
  | _ n ih =>
    by_cases h : n < 10
    · rw [digN_lt h]
      intro c hc
      rw [List.mem_singleton.1 hc, dig_byte h]; omega
    · rw [digN_ge h]
      intro c hc
      rcases List.mem_append.1 hc with hc | hc
      · exact ih _ (by omega) c hc
      · rw [List.mem_singleton.1 hc, dig_byte (by omega)]; omega
theorem digN_ne (n : Nat) : digN n ≠ [] := by
  by_cases h : n < 10
  · rw [digN_lt h]; simp
  · rw [digN_ge h]; simp
theorem digN_len (n : Nat) : (digN n).length ≤ n + 1 := by
  induction n using Nat.strongRecOn with
  | _ n ih =>
    by_cases h : n < 10
    · rw [digN_lt h]; simp
    · rw [digN_ge h, List.length_append]
      have := ih (n / 10) (by omega)
      simp only [List.length_cons, List.length_nil]
      omega
theorem digN_len2 : ∀ (k n : Nat), n < 10 ^ (k + 1) → (digN n).length ≤ k + 1
  | 0, n, h => by rw [digN_lt (by omega)]; simp
  | k + 1, n, h => by
    by_cases h2 : n < 10
    · rw [digN_lt h2]; simp
    · rw [digN_ge h2, List.length_append]
      have := digN_len2 k (n / 10) (by rw [Nat.pow_succ] at h; omega)
      simp only [List.length_cons, List.length_nil]
      omega
/-- A part without white, commas and quotes. -/
def plainP (x : List UInt8) : Prop := x ≠ [] ∧ ∀ c ∈ x, c.toNat ≠ 34 ∧ c.toNat ≠ 44 ∧ memB white c.toNat = false
theorem plain_dig (n : Nat) : plainP (digN n) := by
  refine ⟨digN_ne n, fun c hc => ?_⟩
  have h := digN_dig n c hc
  refine ⟨by omega, by omega, ?_⟩
  unfold memB white
  simp only [List.any_cons, List.any_nil, Bool.or_false, Bool.or_eq_false_iff, beq_eq_false_iff_ne]
  show (32 : Nat) ≠ c.toNat ∧ (9 : Nat) ≠ c.toNat
  omega
theorem trim_plain {a b x : List UInt8} (ha : ∀ c ∈ a, c = 32) (hb : ∀ c ∈ b, c = 32) (hx : plainP x) : trimW (a ++ x ++ b) = x := by
  obtain ⟨h1, h2⟩ := hx
  cases x with
  | nil => exact absurd rfl h1
  | cons c y =>
    have hz : c :: y = (c :: y).dropLast ++ [(c :: y).getLast (by simp)] := (List.dropLast_concat_getLast (by simp)).symm
    exact trim_mid ha hb rfl hz (h2 c (by simp)).2.2 (h2 _ (List.getLast_mem (by simp))).2.2
theorem seg_ok {x : List UInt8} {a b : List UInt8} (ha : ∀ c ∈ a, c = 32) (hb : ∀ c ∈ b, c = 32) (hx : plainP x) : ∀ c ∈ a ++ x ++ b, c.toNat ≠ 34 ∧ ((false : Bool) = true → c.toNat ≠ 92) ∧ ((false : Bool) = false → c.toNat ≠ 44) := by
  intro c hc
  have h32 : (32 : UInt8).toNat = 32 := rfl
  rcases List.mem_append.1 hc with hc | hc
  · rcases List.mem_append.1 hc with hc | hc
    · rw [ha c hc, h32]; exact ⟨by omega, (by intro h; cases h), fun _ => by omega⟩
    · have := hx.2 c hc; exact ⟨this.1, (by intro h; cases h), fun _ => this.2.1⟩
  · rw [hb c hc, h32]; exact ⟨by omega, (by intro h; cases h), fun _ => by omega⟩
theorem one32 : ∀ c ∈ ([32] : List UInt8), c = 32 := by simp
theorem none32 : ∀ c ∈ ([] : List UInt8), c = 32 := by simp
theorem last_step {s pre x a b : List UInt8} {acc : LL} (ha : ∀ c ∈ a, c = 32) (hb : ∀ c ∈ b, c = 32) (hx : plainP x) (hs : s = pre ++ (a ++ x ++ b)) : splitF s pre.length pre.length false acc = acc ++ [x] := by
  rw [seg_step (s := s) (post := []) (seg := a ++ x ++ b) (by rw [hs]; simp) (seg_ok ha hb hx), splitF_end (by rw [hs]; simp)]
  rw [show s.length = pre.length + (a ++ x ++ b).length by rw [hs, List.length_append], put_mid (post := []) (by rw [hs]; simp), trim_plain ha hb hx, if_neg hx.1]
theorem mid_step {s pre x a b post : List UInt8} {acc : LL} (ha : ∀ c ∈ a, c = 32) (hb : ∀ c ∈ b, c = 32) (hx : plainP x) (hs : s = pre ++ (a ++ x ++ b) ++ 44 :: post) : splitF s pre.length pre.length false acc = splitF s (pre ++ (a ++ x ++ b) ++ [44]).length (pre ++ (a ++ x ++ b) ++ [44]).length false (acc ++ [x]) := by
  rw [seg_step (s := s) (post := 44 :: post) (seg := a ++ x ++ b) hs (seg_ok ha hb hx)]
  have h := comma_step (s := s) (pre := pre ++ (a ++ x ++ b)) (post := post) (fm := pre.length) (acc := acc) hs
  rw [List.length_append] at h
  rw [h, put_mid (post := 44 :: post) hs, trim_plain ha hb hx, if_neg hx.1]
  simp only [List.length_append, List.length_cons, List.length_nil, Nat.add_assoc]
theorem spl_bad {s : List UInt8} : ∀ {ys : LL} {pre z : List UInt8} {acc : LL}, (∀ y ∈ ys, plainP y) → plainP z → s = pre ++ ys.flatMap (fun y => y ++ [32, 44]) ++ z → splitF s pre.length pre.length false acc = acc ++ ys ++ [z]
  | [], pre, z, acc, _, hz, hs => by
    rw [last_step none32 none32 hz (x := z) (a := []) (b := []) (by rw [hs]; simp)]; simp
  | y :: ys, pre, z, acc, hy, hz, hs => by
    rw [mid_step none32 one32 (hy y (by simp)) (x := y) (a := []) (b := [32]) (post := ys.flatMap (fun y => y ++ [32, 44]) ++ z) (by rw [hs]; simp)]
    rw [spl_bad (ys := ys) (z := z) (fun y' h => hy y' (by simp [h])) hz (by rw [hs]; simp)]
    simp
theorem spl_txt {s : List UInt8} : ∀ {ys : LL} {pre x a : List UInt8} {acc : LL}, (∀ c ∈ a, c = 32) → (∀ y ∈ ys, plainP y) → plainP x → s = pre ++ (a ++ x) ++ ys.flatMap (fun y => [44, 32] ++ y) → splitF s pre.length pre.length false acc = acc ++ [x] ++ ys
  | [], pre, x, a, acc, ha, _, hx, hs => by
    rw [last_step ha none32 hx (x := x) (b := []) (by rw [hs]; simp)]; simp
  | y :: ys, pre, x, a, acc, ha, hy, hx, hs => by
    rw [mid_step ha none32 hx (x := x) (b := []) (post := [32] ++ y ++ ys.flatMap (fun y => [44, 32] ++ y)) (by rw [hs]; simp)]
    rw [spl_txt (ys := ys) (x := y) (a := [32]) one32 (fun y' h => hy y' (by simp [h])) (hy y (by simp)) (by rw [hs]; simp)]
    simp
/-- As the law builds them. -/
def txtI (d : List UInt8) : Nat → List UInt8
  | 0 => []
  | i + 1 => d ++ (List.replicate i d).flatMap (fun y => [44, 32] ++ y)
def badI (x : Nat → List UInt8) : Nat → List UInt8
  | 0 => []
  | i + 1 => ((List.range i).map x).flatMap (fun y => y ++ [32, 44]) ++ x i
theorem txtI_step (d : List UInt8) (i : Nat) : txtI d (i + 2) = txtI d (i + 1) ++ [44, 32] ++ d := by
  simp [txtI, List.replicate_succ', List.flatMap_append]
theorem badI_step (x : Nat → List UInt8) (i : Nat) : badI x (i + 2) = badI x (i + 1) ++ [32, 44] ++ x (i + 1) := by
  simp [badI, List.range_succ, List.flatMap_append]
theorem split_txt {d : List UInt8} (hd : plainP d) (i : Nat) : split (txtI d (i + 1)) = List.replicate (i + 1) d := by
  unfold split
  have := spl_txt (s := txtI d (i + 1)) (ys := List.replicate i d) (pre := []) (x := d) (a := []) (acc := []) none32 (fun y h => by rw [List.eq_of_mem_replicate h]; exact hd) hd (by simp [txtI])
  simpa [List.replicate_succ] using this
theorem split_bad {x : Nat → List UInt8} (hx : ∀ i, plainP (x i)) (i : Nat) : split (badI x (i + 1)) = (List.range (i + 1)).map x := by
  unfold split
  have := spl_bad (s := badI x (i + 1)) (ys := (List.range i).map x) (pre := []) (z := x i) (acc := []) (fun y h => by
    obtain ⟨j, _, rfl⟩ := List.mem_map.1 h; exact hx j) (hx i) (by simp [badI])
  simpa [List.range_succ] using this
/-- One digit's text, and where another one stands. -/
def pickX (d e : List UInt8) (a i : Nat) : List UInt8 := if i = a then e else d
theorem num_dig {n : Nat} (h : n ≤ 9007199254740991) : numE (digN n) = 0 ∧ numV (digN n) = n := by
  have hd : trimD (digN n) = [] := by
    have hall : ∀ c ∈ digN n, memB digs c.toNat = true := fun c hc => (digs_iff _).2 (digN_dig n c hc)
    have tall : ∀ (p : Nat → Bool) (s : List UInt8), (∀ c ∈ s, p c.toNat = true) → tl p s = [] := fun p s hs => by
      induction s with
      | nil => rfl
      | cons c r ih => rw [tl_cons, if_pos (hs c (by simp))]; exact ih fun x hx => hs x (by simp [hx])
    unfold trimD trimP tr
    rw [tall _ _ fun c hc => hall c (List.mem_reverse.1 hc)]
    rfl
  have := num_ok (digN_ne n) hd (by rw [digN_val]; exact h)
  rw [digN_val] at this
  exact ⟨this.2.symm, this.1.symm⟩
theorem low_cl1 : lower [67, 111, 110, 116, 101, 110, 116, 45, 108, 101, 110, 103, 116, 104] = lower clN := by decide
theorem low_cl2 : lower [67, 79, 78, 84, 69, 78, 84, 45, 76, 69, 78, 71, 84, 72] = lower clN := by decide
theorem all_named {l : FL} (h : ∀ f ∈ l, lower f.1 = lower clN) : allF l clN = l.map (·.2) := by
  unfold allF
  rw [List.filter_eq_self.2 fun f hf => decide_eq_true (h f hf)]
/-- What framing.Length tells, when the parts are known. -/
theorem len_of {l : FL} {ps : LL} (h1 : allF l clN ≠ []) (h2 : listF l clN = ps) (hp : ps ≠ []) :
    lenS l = (if ∀ p ∈ ps, numE p = 0 ∧ numV p = numV (ps.getD 0 []) then 0 else 400) ∧ ((∀ p ∈ ps, numE p = 0 ∧ numV p = numV (ps.getD 0 [])) → lenN l = numV (ps.getD 0 [])) := by
  subst h2
  by_cases h : ∀ p ∈ listF l clN, numE p = 0 ∧ numV p = numV ((listF l clN).getD 0 [])
  · have := len_good h1 ⟨hp, h⟩
    rw [if_pos h]
    exact ⟨this.2.2.symm, fun _ => this.1.symm⟩
  · have := len_bad h1 (fun g => h g.2)
    rw [if_neg h]
    exact ⟨this.2.2.symm, fun g => absurd g h⟩
theorem rep_good {n T : Nat} (hn : n ≤ 9007199254740991) : ∀ p ∈ List.replicate (T + 1) (digN n), numE p = 0 ∧ numV p = numV ((List.replicate (T + 1) (digN n)).getD 0 []) := by
  intro p hp
  rw [List.eq_of_mem_replicate hp]
  exact ⟨(num_dig hn).1, rfl⟩
theorem mix_iff {n o T a : Nat} (hn : n ≤ 9007199254740991) (ho : o ≤ 9007199254740991) (ha : a ≤ T) :
    (∀ p ∈ (List.range (T + 1)).map (pickX (digN n) (digN o) a), numE p = 0 ∧ numV p = numV (((List.range (T + 1)).map (pickX (digN n) (digN o) a)).getD 0 [])) ↔ (n = o ∨ T = 0) := by
  have e0 : ((List.range (T + 1)).map (pickX (digN n) (digN o) a)).getD 0 [] = pickX (digN n) (digN o) a 0 := by
    simp [List.getD_eq_getElem?_getD]
  rw [e0]
  have hv : ∀ i, numV (pickX (digN n) (digN o) a i) = if i = a then (o : Int) else n := fun i => by
    unfold pickX; split
    · exact (num_dig ho).2
    · exact (num_dig hn).2
  have he : ∀ i, numE (pickX (digN n) (digN o) a i) = 0 := fun i => by
    unfold pickX; split
    · exact (num_dig ho).1
    · exact (num_dig hn).1
  have hm : ∀ i, i ≤ T → pickX (digN n) (digN o) a i ∈ (List.range (T + 1)).map (pickX (digN n) (digN o) a) := fun i hi => List.mem_map.2 ⟨i, List.mem_range.2 (by omega), rfl⟩
  constructor
  · intro h
    by_cases hT : T = 0
    · exact .inr hT
    · left
      by_cases ha0 : a = 0
      · have := (h _ (hm 1 (by omega))).2
        rw [hv, hv, if_neg (by omega), if_pos (by omega)] at this
        omega
      · have := (h _ (hm a ha)).2
        rw [hv, hv, if_pos rfl, if_neg (by omega)] at this
        omega
  · intro h p hp
    obtain ⟨i, hi, rfl⟩ := List.mem_map.1 hp
    have hi := List.mem_range.1 hi
    refine ⟨he i, ?_⟩
    rw [hv, hv]
    rcases h with h | h
    · subst h; simp
    · subst h
      have : i = 0 := by omega
      subst this; rfl
/-- The four lists of the law. -/
def fT (d : List UInt8) (T : Nat) : FL := [(clN, txtI d T)]
def fB (d e : List UInt8) (a T : Nat) : FL := [(clN, badI (pickX d e a) T)]
def fL (d : List UInt8) (T : Nat) : FL := List.replicate T ([67, 111, 110, 116, 101, 110, 116, 45, 108, 101, 110, 103, 116, 104], d)
def fM (d e : List UInt8) (a T : Nat) : FL := (List.range T).map fun i => ([67, 79, 78, 84, 69, 78, 84, 45, 76, 69, 78, 71, 84, 72], pickX d e a i)
theorem pick_plain (n o a i : Nat) : plainP (pickX (digN n) (digN o) a i) := by
  unfold pickX; split
  · exact plain_dig o
  · exact plain_dig n
theorem parts_map (x : Nat → List UInt8) (hx : ∀ i, plainP (x i)) : ∀ T, partsF ((List.range T).map x) = (List.range T).map x
  | 0 => rfl
  | T + 1 => by
    have h1 := parts_map x hx T
    have h2 : split (x T) = [x T] := by
      have := split_bad (x := fun _ => x T) (fun _ => hx T) 0
      simpa [badI] using this
    rw [List.range_succ, List.map_append, List.map_cons, List.map_nil]
    unfold partsF at h1 ⊢
    rw [List.flatMap_append, h1, List.flatMap_cons, h2]
    rfl
theorem list_T (n T : Nat) : listF (fT (digN n) (T + 1)) clN = List.replicate (T + 1) (digN n) := by
  unfold listF
  rw [all_named (by simp [fT])]
  simp [fT, partsF, split_txt (plain_dig n)]
theorem list_B (n o a T : Nat) : listF (fB (digN n) (digN o) a (T + 1)) clN = (List.range (T + 1)).map (pickX (digN n) (digN o) a) := by
  unfold listF
  rw [all_named (by simp [fB])]
  simp [fB, partsF, split_bad (pick_plain n o a)]
theorem list_L (n T : Nat) : listF (fL (digN n) (T + 1)) clN = List.replicate (T + 1) (digN n) := by
  unfold listF
  rw [all_named (fun f hf => by rw [List.eq_of_mem_replicate hf]; exact low_cl1)]
  have h := parts_map (fun _ => digN n) (fun _ => plain_dig n) (T + 1)
  have e : (List.range (T + 1)).map (fun _ => digN n) = List.replicate (T + 1) (digN n) := by
    rw [List.map_const', List.length_range]
  rw [e] at h
  simpa [fL] using h
theorem list_M (n o a T : Nat) : listF (fM (digN n) (digN o) a (T + 1)) clN = (List.range (T + 1)).map (pickX (digN n) (digN o) a) := by
  unfold listF
  rw [all_named (fun f hf => by obtain ⟨i, _, rfl⟩ := List.mem_map.1 hf; exact low_cl2)]
  have h := parts_map (pickX (digN n) (digN o) a) (pick_plain n o a) (T + 1)
  simpa [fM, List.map_map, Function.comp_def] using h
theorem some_named {l : FL} (h : ∀ f ∈ l, lower f.1 = lower clN) (hl : l ≠ []) : allF l clN ≠ [] := by
  rw [all_named h]; simpa using hl
theorem lenT_good {n : Nat} (hn : n ≤ 9007199254740991) (T : Nat) : lenS (fT (digN n) (T + 1)) = 0 ∧ lenN (fT (digN n) (T + 1)) = n := by
  have h := len_of (some_named (by simp [fT]) (by simp [fT])) (list_T n T) (by simp)
  rw [if_pos (rep_good hn)] at h
  refine ⟨h.1, (h.2 (rep_good hn)).trans ?_⟩
  simpa [List.getD_eq_getElem?_getD] using (num_dig hn).2
theorem lenL_good {n : Nat} (hn : n ≤ 9007199254740991) (T : Nat) : lenS (fL (digN n) (T + 1)) = 0 ∧ lenN (fL (digN n) (T + 1)) = n := by
  have h := len_of (some_named (fun f hf => by rw [List.eq_of_mem_replicate hf]; exact low_cl1) (by simp [fL])) (list_L n T) (by simp)
  rw [if_pos (rep_good hn)] at h
  refine ⟨h.1, (h.2 (rep_good hn)).trans ?_⟩
  simpa [List.getD_eq_getElem?_getD] using (num_dig hn).2
theorem lenB_iff {n o T a : Nat} (hn : n ≤ 9007199254740991) (ho : o ≤ 9007199254740991) (ha : a ≤ T) : lenS (fB (digN n) (digN o) a (T + 1)) = 0 ↔ (n = o ∨ T = 0) := by
  have h := len_of (some_named (by simp [fB]) (by simp [fB])) (list_B n o a T) (by simp)
  rw [h.1, ← mix_iff hn ho ha]
  split <;> simp_all
theorem lenM_iff {n o T a : Nat} (hn : n ≤ 9007199254740991) (ho : o ≤ 9007199254740991) (ha : a ≤ T) : lenS (fM (digN n) (digN o) a (T + 1)) = 0 ↔ (n = o ∨ T = 0) := by
  have h := len_of (some_named (fun f hf => by obtain ⟨i, _, rfl⟩ := List.mem_map.1 hf; exact low_cl2) (by simp [fM])) (list_M n o a T) (by simp)
  rw [h.1, ← mix_iff hn ho ha]
  split <;> simp_all
end Go.Proofs.YtciciemaldbidaaDoor

/- Keys that have the lengths ahead tell the values apart. -/
import Derived.Test.YtciciemaldbidaaDoorValW
import Derived.Lib.ItoaLen
set_option linter.unusedSimpArgs false
set_option linter.unusedVariables false
namespace Go.Proofs.YtciciemaldbidaaDoor
open Go Go.Ve
def dgV (s : List UInt8) : Nat := s.foldl (fun a c => 10 * a + (c.toNat - 48)) 0
theorem dgV_dec (u : Nat) : dgV (Lib.decDigits u) = u ∧ ∀ c ∈ Lib.decDigits u, 48 ≤ c.toNat ∧ c.toNat ≤ 57 := by
  induction u using Nat.strongRecOn with
  | _ u ih =>
    have hd : ∀ n, n < 10 → (UInt8.ofNat (48 + n)).toNat = 48 + n := fun n hn => by rw [UInt8.toNat_ofNat']; omega
    rw [Lib.decDigits]
    split
    · rename_i h
      refine ⟨?_, fun c hc => ?_⟩
      · simp only [dgV, List.foldl_cons, List.foldl_nil, hd u h]; omega
      · rw [List.mem_singleton] at hc; subst hc; rw [hd u h]; omega
    · rename_i h
      obtain ⟨h1, h2⟩ := ih (u / 10) (by omega)
      have h3 := hd (u % 10) (by omega)
      refine ⟨?_, fun c hc => ?_⟩
      · unfold dgV at h1 ⊢
        rw [List.foldl_append, h1]
        simp only [List.foldl_cons, List.foldl_nil, h3]; omega
      · rcases List.mem_append.1 hc with hc | hc
        · exact h2 c hc
        · rw [List.mem_singleton] at hc; subst hc; rw [h3]; omega
theorem itoa_inj {m n : Nat} (h : Lib.itoa (m : Int) = Lib.itoa (n : Int)) : m = n := by
  rw [Lib.itoa_nonneg, Lib.itoa_nonneg] at h
  rw [← (dgV_dec m).1, h, (dgV_dec n).1]
theorem itoa_no {n : Nat} : ∀ c ∈ Lib.itoa (n : Int), c ≠ 58 := fun c hc e => by
  rw [Lib.itoa_nonneg] at hc
  have := (dgV_dec n).2 c hc
  rw [e] at this
  exact absurd this (by decide)
theorem colon {x y : List UInt8} : ∀ {a b : List UInt8}, (∀ c ∈ a, c ≠ 58) → (∀ c ∈ b, c ≠ 58) → a ++ 58 :: x = b ++ 58 :: y → a = b ∧ x = y
  | [], [], _, _, h => ⟨rfl, (List.cons.inj h).2⟩
  | [], c :: b, _, hb, h => absurd (List.cons.inj h).1.symm (hb c (List.mem_cons_self ..))
  | c :: a, [], ha, _, h => absurd (List.cons.inj h).1 (ha c (List.mem_cons_self ..))
  | c :: a, d :: b, ha, hb, h => by
    obtain ⟨h1, h2⟩ := List.cons.inj h
    obtain ⟨h3, h4⟩ := colon (fun c hc => ha c (List.mem_cons_of_mem _ hc)) (fun c hc => hb c (List.mem_cons_of_mem _ hc)) h2
    exact ⟨by rw [h1, h3], h4⟩
/-- One value in a key. -/
def keyE (n v : List UInt8) : List UInt8 := ((((lower n ++ [58]) ++ Lib.itoa (v.length : Int)) ++ [58]) ++ v) ++ [10]
def keyT (ns : LL) (l : FL) : List UInt8 := (ns.map fun n => keyE n (valT l n)).flatten
def mtT (ns : LL) (a b : FL) : Bool := ns.all fun n => decide (valT a n = valT b n)
theorem keyE_inj {n v v' r r' : List UInt8} (h : keyE n v ++ r = keyE n v' ++ r') : v = v' ∧ r = r' := by
  unfold keyE at h
  simp only [List.append_assoc] at h
  have h1 := List.append_cancel_left (List.append_cancel_left h)
  obtain ⟨h2, h3⟩ := colon itoa_no itoa_no h1
  have h4 := itoa_inj h2
  have h3' : v ++ ([10] ++ r) = v' ++ ([10] ++ r') := h3
  obtain ⟨h5, h6⟩ := List.append_inj h3' h4
  exact ⟨h5, (List.cons.inj h6).2⟩
theorem key_mt (a b : FL) : ∀ ns : LL, keyT ns a = keyT ns b ↔ mtT ns a b = true
  | [] => ⟨fun _ => rfl, fun _ => rfl⟩
  | n :: ns => by
    have ih := key_mt a b ns
    have e : ∀ l, keyT (n :: ns) l = keyE n (valT l n) ++ keyT ns l := fun l => by simp [keyT]
    have e2 : mtT (n :: ns) a b = (decide (valT a n = valT b n) && mtT ns a b) := rfl
    rw [e, e, e2, Bool.and_eq_true, decide_eq_true_eq, ← ih]
    constructor
    · exact keyE_inj
    · rintro ⟨h1, h2⟩; rw [h1, h2]
theorem mt_comm (ns : LL) (a b : FL) : mtT ns a b = mtT ns b a := by
  unfold mtT
  congr 1
  funext n
  simp only [eq_comm]
theorem mt_self (ns : LL) (a : FL) : mtT ns a a = true := by simp [mtT]
theorem mt_less {ns ms : LL} {a b : FL} (h : mtT ns a b = true) (hs : ∀ m ∈ ms, m ∈ ns) : mtT ms a b = true := by
  unfold mtT at h ⊢
  rw [List.all_eq_true] at h ⊢
  exact fun m hm => h m (hs m hm)
theorem mt_step {ns : LL} {a b : FL} {x : Nat} (hx : x < ns.length) : mtT (ns.take (x + 1)) a b = (mtT (ns.take x) a b && decide (valT a (ns.getD x []) = valT b (ns.getD x []))) := by
  unfold mtT
  rw [List.take_succ_eq_append_getElem hx, List.all_append]
  simp [List.getD_eq_getElem?_getD, List.getElem?_eq_getElem hx]
theorem mt_false {ns : LL} {a b : FL} {x : Nat} (hx : x < ns.length) (h : valT a (ns.getD x []) ≠ valT b (ns.getD x [])) : mtT ns a b = false := by
  cases hm : mtT ns a b with
  | false => rfl
  | true =>
    unfold mtT at hm
    rw [List.all_eq_true] at hm
    have := hm (ns.getD x []) (getD_mem hx)
    exact absurd (of_decide_eq_true this) h
theorem val_le {l : FL} (hl : totL l ≤ 274877906944) (nm : List UInt8) : (valT l nm).length ≤ 4398046511104 := by
  have h1 := totF_all l nm
  have h2 := len_tot (allF l nm)
  have h3 := tot_ends (allF l nm)
  have h4 := joinF_len ((allF l nm).map endsT) [44, 32]
  unfold valT
  split
  · simp
  · simp only [List.length_append, List.length_cons, List.length_nil, List.length_map] at h4 ⊢
    omega
theorem keyE_len (n v : List UInt8) (hv : v.length ≤ 4398046511104) : (keyE n v).length ≤ n.length + v.length + 25 := by
  have := Lib.itoa_length_le (v.length : Int) (by omega) (by omega)
  simp only [keyE, List.length_append, List.length_cons, List.length_nil, lower, List.length_map]
  omega
theorem keyT_step {ns : LL} {l : FL} {x : Nat} (hx : x < ns.length) : keyT (ns.take (x + 1)) l = keyT (ns.take x) l ++ keyE (ns.getD x []) (valT l (ns.getD x [])) := by
  unfold keyT
  rw [List.take_succ_eq_append_getElem hx, List.map_append, List.flatten_append]
  simp only [List.map_cons, List.map_nil, List.flatten_cons, List.flatten_nil, List.append_nil, List.getD_eq_getElem?_getD, List.getElem?_eq_getElem hx, Option.getD_some]
end Go.Proofs.YtciciemaldbidaaDoor

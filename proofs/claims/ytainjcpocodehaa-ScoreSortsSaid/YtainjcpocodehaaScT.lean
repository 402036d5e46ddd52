/- The document's comparison of lists. -/
import Derived.Test.YtainjcpocodehaaScS
set_option linter.unusedSimpArgs false
set_option linter.unusedVariables false
namespace Go.Proofs.Ytainjcpocodehaa
open Go Go.Ve
set_option maxRecDepth 20000
/-- Where a number goes, looked for from the k-th place down. -/
def posF (x : Nat) (s : FL) : Nat → Nat
  | 0 => 0
  | k + 1 => cond (ltI (rk x) (rk (fk s k))) (posF x s k) (k + 1)
def insF (x : Nat) (s : FL) : FL := s.take (posF x s s.length) ++ [x] ++ s.drop (posF x s s.length)
def isF (l : FL) : Nat → FL
  | 0 => []
  | i + 1 => insF (fk l i) (isF l i)
noncomputable def aSa (a b : FL) : Anns := [(4, [.mk Nat (fun i => [(5, .int .i64 i)]) (fun _ => none) (fun i => i ≤ a.length ∧ a.take i = b.take i) (fun i => a.length - i) gcB gcB (fun i => [(20, .float .f64 (fk a i)), (24, .float .f64 (fk b i))]) (fun _ => [])])]

noncomputable def vSa  (a r b s : FL) (c d : Nat) (ec ed : Bool) (e f : Nat) (ro rp : Bool) : Prop := vcF VCp [] 60 (aSa a b) [] 20 [.sl 0 0 a.length c ec, .sl 1 0 b.length d ed] [.cells (fC (a ++ r)) e ro, .cells (fC (b ++ s)) f rp] [⟨Unit, fun _ => .bool (decide (a = b)), fun _ => [.cells (fC (a ++ r)) e ro, .cells (fC (b ++ s)) f rp], fun _ => True, gcB⟩]
def gqScT0 : Nat → Nat := (fun (b : Nat) => [(0 : Nat), (1 : Nat)].getD b (2 : Nat))
theorem vSa_eq  (a r b s : FL) (c d : Nat) (ec ed : Bool) (e f : Nat) (ro rp : Bool) : vSa a r b s c d ec ed e f ro rp = (bif !eqI (ic (List.length a)) (ic (List.length b)) then ∃ (_x : Unit), True ∧ ((bif e.beq e && sameB ro ro then cellsP gqScT0 (fC (a ++ r)) (fC (a ++ r)) ∧ True else False) ∧ (bif f.beq f && sameB rp rp then cellsP gqScT0 (fC (b ++ s)) (fC (b ++ s)) ∧ True else False) ∧ True) ∧ false = decide (a = b) ∧ True else (∃ (x : Nat), (x ≤ List.length a ∧ List.take x a = List.take x b) ∧ ((bif e.beq e && sameB ro ro then cellsP gqScT0 (fC (a ++ r)) (fC (a ++ r)) ∧ True else False) ∧ (bif f.beq f && sameB rp rp then cellsP gqScT0 (fC (b ++ s)) (fC (b ++ s)) ∧ True else False) ∧ True) ∧ (0 : Int) = ic x ∧ True) ∧ ∀ (x : Nat), x ≤ List.length a ∧ List.take x a = List.take x b → bif ltI (ic x) (ic (List.length a)) then bif ltI (ic x) (ic (List.length a)) then (fC (a ++ r))[(0 : Nat) + x * (1 : Nat)]? = some (AV.float FloatKind.f64 (fk a x)) ∧ bif ltI (ic x) (ic (List.length b)) then (fC (b ++ s))[(0 : Nat) + x * (1 : Nat)]? = some (AV.float FloatKind.f64 (fk b x)) ∧ bif in64 (fk a x) && in64 (fk b x) then bif !eqI (cmpv (rk (fk a x)) (rk (fk b x))) (0 : Int) then ∃ (_x : Unit), True ∧ ((bif e.beq e && sameB ro ro then cellsP gqScT0 (fC (a ++ r)) (fC (a ++ r)) ∧ True else False) ∧ (bif f.beq f && sameB rp rp then cellsP gqScT0 (fC (b ++ s)) (fC (b ++ s)) ∧ True else False) ∧ True) ∧ false = decide (a = b) ∧ True else bif leI (ic x + (1 : Int)) (9223372036854775807 : Int) then ∃ (y : Nat), (y ≤ List.length a ∧ List.take y a = List.take y b) ∧ List.length a - y < List.length a - x ∧ ((bif e.beq e && sameB ro ro then cellsP gqScT0 (fC (a ++ r)) (fC (a ++ r)) ∧ True else False) ∧ (bif f.beq f && sameB rp rp then cellsP gqScT0 (fC (b ++ s)) (fC (b ++ s)) ∧ True else False) ∧ True) ∧ ic x + (1 : Int) = ic y ∧ True else False else False else False else False else ∃ (_x : Unit), True ∧ ((bif e.beq e && sameB ro ro then cellsP gqScT0 (fC (a ++ r)) (fC (a ++ r)) ∧ True else False) ∧ (bif f.beq f && sameB rp rp then cellsP gqScT0 (fC (b ++ s)) (fC (b ++ s)) ∧ True else False) ∧ True) ∧ true = decide (a = b) ∧ True) := by kernel_rfl
theorem rk_inj {a b : Nat} (ha : in64 a = true) (hb : in64 b = true) (h : rk a = rk b) : a = b := by
  have ha := in64_of ha
  have hb := in64_of hb
  unfold rk at h
  split at h <;> split at h <;> omega
theorem cmp_zero {x y : Int} : eqI (cmpv x y) 0 = true ↔ x = y := by
  unfold cmpv
  constructor
  · intro h
    rw [eqI_t] at h
    split at h
    · cases h
    · split at h
      · cases h
      · omega
  · rintro rfl
    rw [if_neg (Int.lt_irrefl _), if_neg (Int.lt_irrefl _)]; rfl
theorem take_succF {a : FL} {i : Nat} (h : i < a.length) : a.take (i + 1) = a.take i ++ [fk a i] := by
  unfold fk
  rw [List.take_succ_eq_append_getElem h, List.getD_eq_getElem?_getD, List.getElem?_eq_getElem h]; rfl
theorem sa_vc (a r b s : FL) (c d : Nat) (ec ed : Bool) (e f : Nat) (ro rp : Bool) (ha : a.length ≤ 1048576) (oa : ok64 a) (ob : ok64 b) : vSa a r b s c d ec ed e f ro rp := by
  rw [vSa_eq]
  refine cond_intro (fun h => ⟨(), trivial, ⟨F_ok _ _ _ _, F_ok _ _ _ _, trivial⟩, ?_, trivial⟩) fun h => ⟨⟨0, ⟨Nat.zero_le _, rfl⟩, ⟨F_ok _ _ _ _, F_ok _ _ _ _, trivial⟩, rfl, trivial⟩, fun x hx => cond_intro (fun k => ?_) fun k => ⟨(), trivial, ⟨F_ok _ _ _ _, F_ok _ _ _ _, trivial⟩, ?_, trivial⟩⟩
  · rw [not_t, eqI_f] at h
    exact (decide_eq_false fun e => h (by rw [e])).symm
  · rw [not_f, eqI_t] at h
    have h : a.length = b.length := Int.ofNat_inj.1 h
    have k0 := k
    rw [ltI_t] at k
    have k : x < a.length := Int.ofNat_lt.1 k
    refine need_intro k0 ⟨fC_get _ _ k, need_intro (ltI_y (Int.ofNat_lt.2 (by omega))) ⟨fC_get _ _ (by omega), need_intro (by rw [and_t]; exact ⟨ok64_at oa k, ok64_at ob (by omega)⟩) (cond_intro (fun hne => ⟨(), trivial, ⟨F_ok _ _ _ _, F_ok _ _ _ _, trivial⟩, ?_, trivial⟩) fun hne => need_intro ?_ ⟨x + 1, ⟨by omega, ?_⟩, by omega, ⟨F_ok _ _ _ _, F_ok _ _ _ _, trivial⟩, rfl, trivial⟩)⟩⟩
    · rw [not_t] at hne
      exact (decide_eq_false fun e => by rw [e, cmp_zero.2 rfl] at hne; cases hne).symm
    · rw [leI_t]; show (x : Int) + 1 ≤ _; omega
    · rw [not_f] at hne
      rw [take_succF k, take_succF (by omega), hx.2, rk_inj (ok64_at oa k) (ok64_at ob (by omega)) (cmp_zero.1 hne)]
  · rw [not_f, eqI_t] at h
    have h : a.length = b.length := Int.ofNat_inj.1 h
    rw [ltI_f] at k
    have k : a.length ≤ x := Int.ofNat_le.1 k
    have e := hx.2
    rw [List.take_of_length_le k, List.take_of_length_le (by omega)] at e
    exact (decide_eq_true e).symm

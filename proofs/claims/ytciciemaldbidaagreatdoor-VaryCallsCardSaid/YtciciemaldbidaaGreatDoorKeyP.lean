/- Keys that have the lengths ahead tell the values apart. -/
import Derived.Test.YtciciemaldbidaaGreatDoorValW
import Derived.Lib.ItoaLen
set_option linter.unusedSimpArgs false
set_option linter.unusedVariables false
namespace Go.Proofs.YtciciemaldbidaaGreatDoor
open Go Go.Ve
def keyE (n v : List UInt8) : List UInt8 := ((((lower n ++ [58]) ++ Lib.itoa (v.length : Int)) ++ [58]) ++ v) ++ [10]
def keyT (ns : LL) (l : FL) : List UInt8 := (ns.map fun n => keyE n (valT l n)).flatten
def mtT (ns : LL) (a b : FL) : Bool := ns.all fun n => decide (valT a n = valT b n)
theorem mt_self (ns : LL) (a : FL) : mtT ns a a = true := by simp [mtT]
theorem mt_step {ns : LL} {a b : FL} {x : Nat} (hx : x < ns.length) : mtT (ns.take (x + 1)) a b = (mtT (ns.take x) a b && decide (valT a (ns.getD x []) = valT b (ns.getD x []))) := by
  unfold mtT
  rw [List.take_succ_eq_append_getElem hx, List.all_append]
  simp [List.getD_eq_getElem?_getD, List.getElem?_eq_getElem hx]
theorem mt_false {ns : LL} {a b : FL} {x : Nat} (hx : x < ns.length) (h : valT a (ns.getD x []) ≠ valT b (ns.getD x [])) : mtT ns a b = false := by
  cases hm : mtT ns a b with
  | false => rfl
  | true =>
    unfold mtT at hm
    rw [List.all_eq_true] at hm
    have := hm (ns.getD x []) (getD_mem hx)
    exact absurd (of_decide_eq_true this) h
theorem val_le {l : FL} (hl : totL l ≤ 274877906944) (nm : List UInt8) : (valT l nm).length ≤ 4398046511104 := by
  have h1 := totF_all l nm
  have h2 := len_tot (allF l nm)
  have h3 := tot_ends (allF l nm)
  have h4 := joinF_len ((allF l nm).map endsT) [44, 32]
  unfold valT
  split
  · simp
  · simp only [List.length_append, List.length_cons, List.length_nil, List.length_map] at h4 ⊢
    omega
theorem keyE_len (n v : List UInt8) (hv : v.length ≤ 4398046511104) : (keyE n v).length ≤ n.length + v.length + 25 := by
  have := Lib.itoa_length_le (v.length : Int) (by omega) (by omega)
  simp only [keyE, List.length_append, List.length_cons, List.length_nil, lower, List.length_map]
  omega
theorem keyT_step {ns : LL} {l : FL} {x : Nat} (hx : x < ns.length) : keyT (ns.take (x + 1)) l = keyT (ns.take x) l ++ keyE (ns.getD x []) (valT l (ns.getD x [])) := by
  unfold keyT
  rw [List.take_succ_eq_append_getElem hx, List.map_append, List.flatten_append]
  simp only [List.map_cons, List.map_nil, List.flatten_cons, List.flatten_nil, List.append_nil, List.getD_eq_getElem?_getD, List.getElem?_eq_getElem hx, Option.getD_some]
end Go.Proofs.YtciciemaldbidaaGreatDoor

/- Plain facts of the bits of a number. -/
import Derived.Test.YtainjcpocodehaaSc
set_option linter.unusedSimpArgs false
set_option linter.unusedVariables false
namespace Go.Proofs.Ytainjcpocodehaa
open Go Go.Ve
set_option maxRecDepth 20000

theorem nat_xor_top (b : Nat) (h : b < 2 ^ 63) : b ^^^ 2 ^ 63 = 2 ^ 63 + b := by
  apply Nat.eq_of_testBit_eq
  intro j
  rw [Nat.testBit_xor, Nat.testBit_two_pow]
  rcases Nat.lt_trichotomy j 63 with hj | hj | hj
  · rw [Nat.testBit_two_pow_add_gt hj, decide_eq_false (by omega)]; simp
  · subst hj; rw [Nat.testBit_two_pow_add_eq, decide_eq_true rfl]; simp
  · have h1 : b < 2 ^ j := Nat.lt_trans h (Nat.pow_lt_pow_right (by decide) hj)
    have h2 : 2 ^ 63 + b < 2 ^ j := by
      have : 2 ^ 64 ≤ 2 ^ j := Nat.pow_le_pow_right (by decide) hj
      omega
    rw [Nat.testBit_lt_two_pow h1, Nat.testBit_lt_two_pow h2, decide_eq_false (by omega)]; rfl
theorem wrap_u64 {n : Int} (h0 : 0 ≤ n) (h1 : n < 2 ^ 64) : IntKind.u64.wrap n = n := by
  have : n % (2 ^ 64 : Int) = n := Int.emod_eq_of_lt h0 h1
  simp only [IntKind.wrap, IntKind.signed, IntKind.bits, Bool.false_and, Bool.false_eq_true, if_false]
  exact this
theorem wrap_lo {b : Nat} (h : b < 2 ^ 63) : IntKind.i64.wrap (b : Int) = (b : Int) := by
  have : (b : Int) % (2 ^ 64 : Int) = b := Int.emod_eq_of_lt (by omega) (by omega)
  simp only [IntKind.wrap, IntKind.signed, IntKind.bits, Bool.true_and, this]
  rw [if_neg (by simp; omega)]
theorem wrap_hi {b : Nat} (h0 : 2 ^ 63 ≤ b) (h1 : b < 2 ^ 64) : IntKind.i64.wrap (b : Int) = (b : Int) - 2 ^ 64 := by
  have : (b : Int) % (2 ^ 64 : Int) = b := Int.emod_eq_of_lt (by omega) (by omega)
  simp only [IntKind.wrap, IntKind.signed, IntKind.bits, Bool.true_and, this]
  rw [if_pos (by simp; omega)]
theorem fdiv_lo {b : Nat} (h : b < 2 ^ 63) : (b : Int).fdiv (2 ^ 63) = 0 := by
  rw [Int.fdiv_eq_ediv_of_nonneg _ (by decide)]; omega
theorem fdiv_hi {b : Nat} (h0 : 2 ^ 63 ≤ b) (h1 : b < 2 ^ 64) : ((b : Int) - 2 ^ 64).fdiv (2 ^ 63) = -1 := by
  rw [Int.fdiv_eq_ediv_of_nonneg _ (by decide)]; omega
theorem xor_lo {b : Nat} (h : b < 2 ^ 63) : IntKind.u64.wrap ((BitVec.ofInt 64 (b : Int) ^^^ BitVec.ofInt 64 9223372036854775808).toNat : Nat) = (b : Int) + 2 ^ 63 := by
  have e : (BitVec.ofInt 64 (b : Int) ^^^ BitVec.ofInt 64 9223372036854775808).toNat = 2 ^ 63 + b := by
    rw [BitVec.toNat_xor, ← nat_xor_top b h]
    congr 1
    simp; omega
  rw [e, wrap_u64 (by omega) (by omega)]
  omega
theorem xor_hi {b : Nat} (h1 : b < 2 ^ 64) : IntKind.u64.wrap ((BitVec.ofInt 64 (b : Int) ^^^ BitVec.ofInt 64 18446744073709551615).toNat : Nat) = 2 ^ 64 - 1 - (b : Int) := by
  have e : (BitVec.ofInt 64 (b : Int) ^^^ BitVec.ofInt 64 18446744073709551615).toNat = 2 ^ 64 - 1 - b := by
    rw [show BitVec.ofInt 64 18446744073709551615 = BitVec.allOnes 64 from rfl, BitVec.xor_allOnes, BitVec.toNat_not]
    simp; omega
  rw [e, wrap_u64 (by omega) (by omega)]
  omega
/-- The bits with the other sign. -/
def mb (b : Nat) : Nat := if b < 2 ^ 63 then b + 2 ^ 63 else b - 2 ^ 63
theorem mb_lt {b : Nat} (h : b < 2 ^ 64) : mb b < 2 ^ 64 := by unfold mb; split <;> omega
theorem nat_xor_top_hi (b : Nat) (h0 : 2 ^ 63 ≤ b) (h1 : b < 2 ^ 64) : b ^^^ 2 ^ 63 = b - 2 ^ 63 := by
  have h2 := nat_xor_top (b - 2 ^ 63) (by omega)
  have h3 : 2 ^ 63 + (b - 2 ^ 63) = b := by omega
  rw [h3] at h2
  rw [← h2, Nat.xor_assoc, Nat.xor_self, Nat.xor_zero, h2]
theorem xor_mb {b : Nat} (h : b < 2 ^ 64) : IntKind.u64.wrap ((BitVec.ofInt 64 (b : Int) ^^^ BitVec.ofInt 64 9223372036854775808).toNat : Nat) = (mb b : Int) := by
  have e : (BitVec.ofInt 64 (b : Int) ^^^ BitVec.ofInt 64 9223372036854775808).toNat = mb b := by
    have e1 : b ^^^ 2 ^ 63 = mb b := by
      unfold mb
      split
      · rw [nat_xor_top b (by assumption)]; omega
      · rw [nat_xor_top_hi b (by omega) h]
    rw [BitVec.toNat_xor, ← e1]
    congr 1
    simp; omega
  rw [e, wrap_u64 (by omega) (by have := mb_lt h; omega)]
end Go.Proofs.Ytainjcpocodehaa

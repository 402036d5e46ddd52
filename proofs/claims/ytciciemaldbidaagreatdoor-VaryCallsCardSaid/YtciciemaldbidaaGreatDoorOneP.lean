/- The words of a text, with one blank between them: what vary.one makes (plain law). -/
import Derived.Test.YtciciemaldbidaaGreatDoorFr1
import Derived.Lib.TrimU
import Derived.Lib.QuoteLoop
import Derived.Shelf.Unicode.DecodeAny
set_option linter.unusedSimpArgs false
set_option linter.unusedVariables false
namespace Go.Proofs.YtciciemaldbidaaGreatDoor
open Go Go.Ve
set_option maxRecDepth 20000
def decR (s : List UInt8) : Nat := (Lib.decodeGoB ⟨s.toArray⟩).1
def decN (s : List UInt8) : Nat := (Lib.decodeGoB ⟨s.toArray⟩).2
def whR (r : Nat) : Bool := decide (r = 32 ∨ r = 9)
def addW (out w : List UInt8) : List UInt8 := if out = [] then w else out ++ [32] ++ w
def wordsA (s : List UInt8) : Nat → Nat → Int → List UInt8 → List UInt8
  | 0, _, st, out => if 0 ≤ st then addW out (s.drop st.toNat) else out
  | k + 1, i, st, out => if i < s.length then
      (if whR (decR (s.drop i)) = true then
        (if 0 ≤ st then wordsA s k (i + decN (s.drop i)) (-1) (addW out ((s.drop st.toNat).take (i - st.toNat))) else wordsA s k (i + decN (s.drop i)) st out)
      else wordsA s k (i + decN (s.drop i)) (if st < 0 then i else st) out)
    else if 0 ≤ st then addW out (s.drop st.toNat) else out
def oneT (s : List UInt8) : List UInt8 := wordsA s s.length 0 (-1) []
theorem decN_pos {s : List UInt8} (h : s ≠ []) : 1 ≤ decN s := by
  unfold decN Lib.decodeGoB
  rw [if_neg (by simp only [ByteArray.size, List.size_toArray]; intro e; exact h (List.length_eq_zero_iff.1 e))]
  exact Lib.width_pos _ _
theorem decN_le {s : List UInt8} (h : s ≠ []) : decN s ≤ s.length := by
  have h0 : 0 < (⟨s.toArray⟩ : ByteArray).size := by
    simp only [ByteArray.size, List.size_toArray]
    exact List.length_pos_iff.2 h
  unfold decN Lib.decodeGoB
  rw [if_neg (by omega)]
  have := Lib.width_le _ h0
  simpa [ByteArray.size] using this
end Go.Proofs.YtciciemaldbidaaGreatDoor

/- The document's queue: Set; where a timer goes. -/
import Derived.Test.YtainjcpocodehaaRfE
set_option linter.unusedSimpArgs false
set_option linter.unusedVariables false
namespace Go.Proofs.Ytainjcpocodehaa
open Go Go.Ve
set_option maxRecDepth 20000
def posT (t : Tm) (u : TL) : Nat → Nat
  | 0 => 0
  | k + 1 => cond (tlt t (pk u k)) (posT t u k) (k + 1)
def insS (n at_ : Int) (s : TL) : TL := ins (n, at_) (ers n s)
noncomputable def suT (t : Tm) (u : TL) : Anns := [
  (9, [.mk Nat (fun k => [(8, .int .i64 k)]) (fun _ => none) (fun k => k ≤ u.length ∧ posT t u u.length = posT t u k) (fun k => k) gcB gcB (fun k => [(63, .int .i64 (pk u (k - 1)).2), (75, .int .i64 (pk u (k - 1)).2), (87, .int .i64 (pk u (k - 1)).1)]) (fun _ => [])]),
  (7000011, [.mk Unit (fun _ => [(8, .int .i64 (ic (posT t u u.length)))]) (fun _ => none) (fun _ => True) (fun _ => 0) gcB gcB (fun _ => []) (fun _ => [])])]
def mdSe : List (Nat × DMode) := [(11, .permK [0] [0, 2, 3, 4, 5, 6, 7, 9, 10, 11, 14, 15, 16, 17, 18, 19] [1, 8, 12, 13, 20, 21, 22, 23])]
def hiSe : List (Nat × AV) := [(103, .nilmap), (108, .nilmap), (115, .nilmap)]
noncomputable def oSe (n at_ most : Int) (p s : TL) (eq er : Nat) : List Out := [⟨Unit, fun _ => .int .i64 (setE most s n at_), fun _ => oH most p s eq er, fun _ => setE most s n at_ ≠ 0, gcB⟩, ⟨Unit, fun _ => .int .i64 0, fun _ => [oB most 2 0 (insS n at_ s).length eq, .cells (tC (p ++ s)) er false, .cells (tC (insS n at_ s)) eR false], fun _ => setE most s n at_ = 0, some [999997, 0]⟩]
noncomputable def aSe1 (n at_ most : Int) (p s : TL) (eq er : Nat) : Anns := [(7000008, [.mk Unit (fun _ => []) (fun _ => some (oH most p s eq er)) (fun _ => tmOf n s = none ∧ (s.length : Int) < most) (fun _ => 0) gcB gcB (fun _ => []) (fun _ => suT (n, at_) s)])]
noncomputable def aSe2 (n at_ most : Int) (s : TL) (eq : Nat) : Anns := [(7000008, [.mk (Tm × TL) (fun _ => []) (fun x => some [oB most 2 0 (x.1 :: x.2).length eq, keepB, .cells (tC (x.1 :: x.2)) eR false]) (fun x => tmOf n s ≠ none ∧ ers n s = x.1 :: x.2) (fun _ => 0) (some [999997, 0]) (some [999997, 0]) (fun _ => []) (fun x => suT (n, at_) (x.1 :: x.2))])]
noncomputable def aSe3 (n most : Int) (s : TL) (eq : Nat) : Anns := [(7000008, [.mk Unit (fun _ => []) (fun _ => some [.cells [.int .i64 most, .sl 2 0 0 0 true] eq false, keepB, .cells [] 0 false]) (fun _ => tmOf n s ≠ none ∧ ers n s = []) (fun _ => 0) (some [999997, 0]) (some [999997, 0]) (fun _ => []) (fun _ => [])])]
end Go.Proofs.Ytainjcpocodehaa

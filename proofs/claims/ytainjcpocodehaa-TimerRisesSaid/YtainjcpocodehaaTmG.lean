/- The law TimerRises: what its walk is told. -/
import Derived.Test.YtainjcpocodehaaTmT
import Derived.Test.YtainjcpocodehaaTmE
import Derived.Test.YtainjcpocodehaaTmL
set_option linter.unusedSimpArgs false
set_option linter.unusedVariables false
namespace Go.Proofs.Ytainjcpocodehaa
open Go Go.Ve
noncomputable def TRi : List (Nat × SpecE) := [(34, flatE gLv), (36, eSet), (42, eCan), (40, eAt), (39, eDue), (38, eLen), (41, flatE gPickN), (44, eSm), (75, eCol), (76, eSortF)]
/-- What the queue has after so many calls. -/
def stp (s : TL) (a : Int × Int × Int) : TL := if pickN a.1 4 = 3 then ers a.2.1 s else if setE 100 s a.2.1 a.2.2 = 0 then ins (a.2.1, a.2.2) (ers a.2.1 s) else s
def Sa (l : AL) : Nat → TL
  | 0 => []
  | i + 1 => stp (Sa l i) (ak l i)
def nilB3 : ABlk := .cells [.int .i64 100, .nilsl, .map 3] 0 false
noncomputable def nRi (l : AL) : Anns := [
  (9, [
    .mk Nat (fun i => [(5, .int .i64 i)]) (fun _ => some [keepB, keepB, keepB, .map [] false, nilB3, keepB]) (fun i => i ≤ l.length ∧ Sa l i = []) (fun i => l.length - i) (some [999997, 4]) (some [999997, 4]) (fun i => [(39, .int .i64 (ak l i).1), (47, .int .i64 (ak l i).2.1), (54, .int .i64 (ak l i).2.1), (59, .int .i64 (ak l i).2.2)]) (fun _ => []),
    .mk (Nat × Nat × TL × TL × MP) (fun x => [(5, .int .i64 x.1)]) (fun x => some [keepB, keepB, keepB, .map (emap x.2.2.2.2) false, qB 100 6 x.2.2.1.length x.2.1 3 0, keepB, .cells (tC (x.2.2.1 ++ x.2.2.2.1)) eD false]) (fun x => x.1 ≤ l.length ∧ srt x.2.2.1 = Sa l x.1 ∧ QI 100 x.2.1 x.2.2.1 x.2.2.2.1 x.2.2.2.2) (fun x => l.length - x.1) (some [999997, 4]) (some [999997, 4]) (fun x => [(39, .int .i64 (ak l x.1).1), (47, .int .i64 (ak l x.1).2.1), (54, .int .i64 (ak l x.1).2.1), (59, .int .i64 (ak l x.1).2.2)]) (fun _ => [])])]
noncomputable def nRiA : Ann := .mk Unit (fun _ => []) (fun _ => some [keepB, keepB, keepB, .map [] false, nilB3, keepB]) (fun _ => True) (fun _ => 0) (some [999997, 4]) (some [999997, 4]) (fun _ => []) (fun _ => [])
noncomputable def nRiB (l : AL) : Ann := .mk (Nat × TL × TL × MP) (fun _ => []) (fun x => some [keepB, keepB, keepB, .map (emap x.2.2.2) false, qB 100 6 x.2.1.length x.1 3 0, keepB, .cells (tC (x.2.1 ++ x.2.2.1)) eD false]) (fun x => srt x.2.1 = Sa l l.length ∧ QI 100 x.1 x.2.1 x.2.2.1 x.2.2.2) (fun _ => 0) (some [999997, 4]) (some [999997, 4]) (fun _ => []) (fun _ => [])
noncomputable def nEaA : Ann := .mk Unit (fun _ => [(12, .nilsl), (13, .int .i64 0), (14, .int .i64 0)]) (fun _ => none) (fun _ => True) (fun _ => 0) gcB gcB (fun _ => []) (fun _ => [])
noncomputable def nEaB (l : AL) : Ann := .mk (Nat × TL × TL × MP) (fun x => [(12, .sl 13 0 x.2.1.length x.2.1.length false), (13, .int .i64 (ic x.2.1.length)), (14, .int .i64 0)]) (fun x => some [keepB, keepB, keepB, .map (emap x.2.2.2) false, qB 100 6 x.2.1.length x.1 3 0, keepB, .cells (tC (x.2.1 ++ x.2.2.1)) eD false, keepB, keepB, keepB, keepB, keepB, keepB, .cells (tC (srt x.2.1)) eD false]) (fun x => QI 100 x.1 x.2.1 x.2.2.1 x.2.2.2 ∧ x.2.1 ≠ [] ∧ x.2.1.length ≤ l.length) (fun _ => 0) (some [999997, 4]) (some [999997, 4]) (fun _ => [])
    (fun x => [(2, [
      .mk Unit (fun _ => [(14, .int .i64 0)]) (fun _ => none) (fun _ => True) (fun _ => x.2.1.length) gcB gcB (fun _ => [(17, tmA (pk (srt x.2.1) 0))]) (fun _ => []),
      .mk Nat (fun i => [(14, .int .i64 i)]) (fun i => some [keepB, keepB, keepB, keepB, keepB, keepB, keepB, keepB, .cells [.sl 14 0 i i false] 0 false, .cells [.int .i64 (pk (srt x.2.1) (i - 1)).2] 0 false, .cells [.int .i64 (pk (srt x.2.1) (i - 1)).1] 0 false, keepB, keepB, keepB, .cells (nC ((srt x.2.1).take i)) eI false]) (fun i => 1 ≤ i ∧ i ≤ x.2.1.length) (fun i => x.2.1.length - i) (some [999997, 8]) (some [999997, 8]) (fun i => [(17, tmA (pk (srt x.2.1) i))]) (fun _ => [])])])
noncomputable def faRi (a : Ann) (f : FuncId) : Option FA := match Nat.beq f 62 with | true => some ⟨[], [(7000002, [a])], []⟩ | false => some ⟨[], [], []⟩
noncomputable def VRN : VE := ⟨Try.prog, tabS TRi noS, noO, fun _ => some ⟨[], [], []⟩⟩
noncomputable def VRA : VE := ⟨Try.prog, tabS TRi noS, noO, faRi nEaA⟩
noncomputable def VRB (l : AL) : VE := ⟨Try.prog, tabS TRi noS, noO, faRi (nEaB l)⟩
end Go.Proofs.Ytainjcpocodehaa

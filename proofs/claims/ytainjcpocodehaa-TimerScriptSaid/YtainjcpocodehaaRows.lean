/-
  No cell of these rows narrows 'for every input' (looked for: loops, veiled, ifaces, maps, wideKeys, modest, calm, conditions, laid).
  DERIVED. THE GIVEN ROWS OF THIS SEAT. 7 by the template 'for every input the law returns true; each argument reads behind the call as it read before'; 0 by the template 'total and deterministic' (their statements: YtainjcpocodehaaTotals.lean).
  GIVEN WITH THE SEED: the statements are not yours to turn. If you find one false, say at which input.
  Laid BY PROGRAM, IN A SANDBOX (cutbox-rows.mjs): the forced cells as the released guide's own fill.sh prints them over the translation 917aa97a29e9b8a0… (all of the seat's roots in one cut). By AI agents, Wed Nov 11 2026. No macro, syntax, notation, axiom, sorry.
-/
import Derived.Test.YtainjcpocodehaaChecked
import GoSem.Claim
import GoSem.ClaimJoined
import GoSem.ClaimMapViews
import Derived.JoinedTies
import Derived.KernelRfl
namespace Go.Proofs.Ytainjcpocodehaa
/- THE CELL 'sum', in the pinned program and in every row, IS THE sha256 OF THE DUMP (.gsa) THAT YtainjcpocodehaaProg.lean LOADS. Nothing in Lean hashes anything: it is a label: what it is worth is what the hold of that sum in a sandbox is worth. -/
noncomputable def Try.pinned : Pinned := { name := "ytainjcpocodehaa", sum := "917aa97a29e9b8a0c8082623e1a49d406679b0e2188b50b801258317b54a76ca", checked := Try.checked }
namespace Rows
def none {H : Type} : Left H := { results := [], args := [] }

/-- 'halfwayhouselaw23.ScoreFades': WHATEVER THE INPUT: true; the input reads as it did. -/
def scoreFadesSpec : ChangeSpec := { name := "scoreFades", fn := fun _ => fun
  | [d1, d2, d3, d4, d5, d6] => { results := [.lit (.bool true)], args := [d1, d2, d3, d4, d5, d6] }
  | _ => none }
def scoreFadesRow : OpenClaim := { program := "ytainjcpocodehaa", sum := "917aa97a29e9b8a0c8082623e1a49d406679b0e2188b50b801258317b54a76ca", func := "halfwayhouse/halfwayhouselaw23.ScoreFades", spec := "scoreFades", inPlace := ["math.Float64bits", "math.Float64frombits"], apart := false }
def ScoreFadesSaid : Prop := scoreFadesRow.holds Try.pinned (OpenSpec.ofChange scoreFadesSpec)

/-- ITS FALSE NEIGHBOUR: 'it returns false'. Refute it at one input. -/
def scoreFadesWrong : ChangeSpec := { name := "scoreFades", fn := fun _ => fun
  | [d1, d2, d3, d4, d5, d6] => { results := [.lit (.bool false)], args := [d1, d2, d3, d4, d5, d6] }
  | _ => none }
def ScoreFadesWrongFalsely : Prop := scoreFadesRow.holds Try.pinned (OpenSpec.ofChange scoreFadesWrong)

/-- 'halfwayhouselaw23.ScoreSorts': WHATEVER THE INPUT: true; the input reads as it did. -/
def scoreSortsSpec : ChangeSpec := { name := "scoreSorts", fn := fun _ => fun
  | [d] => { results := [.lit (.bool true)], args := [d] }
  | _ => none }
def scoreSortsRow : OpenClaim := { program := "ytainjcpocodehaa", sum := "917aa97a29e9b8a0c8082623e1a49d406679b0e2188b50b801258317b54a76ca", func := "halfwayhouse/halfwayhouselaw23.ScoreSorts", spec := "scoreSorts", inPlace := ["math.Float64bits", "math.Float64frombits"], unfollowed := true, recurses := true, apart := false }
def ScoreSortsSaid : Prop := scoreSortsRow.holds Try.pinned (OpenSpec.ofChange scoreSortsSpec)

/-- ITS FALSE NEIGHBOUR: 'it returns false'. Refute it at one input. -/
def scoreSortsWrong : ChangeSpec := { name := "scoreSorts", fn := fun _ => fun
  | [d] => { results := [.lit (.bool false)], args := [d] }
  | _ => none }
def ScoreSortsWrongFalsely : Prop := scoreSortsRow.holds Try.pinned (OpenSpec.ofChange scoreSortsWrong)

/-- 'halfwayhouselaw23.ScoreCalls': WHATEVER THE INPUT: true; the input reads as it did. -/
def scoreCallsSpec : ChangeSpec := { name := "scoreCalls", fn := fun _ => fun
  | [d1, d2, d3, d4, d5] => { results := [.lit (.bool true)], args := [d1, d2, d3, d4, d5] }
  | _ => none }
def scoreCallsRow : OpenClaim := { program := "ytainjcpocodehaa", sum := "917aa97a29e9b8a0c8082623e1a49d406679b0e2188b50b801258317b54a76ca", func := "halfwayhouse/halfwayhouselaw23.ScoreCalls", spec := "scoreCalls", inPlace := ["math.Float64bits", "math.Float64frombits"], unfollowed := true, recurses := true, apart := false }
def ScoreCallsSaid : Prop := scoreCallsRow.holds Try.pinned (OpenSpec.ofChange scoreCallsSpec)

/-- ITS FALSE NEIGHBOUR: 'it returns false'. Refute it at one input. -/
def scoreCallsWrong : ChangeSpec := { name := "scoreCalls", fn := fun _ => fun
  | [d1, d2, d3, d4, d5] => { results := [.lit (.bool false)], args := [d1, d2, d3, d4, d5] }
  | _ => none }
def ScoreCallsWrongFalsely : Prop := scoreCallsRow.holds Try.pinned (OpenSpec.ofChange scoreCallsWrong)

/-- 'halfwayhouselaw18.TimerNext': WHATEVER THE INPUT: true; the input reads as it did. -/
def timerNextSpec : ChangeSpec := { name := "timerNext", fn := fun _ => fun
  | [d1, d2] => { results := [.lit (.bool true)], args := [d1, d2] }
  | _ => none }
def timerNextRow : OpenClaim := { program := "ytainjcpocodehaa", sum := "917aa97a29e9b8a0c8082623e1a49d406679b0e2188b50b801258317b54a76ca", func := "halfwayhouse/halfwayhouselaw18.TimerNext", spec := "timerNext", apart := false }
def TimerNextSaid : Prop := timerNextRow.holds Try.pinned (OpenSpec.ofChange timerNextSpec)

/-- ITS FALSE NEIGHBOUR: 'it returns false'. Refute it at one input. -/
def timerNextWrong : ChangeSpec := { name := "timerNext", fn := fun _ => fun
  | [d1, d2] => { results := [.lit (.bool false)], args := [d1, d2] }
  | _ => none }
def TimerNextWrongFalsely : Prop := timerNextRow.holds Try.pinned (OpenSpec.ofChange timerNextWrong)

/-- 'halfwayhouselaw18.TimerOnce': WHATEVER THE INPUT: true; the input reads as it did. -/
def timerOnceSpec : ChangeSpec := { name := "timerOnce", fn := fun _ => fun
  | [d] => { results := [.lit (.bool true)], args := [d] }
  | _ => none }
def timerOnceRow : OpenClaim := { program := "ytainjcpocodehaa", sum := "917aa97a29e9b8a0c8082623e1a49d406679b0e2188b50b801258317b54a76ca", func := "halfwayhouse/halfwayhouselaw18.TimerOnce", spec := "timerOnce", apart := false }
def TimerOnceSaid : Prop := timerOnceRow.holds Try.pinned (OpenSpec.ofChange timerOnceSpec)

/-- ITS FALSE NEIGHBOUR: 'it returns false'. Refute it at one input. -/
def timerOnceWrong : ChangeSpec := { name := "timerOnce", fn := fun _ => fun
  | [d] => { results := [.lit (.bool false)], args := [d] }
  | _ => none }
def TimerOnceWrongFalsely : Prop := timerOnceRow.holds Try.pinned (OpenSpec.ofChange timerOnceWrong)

/-- 'halfwayhouselaw18.TimerRises': WHATEVER THE INPUT: true; the input reads as it did. -/
def timerRisesSpec : ChangeSpec := { name := "timerRises", fn := fun _ => fun
  | [d] => { results := [.lit (.bool true)], args := [d] }
  | _ => none }
def timerRisesRow : OpenClaim := { program := "ytainjcpocodehaa", sum := "917aa97a29e9b8a0c8082623e1a49d406679b0e2188b50b801258317b54a76ca", func := "halfwayhouse/halfwayhouselaw18.TimerRises", spec := "timerRises", unfollowed := true, recurses := true, apart := false }
def TimerRisesSaid : Prop := timerRisesRow.holds Try.pinned (OpenSpec.ofChange timerRisesSpec)

/-- ITS FALSE NEIGHBOUR: 'it returns false'. Refute it at one input. -/
def timerRisesWrong : ChangeSpec := { name := "timerRises", fn := fun _ => fun
  | [d] => { results := [.lit (.bool false)], args := [d] }
  | _ => none }
def TimerRisesWrongFalsely : Prop := timerRisesRow.holds Try.pinned (OpenSpec.ofChange timerRisesWrong)

/-- 'halfwayhouselaw18.TimerScript': WHATEVER THE INPUT: true; the input reads as it did. -/
def timerScriptSpec : ChangeSpec := { name := "timerScript", fn := fun _ => fun
  | [d1, d2] => { results := [.lit (.bool true)], args := [d1, d2] }
  | _ => none }
def timerScriptRow : OpenClaim := { program := "ytainjcpocodehaa", sum := "917aa97a29e9b8a0c8082623e1a49d406679b0e2188b50b801258317b54a76ca", func := "halfwayhouse/halfwayhouselaw18.TimerScript", spec := "timerScript", unfollowed := true, recurses := true, apart := false }
def TimerScriptSaid : Prop := timerScriptRow.holds Try.pinned (OpenSpec.ofChange timerScriptSpec)

/-- ITS FALSE NEIGHBOUR: 'it returns false'. Refute it at one input. -/
def timerScriptWrong : ChangeSpec := { name := "timerScript", fn := fun _ => fun
  | [d1, d2] => { results := [.lit (.bool false)], args := [d1, d2] }
  | _ => none }
def TimerScriptWrongFalsely : Prop := timerScriptRow.holds Try.pinned (OpenSpec.ofChange timerScriptWrong)

/- THE SECOND FORM. 'bulk': how many values and letters a reading holds, each counted each time it is reached (what is shared counts as often as it is met; a slice's spare places count too). A statement '..UptoSaid' is the law's where the arguments, and the package variables that the reading takes, are together of bulk at most 1048576: NARROWER than '..Said'. Prove '..Said' where nothing that the law and all that it calls make is longer than what came in: it says more and counts as full. Else prove '..UptoSaid'. A law counts once. -/
mutual
def uptoBulk {H : Type} : DataW H → Nat
  | .lit (.string bytes) => bytes.length + 1
  | .lit _ => 1
  | .nil => 1
  | .ptr d => uptoBulk d + 1
  | .slice elems spare => uptoBulkAll elems + uptoBulkAll spare + 1
  | .agg parts => uptoBulkAll parts + 1
  | .iface _ d => uptoBulk d + 1
  | .map entries => uptoBulkEntries entries + 1
  | .held _ => 1
def uptoBulkAll {H : Type} : List (DataW H) → Nat
  | [] => 0
  | d :: r => uptoBulk d + uptoBulkAll r
def uptoBulkEntries {H : Type} : List (Lit × DataW H) → Nat
  | [] => 0
  | x :: r => uptoBulkEntry x + uptoBulkEntries r
def uptoBulkEntry {H : Type} : Lit × DataW H → Nat
  | (.string bytes, d) => bytes.length + uptoBulk d + 1
  | (_, d) => uptoBulk d + 1
 end
def uptoSmall : (H : Type) → List (DataW H) → Bool := fun _ ds => decide (uptoBulkAll ds ≤ 1048576)
def OpenSpec.upto (s : _root_.Go.ChangeSpec) : _root_.Go.OpenSpec := { _root_.Go.OpenSpec.ofChange s with cond := some uptoSmall }

/-- 'halfwayhouselaw23.ScoreFades', WHERE WHAT IT READS IS OF BULK AT MOST 1048576: true; the input reads as it did. -/
def scoreFadesUptoRow : OpenClaim := { program := "ytainjcpocodehaa", sum := "917aa97a29e9b8a0c8082623e1a49d406679b0e2188b50b801258317b54a76ca", func := "halfwayhouse/halfwayhouselaw23.ScoreFades", spec := "scoreFades", inPlace := ["math.Float64bits", "math.Float64frombits"], apart := false, narrowed := true }
def ScoreFadesUptoSaid : Prop := scoreFadesUptoRow.holds Try.pinned (OpenSpec.upto scoreFadesSpec)

/-- 'halfwayhouselaw23.ScoreSorts', WHERE WHAT IT READS IS OF BULK AT MOST 1048576: true; the input reads as it did. -/
def scoreSortsUptoRow : OpenClaim := { program := "ytainjcpocodehaa", sum := "917aa97a29e9b8a0c8082623e1a49d406679b0e2188b50b801258317b54a76ca", func := "halfwayhouse/halfwayhouselaw23.ScoreSorts", spec := "scoreSorts", inPlace := ["math.Float64bits", "math.Float64frombits"], unfollowed := true, recurses := true, apart := false, narrowed := true }
def ScoreSortsUptoSaid : Prop := scoreSortsUptoRow.holds Try.pinned (OpenSpec.upto scoreSortsSpec)

/-- 'halfwayhouselaw23.ScoreCalls', WHERE WHAT IT READS IS OF BULK AT MOST 1048576: true; the input reads as it did. -/
def scoreCallsUptoRow : OpenClaim := { program := "ytainjcpocodehaa", sum := "917aa97a29e9b8a0c8082623e1a49d406679b0e2188b50b801258317b54a76ca", func := "halfwayhouse/halfwayhouselaw23.ScoreCalls", spec := "scoreCalls", inPlace := ["math.Float64bits", "math.Float64frombits"], unfollowed := true, recurses := true, apart := false, narrowed := true }
def ScoreCallsUptoSaid : Prop := scoreCallsUptoRow.holds Try.pinned (OpenSpec.upto scoreCallsSpec)

/-- 'halfwayhouselaw18.TimerNext', WHERE WHAT IT READS IS OF BULK AT MOST 1048576: true; the input reads as it did. -/
def timerNextUptoRow : OpenClaim := { program := "ytainjcpocodehaa", sum := "917aa97a29e9b8a0c8082623e1a49d406679b0e2188b50b801258317b54a76ca", func := "halfwayhouse/halfwayhouselaw18.TimerNext", spec := "timerNext", apart := false, narrowed := true }
def TimerNextUptoSaid : Prop := timerNextUptoRow.holds Try.pinned (OpenSpec.upto timerNextSpec)

/-- 'halfwayhouselaw18.TimerOnce', WHERE WHAT IT READS IS OF BULK AT MOST 1048576: true; the input reads as it did. -/
def timerOnceUptoRow : OpenClaim := { program := "ytainjcpocodehaa", sum := "917aa97a29e9b8a0c8082623e1a49d406679b0e2188b50b801258317b54a76ca", func := "halfwayhouse/halfwayhouselaw18.TimerOnce", spec := "timerOnce", apart := false, narrowed := true }
def TimerOnceUptoSaid : Prop := timerOnceUptoRow.holds Try.pinned (OpenSpec.upto timerOnceSpec)

/-- 'halfwayhouselaw18.TimerRises', WHERE WHAT IT READS IS OF BULK AT MOST 1048576: true; the input reads as it did. -/
def timerRisesUptoRow : OpenClaim := { program := "ytainjcpocodehaa", sum := "917aa97a29e9b8a0c8082623e1a49d406679b0e2188b50b801258317b54a76ca", func := "halfwayhouse/halfwayhouselaw18.TimerRises", spec := "timerRises", unfollowed := true, recurses := true, apart := false, narrowed := true }
def TimerRisesUptoSaid : Prop := timerRisesUptoRow.holds Try.pinned (OpenSpec.upto timerRisesSpec)

/-- 'halfwayhouselaw18.TimerScript', WHERE WHAT IT READS IS OF BULK AT MOST 1048576: true; the input reads as it did. -/
def timerScriptUptoRow : OpenClaim := { program := "ytainjcpocodehaa", sum := "917aa97a29e9b8a0c8082623e1a49d406679b0e2188b50b801258317b54a76ca", func := "halfwayhouse/halfwayhouselaw18.TimerScript", spec := "timerScript", unfollowed := true, recurses := true, apart := false, narrowed := true }
def TimerScriptUptoSaid : Prop := timerScriptUptoRow.holds Try.pinned (OpenSpec.upto timerScriptSpec)

end Rows
end Go.Proofs.Ytainjcpocodehaa

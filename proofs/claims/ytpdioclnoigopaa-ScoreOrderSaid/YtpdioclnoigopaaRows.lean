/-
  No cell of these rows narrows 'for every input' (looked for: loops, veiled, ifaces, maps, wideKeys, modest, calm, conditions, laid).
  DERIVED. THE GIVEN ROWS OF THIS SEAT. 6 by the template 'for every input the law returns true; each argument reads behind the call as it read before'; 0 by the template 'total and deterministic' (their statements: YtpdioclnoigopaaTotals.lean).
  GIVEN WITH THE SEED: the statements are not yours to turn. If you find one false, say at which input.
  Laid BY PROGRAM, IN A SANDBOX (cutbox-rows.mjs): the forced cells as the released guide's own fill.sh prints them over the translation 328343b4571b6372… (all of the seat's roots in one cut). By AI agents, Wed Nov 11 2026. No macro, syntax, notation, axiom, sorry.
-/
import Derived.Test.YtpdioclnoigopaaChecked
import GoSem.Claim
import GoSem.ClaimJoined
import GoSem.ClaimMapViews
import Derived.JoinedTies
import Derived.KernelRfl
namespace Go.Proofs.Ytpdioclnoigopaa
/- THE CELL 'sum', in the pinned program and in every row, IS THE sha256 OF THE DUMP (.gsa) THAT YtpdioclnoigopaaProg.lean LOADS. Nothing in Lean hashes anything: it is a label: what it is worth is what the hold of that sum in a sandbox is worth. -/
noncomputable def Try.pinned : Pinned := { name := "ytpdioclnoigopaa", sum := "328343b4571b6372bd8e3febe9a7c225c3690349d5a2a12ea447d6fd1d83863a", checked := Try.checked }
namespace Rows
def none {H : Type} : Left H := { results := [], args := [] }

/-- 'halfwayhouselaw23.ScoreOrder': WHATEVER THE INPUT: true; the input reads as it did. -/
def scoreOrderSpec : ChangeSpec := { name := "scoreOrder", fn := fun _ => fun
  | [d1, d2, d3] => { results := [.lit (.bool true)], args := [d1, d2, d3] }
  | _ => none }
def scoreOrderRow : OpenClaim := { program := "ytpdioclnoigopaa", sum := "328343b4571b6372bd8e3febe9a7c225c3690349d5a2a12ea447d6fd1d83863a", func := "halfwayhouse/halfwayhouselaw23.ScoreOrder", spec := "scoreOrder", inPlace := ["math.Float64bits", "math.Float64frombits"], apart := false }
def ScoreOrderSaid : Prop := scoreOrderRow.holds Try.pinned (OpenSpec.ofChange scoreOrderSpec)

/-- ITS FALSE NEIGHBOUR: 'it returns false'. Refute it at one input. -/
def scoreOrderWrong : ChangeSpec := { name := "scoreOrder", fn := fun _ => fun
  | [d1, d2, d3] => { results := [.lit (.bool false)], args := [d1, d2, d3] }
  | _ => none }
def ScoreOrderWrongFalsely : Prop := scoreOrderRow.holds Try.pinned (OpenSpec.ofChange scoreOrderWrong)

/-- 'halfwayhouselaw23.ScoreFades': WHATEVER THE INPUT: true; the input reads as it did. -/
def scoreFadesSpec : ChangeSpec := { name := "scoreFades", fn := fun _ => fun
  | [d1, d2, d3, d4, d5, d6] => { results := [.lit (.bool true)], args := [d1, d2, d3, d4, d5, d6] }
  | _ => none }
def scoreFadesRow : OpenClaim := { program := "ytpdioclnoigopaa", sum := "328343b4571b6372bd8e3febe9a7c225c3690349d5a2a12ea447d6fd1d83863a", func := "halfwayhouse/halfwayhouselaw23.ScoreFades", spec := "scoreFades", inPlace := ["math.Float64bits", "math.Float64frombits"], apart := false }
def ScoreFadesSaid : Prop := scoreFadesRow.holds Try.pinned (OpenSpec.ofChange scoreFadesSpec)

/-- ITS FALSE NEIGHBOUR: 'it returns false'. Refute it at one input. -/
def scoreFadesWrong : ChangeSpec := { name := "scoreFades", fn := fun _ => fun
  | [d1, d2, d3, d4, d5, d6] => { results := [.lit (.bool false)], args := [d1, d2, d3, d4, d5, d6] }
  | _ => none }
def ScoreFadesWrongFalsely : Prop := scoreFadesRow.holds Try.pinned (OpenSpec.ofChange scoreFadesWrong)

/-- 'halfwayhouselaw23.ScoreClamps': WHATEVER THE INPUT: true; the input reads as it did. -/
def scoreClampsSpec : ChangeSpec := { name := "scoreClamps", fn := fun _ => fun
  | [d1, d2, d3] => { results := [.lit (.bool true)], args := [d1, d2, d3] }
  | _ => none }
def scoreClampsRow : OpenClaim := { program := "ytpdioclnoigopaa", sum := "328343b4571b6372bd8e3febe9a7c225c3690349d5a2a12ea447d6fd1d83863a", func := "halfwayhouse/halfwayhouselaw23.ScoreClamps", spec := "scoreClamps", inPlace := ["math.Float64bits", "math.Float64frombits"], unfollowed := true, recurses := true, apart := false }
def ScoreClampsSaid : Prop := scoreClampsRow.holds Try.pinned (OpenSpec.ofChange scoreClampsSpec)

/-- ITS FALSE NEIGHBOUR: 'it returns false'. Refute it at one input. -/
def scoreClampsWrong : ChangeSpec := { name := "scoreClamps", fn := fun _ => fun
  | [d1, d2, d3] => { results := [.lit (.bool false)], args := [d1, d2, d3] }
  | _ => none }
def ScoreClampsWrongFalsely : Prop := scoreClampsRow.holds Try.pinned (OpenSpec.ofChange scoreClampsWrong)

/-- 'halfwayhouselaw23.ScoreSorts': WHATEVER THE INPUT: true; the input reads as it did. -/
def scoreSortsSpec : ChangeSpec := { name := "scoreSorts", fn := fun _ => fun
  | [d] => { results := [.lit (.bool true)], args := [d] }
  | _ => none }
def scoreSortsRow : OpenClaim := { program := "ytpdioclnoigopaa", sum := "328343b4571b6372bd8e3febe9a7c225c3690349d5a2a12ea447d6fd1d83863a", func := "halfwayhouse/halfwayhouselaw23.ScoreSorts", spec := "scoreSorts", inPlace := ["math.Float64bits", "math.Float64frombits"], unfollowed := true, recurses := true, apart := false }
def ScoreSortsSaid : Prop := scoreSortsRow.holds Try.pinned (OpenSpec.ofChange scoreSortsSpec)

/-- ITS FALSE NEIGHBOUR: 'it returns false'. Refute it at one input. -/
def scoreSortsWrong : ChangeSpec := { name := "scoreSorts", fn := fun _ => fun
  | [d] => { results := [.lit (.bool false)], args := [d] }
  | _ => none }
def ScoreSortsWrongFalsely : Prop := scoreSortsRow.holds Try.pinned (OpenSpec.ofChange scoreSortsWrong)

/-- 'halfwayhouselaw23.ScoreCalls': WHATEVER THE INPUT: true; the input reads as it did. -/
def scoreCallsSpec : ChangeSpec := { name := "scoreCalls", fn := fun _ => fun
  | [d1, d2, d3, d4, d5] => { results := [.lit (.bool true)], args := [d1, d2, d3, d4, d5] }
  | _ => none }
def scoreCallsRow : OpenClaim := { program := "ytpdioclnoigopaa", sum := "328343b4571b6372bd8e3febe9a7c225c3690349d5a2a12ea447d6fd1d83863a", func := "halfwayhouse/halfwayhouselaw23.ScoreCalls", spec := "scoreCalls", inPlace := ["math.Float64bits", "math.Float64frombits"], unfollowed := true, recurses := true, apart := false }
def ScoreCallsSaid : Prop := scoreCallsRow.holds Try.pinned (OpenSpec.ofChange scoreCallsSpec)

/-- ITS FALSE NEIGHBOUR: 'it returns false'. Refute it at one input. -/
def scoreCallsWrong : ChangeSpec := { name := "scoreCalls", fn := fun _ => fun
  | [d1, d2, d3, d4, d5] => { results := [.lit (.bool false)], args := [d1, d2, d3, d4, d5] }
  | _ => none }
def ScoreCallsWrongFalsely : Prop := scoreCallsRow.holds Try.pinned (OpenSpec.ofChange scoreCallsWrong)

/-- 'halfwayhouselaw23.ScoreNames': WHATEVER THE INPUT: true; the input reads as it did. -/
def scoreNamesSpec : ChangeSpec := { name := "scoreNames", fn := fun _ => fun
  | [] => { results := [.lit (.bool true)], args := [] }
  | _ => none }
def scoreNamesRow : OpenClaim := { program := "ytpdioclnoigopaa", sum := "328343b4571b6372bd8e3febe9a7c225c3690349d5a2a12ea447d6fd1d83863a", func := "halfwayhouse/halfwayhouselaw23.ScoreNames", spec := "scoreNames", inPlace := ["math.Float64bits", "math.Float64frombits"], unfollowed := true, recurses := true, apart := false }
def ScoreNamesSaid : Prop := scoreNamesRow.holds Try.pinned (OpenSpec.ofChange scoreNamesSpec)

/-- ITS FALSE NEIGHBOUR: 'it returns false'. Refute it at one input. -/
def scoreNamesWrong : ChangeSpec := { name := "scoreNames", fn := fun _ => fun
  | [] => { results := [.lit (.bool false)], args := [] }
  | _ => none }
def ScoreNamesWrongFalsely : Prop := scoreNamesRow.holds Try.pinned (OpenSpec.ofChange scoreNamesWrong)

/- THE SECOND FORM. 'bulk': how many values and letters a reading holds, each counted each time it is reached (what is shared counts as often as it is met; a slice's spare places count too). A statement '..UptoSaid' is the law's where the arguments, and the package variables that the reading takes, are together of bulk at most 1048576: NARROWER than '..Said'. Prove '..Said' where nothing that the law and all that it calls make is longer than what came in: it says more and counts as full. Else prove '..UptoSaid'. A law counts once. -/
mutual
def uptoBulk {H : Type} : DataW H → Nat
  | .lit (.string bytes) => bytes.length + 1
  | .lit _ => 1
  | .nil => 1
  | .ptr d => uptoBulk d + 1
  | .slice elems spare => uptoBulkAll elems + uptoBulkAll spare + 1
  | .agg parts => uptoBulkAll parts + 1
  | .iface _ d => uptoBulk d + 1
  | .map entries => uptoBulkEntries entries + 1
  | .held _ => 1
def uptoBulkAll {H : Type} : List (DataW H) → Nat
  | [] => 0
  | d :: r => uptoBulk d + uptoBulkAll r
def uptoBulkEntries {H : Type} : List (Lit × DataW H) → Nat
  | [] => 0
  | x :: r => uptoBulkEntry x + uptoBulkEntries r
def uptoBulkEntry {H : Type} : Lit × DataW H → Nat
  | (.string bytes, d) => bytes.length + uptoBulk d + 1
  | (_, d) => uptoBulk d + 1
 end
def uptoSmall : (H : Type) → List (DataW H) → Bool := fun _ ds => decide (uptoBulkAll ds ≤ 1048576)
def OpenSpec.upto (s : _root_.Go.ChangeSpec) : _root_.Go.OpenSpec := { _root_.Go.OpenSpec.ofChange s with cond := some uptoSmall }

/-- 'halfwayhouselaw23.ScoreOrder', WHERE WHAT IT READS IS OF BULK AT MOST 1048576: true; the input reads as it did. -/
def scoreOrderUptoRow : OpenClaim := { program := "ytpdioclnoigopaa", sum := "328343b4571b6372bd8e3febe9a7c225c3690349d5a2a12ea447d6fd1d83863a", func := "halfwayhouse/halfwayhouselaw23.ScoreOrder", spec := "scoreOrder", inPlace := ["math.Float64bits", "math.Float64frombits"], apart := false, narrowed := true }
def ScoreOrderUptoSaid : Prop := scoreOrderUptoRow.holds Try.pinned (OpenSpec.upto scoreOrderSpec)

/-- 'halfwayhouselaw23.ScoreFades', WHERE WHAT IT READS IS OF BULK AT MOST 1048576: true; the input reads as it did. -/
def scoreFadesUptoRow : OpenClaim := { program := "ytpdioclnoigopaa", sum := "328343b4571b6372bd8e3febe9a7c225c3690349d5a2a12ea447d6fd1d83863a", func := "halfwayhouse/halfwayhouselaw23.ScoreFades", spec := "scoreFades", inPlace := ["math.Float64bits", "math.Float64frombits"], apart := false, narrowed := true }
def ScoreFadesUptoSaid : Prop := scoreFadesUptoRow.holds Try.pinned (OpenSpec.upto scoreFadesSpec)

/-- 'halfwayhouselaw23.ScoreClamps', WHERE WHAT IT READS IS OF BULK AT MOST 1048576: true; the input reads as it did. -/
def scoreClampsUptoRow : OpenClaim := { program := "ytpdioclnoigopaa", sum := "328343b4571b6372bd8e3febe9a7c225c3690349d5a2a12ea447d6fd1d83863a", func := "halfwayhouse/halfwayhouselaw23.ScoreClamps", spec := "scoreClamps", inPlace := ["math.Float64bits", "math.Float64frombits"], unfollowed := true, recurses := true, apart := false, narrowed := true }
def ScoreClampsUptoSaid : Prop := scoreClampsUptoRow.holds Try.pinned (OpenSpec.upto scoreClampsSpec)

/-- 'halfwayhouselaw23.ScoreSorts', WHERE WHAT IT READS IS OF BULK AT MOST 1048576: true; the input reads as it did. -/
def scoreSortsUptoRow : OpenClaim := { program := "ytpdioclnoigopaa", sum := "328343b4571b6372bd8e3febe9a7c225c3690349d5a2a12ea447d6fd1d83863a", func := "halfwayhouse/halfwayhouselaw23.ScoreSorts", spec := "scoreSorts", inPlace := ["math.Float64bits", "math.Float64frombits"], unfollowed := true, recurses := true, apart := false, narrowed := true }
def ScoreSortsUptoSaid : Prop := scoreSortsUptoRow.holds Try.pinned (OpenSpec.upto scoreSortsSpec)

/-- 'halfwayhouselaw23.ScoreCalls', WHERE WHAT IT READS IS OF BULK AT MOST 1048576: true; the input reads as it did. -/
def scoreCallsUptoRow : OpenClaim := { program := "ytpdioclnoigopaa", sum := "328343b4571b6372bd8e3febe9a7c225c3690349d5a2a12ea447d6fd1d83863a", func := "halfwayhouse/halfwayhouselaw23.ScoreCalls", spec := "scoreCalls", inPlace := ["math.Float64bits", "math.Float64frombits"], unfollowed := true, recurses := true, apart := false, narrowed := true }
def ScoreCallsUptoSaid : Prop := scoreCallsUptoRow.holds Try.pinned (OpenSpec.upto scoreCallsSpec)

/-- 'halfwayhouselaw23.ScoreNames', WHERE WHAT IT READS IS OF BULK AT MOST 1048576: true; the input reads as it did. -/
def scoreNamesUptoRow : OpenClaim := { program := "ytpdioclnoigopaa", sum := "328343b4571b6372bd8e3febe9a7c225c3690349d5a2a12ea447d6fd1d83863a", func := "halfwayhouse/halfwayhouselaw23.ScoreNames", spec := "scoreNames", inPlace := ["math.Float64bits", "math.Float64frombits"], unfollowed := true, recurses := true, apart := false, narrowed := true }
def ScoreNamesUptoSaid : Prop := scoreNamesUptoRow.holds Try.pinned (OpenSpec.upto scoreNamesSpec)

end Rows
end Go.Proofs.Ytpdioclnoigopaa

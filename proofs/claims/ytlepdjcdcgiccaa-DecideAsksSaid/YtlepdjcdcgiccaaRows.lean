/-
  No cell of these rows narrows 'for every input' (looked for: loops, veiled, ifaces, maps, wideKeys, modest, calm, conditions, laid).
  DERIVED. THE GIVEN ROWS OF THIS SEAT. 4 by the template 'for every input the law returns true; each argument reads behind the call as it read before'; 0 by the template 'total and deterministic' (their statements: YtlepdjcdcgiccaaTotals.lean).
  GIVEN WITH THE SEED: the statements are not yours to turn. If you find one false, say at which input.
  Laid BY PROGRAM, IN A SANDBOX (cutbox-rows.mjs): the forced cells as the released guide's own fill.sh prints them over the translation da4469effe94518f… (all of the seat's roots in one cut). By AI agents, Wed Nov 11 2026. No macro, syntax, notation, axiom, sorry.
-/
import Derived.Test.YtlepdjcdcgiccaaChecked
import GoSem.Claim
import GoSem.ClaimJoined
import GoSem.ClaimMapViews
import Derived.JoinedTies
import Derived.KernelRfl
namespace Go.Proofs.Ytlepdjcdcgiccaa
/- THE CELL 'sum', in the pinned program and in every row, IS THE sha256 OF THE DUMP (.gsa) THAT YtlepdjcdcgiccaaProg.lean LOADS. Nothing in Lean hashes anything: it is a label: what it is worth is what the hold of that sum in a sandbox is worth. -/
noncomputable def Try.pinned : Pinned := { name := "ytlepdjcdcgiccaa", sum := "da4469effe94518f35c12e72714ca1ae27224d0008bfd674da76d863804abcab", checked := Try.checked }
namespace Rows
def none {H : Type} : Left H := { results := [], args := [] }

/-- 'halfwayhouselaw15.DecideAsks': WHATEVER THE INPUT: true; the input reads as it did. -/
def decideAsksSpec : ChangeSpec := { name := "decideAsks", fn := fun _ => fun
  | [d1, d2, d3, d4] => { results := [.lit (.bool true)], args := [d1, d2, d3, d4] }
  | _ => none }
def decideAsksRow : OpenClaim := { program := "ytlepdjcdcgiccaa", sum := "da4469effe94518f35c12e72714ca1ae27224d0008bfd674da76d863804abcab", func := "halfwayhouse/halfwayhouselaw15.DecideAsks", spec := "decideAsks", unfollowed := true, recurses := true, apart := false }
def DecideAsksSaid : Prop := decideAsksRow.holds Try.pinned (OpenSpec.ofChange decideAsksSpec)

/-- ITS FALSE NEIGHBOUR: 'it returns false'. Refute it at one input. -/
def decideAsksWrong : ChangeSpec := { name := "decideAsks", fn := fun _ => fun
  | [d1, d2, d3, d4] => { results := [.lit (.bool false)], args := [d1, d2, d3, d4] }
  | _ => none }
def DecideAsksWrongFalsely : Prop := decideAsksRow.holds Try.pinned (OpenSpec.ofChange decideAsksWrong)

/-- 'halfwayhouselaw14.AgeParts': WHATEVER THE INPUT: true; the input reads as it did. -/
def agePartsSpec : ChangeSpec := { name := "ageParts", fn := fun _ => fun
  | [d1, d2, d3, d4] => { results := [.lit (.bool true)], args := [d1, d2, d3, d4] }
  | _ => none }
def agePartsRow : OpenClaim := { program := "ytlepdjcdcgiccaa", sum := "da4469effe94518f35c12e72714ca1ae27224d0008bfd674da76d863804abcab", func := "halfwayhouse/halfwayhouselaw14.AgeParts", spec := "ageParts", inPlace := ["math.archFloor", "math.Float64bits", "math.Float64frombits", "math.archTrunc"], apart := false }
def AgePartsSaid : Prop := agePartsRow.holds Try.pinned (OpenSpec.ofChange agePartsSpec)

/-- ITS FALSE NEIGHBOUR: 'it returns false'. Refute it at one input. -/
def agePartsWrong : ChangeSpec := { name := "ageParts", fn := fun _ => fun
  | [d1, d2, d3, d4] => { results := [.lit (.bool false)], args := [d1, d2, d3, d4] }
  | _ => none }
def AgePartsWrongFalsely : Prop := agePartsRow.holds Try.pinned (OpenSpec.ofChange agePartsWrong)

/-- 'halfwayhouselaw14.AgeHalves': WHATEVER THE INPUT: true; the input reads as it did. -/
def ageHalvesSpec : ChangeSpec := { name := "ageHalves", fn := fun _ => fun
  | [d1, d2] => { results := [.lit (.bool true)], args := [d1, d2] }
  | _ => none }
def ageHalvesRow : OpenClaim := { program := "ytlepdjcdcgiccaa", sum := "da4469effe94518f35c12e72714ca1ae27224d0008bfd674da76d863804abcab", func := "halfwayhouse/halfwayhouselaw14.AgeHalves", spec := "ageHalves", inPlace := ["math.archFloor", "math.Float64bits", "math.Float64frombits", "math.archTrunc"], apart := false }
def AgeHalvesSaid : Prop := ageHalvesRow.holds Try.pinned (OpenSpec.ofChange ageHalvesSpec)

/-- ITS FALSE NEIGHBOUR: 'it returns false'. Refute it at one input. -/
def ageHalvesWrong : ChangeSpec := { name := "ageHalves", fn := fun _ => fun
  | [d1, d2] => { results := [.lit (.bool false)], args := [d1, d2] }
  | _ => none }
def AgeHalvesWrongFalsely : Prop := ageHalvesRow.holds Try.pinned (OpenSpec.ofChange ageHalvesWrong)

/-- 'halfwayhouselaw15.DecideStores': WHATEVER THE INPUT: true; the input reads as it did. -/
def decideStoresSpec : ChangeSpec := { name := "decideStores", fn := fun _ => fun
  | [d1, d2] => { results := [.lit (.bool true)], args := [d1, d2] }
  | _ => none }
def decideStoresRow : OpenClaim := { program := "ytlepdjcdcgiccaa", sum := "da4469effe94518f35c12e72714ca1ae27224d0008bfd674da76d863804abcab", func := "halfwayhouse/halfwayhouselaw15.DecideStores", spec := "decideStores", unfollowed := true, recurses := true, apart := false }
def DecideStoresSaid : Prop := decideStoresRow.holds Try.pinned (OpenSpec.ofChange decideStoresSpec)

/-- ITS FALSE NEIGHBOUR: 'it returns false'. Refute it at one input. -/
def decideStoresWrong : ChangeSpec := { name := "decideStores", fn := fun _ => fun
  | [d1, d2] => { results := [.lit (.bool false)], args := [d1, d2] }
  | _ => none }
def DecideStoresWrongFalsely : Prop := decideStoresRow.holds Try.pinned (OpenSpec.ofChange decideStoresWrong)

/- THE SECOND FORM. 'bulk': how many values and letters a reading holds, each counted each time it is reached (what is shared counts as often as it is met; a slice's spare places count too). A statement '..UptoSaid' is the law's where the arguments, and the package variables that the reading takes, are together of bulk at most 1048576: NARROWER than '..Said'. Prove '..Said' where nothing that the law and all that it calls make is longer than what came in: it says more and counts as full. Else prove '..UptoSaid'. A law counts once. -/
mutual
def uptoBulk {H : Type} : DataW H → Nat
  | .lit (.string bytes) => bytes.length + 1
  | .lit _ => 1
  | .nil => 1
  | .ptr d => uptoBulk d + 1
  | .slice elems spare => uptoBulkAll elems + uptoBulkAll spare + 1
  | .agg parts => uptoBulkAll parts + 1
  | .iface _ d => uptoBulk d + 1
  | .map entries => uptoBulkEntries entries + 1
  | .held _ => 1
def uptoBulkAll {H : Type} : List (DataW H) → Nat
  | [] => 0
  | d :: r => uptoBulk d + uptoBulkAll r
def uptoBulkEntries {H : Type} : List (Lit × DataW H) → Nat
  | [] => 0
  | x :: r => uptoBulkEntry x + uptoBulkEntries r
def uptoBulkEntry {H : Type} : Lit × DataW H → Nat
  | (.string bytes, d) => bytes.length + uptoBulk d + 1
  | (_, d) => uptoBulk d + 1
 end
def uptoSmall : (H : Type) → List (DataW H) → Bool := fun _ ds => decide (uptoBulkAll ds ≤ 1048576)
def OpenSpec.upto (s : _root_.Go.ChangeSpec) : _root_.Go.OpenSpec := { _root_.Go.OpenSpec.ofChange s with cond := some uptoSmall }

/-- 'halfwayhouselaw15.DecideAsks', WHERE WHAT IT READS IS OF BULK AT MOST 1048576: true; the input reads as it did. -/
def decideAsksUptoRow : OpenClaim := { program := "ytlepdjcdcgiccaa", sum := "da4469effe94518f35c12e72714ca1ae27224d0008bfd674da76d863804abcab", func := "halfwayhouse/halfwayhouselaw15.DecideAsks", spec := "decideAsks", unfollowed := true, recurses := true, apart := false, narrowed := true }
def DecideAsksUptoSaid : Prop := decideAsksUptoRow.holds Try.pinned (OpenSpec.upto decideAsksSpec)

/-- 'halfwayhouselaw14.AgeParts', WHERE WHAT IT READS IS OF BULK AT MOST 1048576: true; the input reads as it did. -/
def agePartsUptoRow : OpenClaim := { program := "ytlepdjcdcgiccaa", sum := "da4469effe94518f35c12e72714ca1ae27224d0008bfd674da76d863804abcab", func := "halfwayhouse/halfwayhouselaw14.AgeParts", spec := "ageParts", inPlace := ["math.archFloor", "math.Float64bits", "math.Float64frombits", "math.archTrunc"], apart := false, narrowed := true }
def AgePartsUptoSaid : Prop := agePartsUptoRow.holds Try.pinned (OpenSpec.upto agePartsSpec)

/-- 'halfwayhouselaw14.AgeHalves', WHERE WHAT IT READS IS OF BULK AT MOST 1048576: true; the input reads as it did. -/
def ageHalvesUptoRow : OpenClaim := { program := "ytlepdjcdcgiccaa", sum := "da4469effe94518f35c12e72714ca1ae27224d0008bfd674da76d863804abcab", func := "halfwayhouse/halfwayhouselaw14.AgeHalves", spec := "ageHalves", inPlace := ["math.archFloor", "math.Float64bits", "math.Float64frombits", "math.archTrunc"], apart := false, narrowed := true }
def AgeHalvesUptoSaid : Prop := ageHalvesUptoRow.holds Try.pinned (OpenSpec.upto ageHalvesSpec)

/-- 'halfwayhouselaw15.DecideStores', WHERE WHAT IT READS IS OF BULK AT MOST 1048576: true; the input reads as it did. -/
def decideStoresUptoRow : OpenClaim := { program := "ytlepdjcdcgiccaa", sum := "da4469effe94518f35c12e72714ca1ae27224d0008bfd674da76d863804abcab", func := "halfwayhouse/halfwayhouselaw15.DecideStores", spec := "decideStores", unfollowed := true, recurses := true, apart := false, narrowed := true }
def DecideStoresUptoSaid : Prop := decideStoresUptoRow.holds Try.pinned (OpenSpec.upto decideStoresSpec)

end Rows
end Go.Proofs.Ytlepdjcdcgiccaa

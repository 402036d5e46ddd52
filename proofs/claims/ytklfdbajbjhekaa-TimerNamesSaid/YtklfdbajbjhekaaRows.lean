/-
  No cell of these rows narrows 'for every input' (looked for: loops, veiled, ifaces, maps, wideKeys, modest, calm, conditions, laid).
  DERIVED. THE GIVEN ROWS OF THIS SEAT. 5 by the template 'for every input the law returns true; each argument reads behind the call as it read before'; 0 by the template 'total and deterministic' (their statements: YtklfdbajbjhekaaTotals.lean).
  GIVEN WITH THE SEED: the statements are not yours to turn. If you find one false, say at which input.
  Laid BY PROGRAM, IN A SANDBOX (cutbox-rows.mjs): the forced cells as the released guide's own fill.sh prints them over the translation e71e30bceee075e0… (all of the seat's roots in one cut). By AI agents, Wed Nov 11 2026. No macro, syntax, notation, axiom, sorry.
-/
import Derived.Test.YtklfdbajbjhekaaChecked
import GoSem.Claim
import GoSem.ClaimJoined
import GoSem.ClaimMapViews
import Derived.JoinedTies
import Derived.KernelRfl
namespace Go.Proofs.Ytklfdbajbjhekaa
/- THE CELL 'sum', in the pinned program and in every row, IS THE sha256 OF THE DUMP (.gsa) THAT YtklfdbajbjhekaaProg.lean LOADS. Nothing in Lean hashes anything: it is a label: what it is worth is what the hold of that sum in a sandbox is worth. -/
noncomputable def Try.pinned : Pinned := { name := "ytklfdbajbjhekaa", sum := "e71e30bceee075e0791d0497a6b21f4e8487d5c7f523614ac0e06df907d833b6", checked := Try.checked }
namespace Rows
def none {H : Type} : Left H := { results := [], args := [] }

/-- 'halfwayhouselaw18.TimerOnce': WHATEVER THE INPUT: true; the input reads as it did. -/
def timerOnceSpec : ChangeSpec := { name := "timerOnce", fn := fun _ => fun
  | [d] => { results := [.lit (.bool true)], args := [d] }
  | _ => none }
def timerOnceRow : OpenClaim := { program := "ytklfdbajbjhekaa", sum := "e71e30bceee075e0791d0497a6b21f4e8487d5c7f523614ac0e06df907d833b6", func := "halfwayhouse/halfwayhouselaw18.TimerOnce", spec := "timerOnce", apart := false }
def TimerOnceSaid : Prop := timerOnceRow.holds Try.pinned (OpenSpec.ofChange timerOnceSpec)

/-- ITS FALSE NEIGHBOUR: 'it returns false'. Refute it at one input. -/
def timerOnceWrong : ChangeSpec := { name := "timerOnce", fn := fun _ => fun
  | [d] => { results := [.lit (.bool false)], args := [d] }
  | _ => none }
def TimerOnceWrongFalsely : Prop := timerOnceRow.holds Try.pinned (OpenSpec.ofChange timerOnceWrong)

/-- 'halfwayhouselaw18.TimerNext': WHATEVER THE INPUT: true; the input reads as it did. -/
def timerNextSpec : ChangeSpec := { name := "timerNext", fn := fun _ => fun
  | [d1, d2] => { results := [.lit (.bool true)], args := [d1, d2] }
  | _ => none }
def timerNextRow : OpenClaim := { program := "ytklfdbajbjhekaa", sum := "e71e30bceee075e0791d0497a6b21f4e8487d5c7f523614ac0e06df907d833b6", func := "halfwayhouse/halfwayhouselaw18.TimerNext", spec := "timerNext", apart := false }
def TimerNextSaid : Prop := timerNextRow.holds Try.pinned (OpenSpec.ofChange timerNextSpec)

/-- ITS FALSE NEIGHBOUR: 'it returns false'. Refute it at one input. -/
def timerNextWrong : ChangeSpec := { name := "timerNext", fn := fun _ => fun
  | [d1, d2] => { results := [.lit (.bool false)], args := [d1, d2] }
  | _ => none }
def TimerNextWrongFalsely : Prop := timerNextRow.holds Try.pinned (OpenSpec.ofChange timerNextWrong)

/-- 'halfwayhouselaw18.TimerNames': WHATEVER THE INPUT: true; the input reads as it did. -/
def timerNamesSpec : ChangeSpec := { name := "timerNames", fn := fun _ => fun
  | [] => { results := [.lit (.bool true)], args := [] }
  | _ => none }
def timerNamesRow : OpenClaim := { program := "ytklfdbajbjhekaa", sum := "e71e30bceee075e0791d0497a6b21f4e8487d5c7f523614ac0e06df907d833b6", func := "halfwayhouse/halfwayhouselaw18.TimerNames", spec := "timerNames", apart := false }
def TimerNamesSaid : Prop := timerNamesRow.holds Try.pinned (OpenSpec.ofChange timerNamesSpec)

/-- ITS FALSE NEIGHBOUR: 'it returns false'. Refute it at one input. -/
def timerNamesWrong : ChangeSpec := { name := "timerNames", fn := fun _ => fun
  | [] => { results := [.lit (.bool false)], args := [] }
  | _ => none }
def TimerNamesWrongFalsely : Prop := timerNamesRow.holds Try.pinned (OpenSpec.ofChange timerNamesWrong)

/-- 'halfwayhouselaw18.TimerRises': WHATEVER THE INPUT: true; the input reads as it did. -/
def timerRisesSpec : ChangeSpec := { name := "timerRises", fn := fun _ => fun
  | [d] => { results := [.lit (.bool true)], args := [d] }
  | _ => none }
def timerRisesRow : OpenClaim := { program := "ytklfdbajbjhekaa", sum := "e71e30bceee075e0791d0497a6b21f4e8487d5c7f523614ac0e06df907d833b6", func := "halfwayhouse/halfwayhouselaw18.TimerRises", spec := "timerRises", unfollowed := true, recurses := true, apart := false }
def TimerRisesSaid : Prop := timerRisesRow.holds Try.pinned (OpenSpec.ofChange timerRisesSpec)

/-- ITS FALSE NEIGHBOUR: 'it returns false'. Refute it at one input. -/
def timerRisesWrong : ChangeSpec := { name := "timerRises", fn := fun _ => fun
  | [d] => { results := [.lit (.bool false)], args := [d] }
  | _ => none }
def TimerRisesWrongFalsely : Prop := timerRisesRow.holds Try.pinned (OpenSpec.ofChange timerRisesWrong)

/-- 'halfwayhouselaw18.TimerScript': WHATEVER THE INPUT: true; the input reads as it did. -/
def timerScriptSpec : ChangeSpec := { name := "timerScript", fn := fun _ => fun
  | [d1, d2] => { results := [.lit (.bool true)], args := [d1, d2] }
  | _ => none }
def timerScriptRow : OpenClaim := { program := "ytklfdbajbjhekaa", sum := "e71e30bceee075e0791d0497a6b21f4e8487d5c7f523614ac0e06df907d833b6", func := "halfwayhouse/halfwayhouselaw18.TimerScript", spec := "timerScript", unfollowed := true, recurses := true, apart := false }
def TimerScriptSaid : Prop := timerScriptRow.holds Try.pinned (OpenSpec.ofChange timerScriptSpec)

/-- ITS FALSE NEIGHBOUR: 'it returns false'. Refute it at one input. -/
def timerScriptWrong : ChangeSpec := { name := "timerScript", fn := fun _ => fun
  | [d1, d2] => { results := [.lit (.bool false)], args := [d1, d2] }
  | _ => none }
def TimerScriptWrongFalsely : Prop := timerScriptRow.holds Try.pinned (OpenSpec.ofChange timerScriptWrong)

/- THE SECOND FORM. 'bulk': how many values and letters a reading holds, each counted each time it is reached (what is shared counts as often as it is met; a slice's spare places count too). A statement '..UptoSaid' is the law's where the arguments, and the package variables that the reading takes, are together of bulk at most 1048576: NARROWER than '..Said'. Prove '..Said' where nothing that the law and all that it calls make is longer than what came in: it says more and counts as full. Else prove '..UptoSaid'. A law counts once. -/
mutual
def uptoBulk {H : Type} : DataW H → Nat
  | .lit (.string bytes) => bytes.length + 1
  | .lit _ => 1
  | .nil => 1
  | .ptr d => uptoBulk d + 1
  | .slice elems spare => uptoBulkAll elems + uptoBulkAll spare + 1
  | .agg parts => uptoBulkAll parts + 1
  | .iface _ d => uptoBulk d + 1
  | .map entries => uptoBulkEntries entries + 1
  | .held _ => 1
def uptoBulkAll {H : Type} : List (DataW H) → Nat
  | [] => 0
  | d :: r => uptoBulk d + uptoBulkAll r
def uptoBulkEntries {H : Type} : List (Lit × DataW H) → Nat
  | [] => 0
  | x :: r => uptoBulkEntry x + uptoBulkEntries r
def uptoBulkEntry {H : Type} : Lit × DataW H → Nat
  | (.string bytes, d) => bytes.length + uptoBulk d + 1
  | (_, d) => uptoBulk d + 1
 end
def uptoSmall : (H : Type) → List (DataW H) → Bool := fun _ ds => decide (uptoBulkAll ds ≤ 1048576)
def OpenSpec.upto (s : _root_.Go.ChangeSpec) : _root_.Go.OpenSpec := { _root_.Go.OpenSpec.ofChange s with cond := some uptoSmall }

/-- 'halfwayhouselaw18.TimerOnce', WHERE WHAT IT READS IS OF BULK AT MOST 1048576: true; the input reads as it did. -/
def timerOnceUptoRow : OpenClaim := { program := "ytklfdbajbjhekaa", sum := "e71e30bceee075e0791d0497a6b21f4e8487d5c7f523614ac0e06df907d833b6", func := "halfwayhouse/halfwayhouselaw18.TimerOnce", spec := "timerOnce", apart := false, narrowed := true }
def TimerOnceUptoSaid : Prop := timerOnceUptoRow.holds Try.pinned (OpenSpec.upto timerOnceSpec)

/-- 'halfwayhouselaw18.TimerNext', WHERE WHAT IT READS IS OF BULK AT MOST 1048576: true; the input reads as it did. -/
def timerNextUptoRow : OpenClaim := { program := "ytklfdbajbjhekaa", sum := "e71e30bceee075e0791d0497a6b21f4e8487d5c7f523614ac0e06df907d833b6", func := "halfwayhouse/halfwayhouselaw18.TimerNext", spec := "timerNext", apart := false, narrowed := true }
def TimerNextUptoSaid : Prop := timerNextUptoRow.holds Try.pinned (OpenSpec.upto timerNextSpec)

/-- 'halfwayhouselaw18.TimerNames', WHERE WHAT IT READS IS OF BULK AT MOST 1048576: true; the input reads as it did. -/
def timerNamesUptoRow : OpenClaim := { program := "ytklfdbajbjhekaa", sum := "e71e30bceee075e0791d0497a6b21f4e8487d5c7f523614ac0e06df907d833b6", func := "halfwayhouse/halfwayhouselaw18.TimerNames", spec := "timerNames", apart := false, narrowed := true }
def TimerNamesUptoSaid : Prop := timerNamesUptoRow.holds Try.pinned (OpenSpec.upto timerNamesSpec)

/-- 'halfwayhouselaw18.TimerRises', WHERE WHAT IT READS IS OF BULK AT MOST 1048576: true; the input reads as it did. -/
def timerRisesUptoRow : OpenClaim := { program := "ytklfdbajbjhekaa", sum := "e71e30bceee075e0791d0497a6b21f4e8487d5c7f523614ac0e06df907d833b6", func := "halfwayhouse/halfwayhouselaw18.TimerRises", spec := "timerRises", unfollowed := true, recurses := true, apart := false, narrowed := true }
def TimerRisesUptoSaid : Prop := timerRisesUptoRow.holds Try.pinned (OpenSpec.upto timerRisesSpec)

/-- 'halfwayhouselaw18.TimerScript', WHERE WHAT IT READS IS OF BULK AT MOST 1048576: true; the input reads as it did. -/
def timerScriptUptoRow : OpenClaim := { program := "ytklfdbajbjhekaa", sum := "e71e30bceee075e0791d0497a6b21f4e8487d5c7f523614ac0e06df907d833b6", func := "halfwayhouse/halfwayhouselaw18.TimerScript", spec := "timerScript", unfollowed := true, recurses := true, apart := false, narrowed := true }
def TimerScriptUptoSaid : Prop := timerScriptUptoRow.holds Try.pinned (OpenSpec.upto timerScriptSpec)

end Rows
end Go.Proofs.Ytklfdbajbjhekaa

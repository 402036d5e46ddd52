/- The evaluator: code and calls. -/
import Derived.Test.YtkgkbpfjdlnoeaaDoorVeG6
namespace Go.Ve
open Go Go.RowKit

/-- The least number of operations behind which the others follow one another. -/
def tailAt (ops : Array Oper) : Option Nat := (List.range ops.size).find? fun k => Region.lexTailB .any ops k
/-- Operations that leave something behind. -/
def effOp : Op → Bool
  | .alloc _ | .box .. | .buildSlice .. | .makeSlice .. | .store .. | .mapUpdate .. | .insert .. | .makeMap .. => true
  | _ => false
def stillB (ops : Array Oper) : Bool := Region.lexB .any ops && !(ops.toList.any fun o => effOp o.op)
def tailQ (ops : Array Oper) : Option Nat :=
  match tailAt ops with
  | some k => if (ops.toList.take k).any fun o => effOp o.op then none else some k
  | none => none
/-- A region that draws its order: all of it changes nothing, or its last operations follow one another, or its operations do not meet. -/
noncomputable def evDraw0 (P : Program) (call : CallF) (ops : Array Oper) (fr : List AV) (H : AH) (lo : Nat) : Option (List AV × AH × Nat) :=
  match (if stillB ops then evQuiet P call ops ops.toList fr H else none) with
  | some fr' => some (fr', H, lo)
  | none =>
    match tailQ ops with
    | none => if stillB ops then none else evGen P call ops (genAt ops) fr H lo
    | some k =>
      match evQuiet P call ops (ops.toList.take k) fr H with
      | none => none
      | some fr1 => evOps P call ops (ops.toList.drop k) fr1 H lo

/-- Does it call for a slice? -/
def newB (P : Program) (ops : Array Oper) : Bool := ops.toList.any fun o =>
  match o.op with
  | .call c => (match c.callee, P.underlying o.type with | .value _, some (.slice _) => true | _, _ => false)
  | _ => false
noncomputable def evDraw (P : Program) (call : CallF) (ops : Array Oper) (fr : List AV) (H : AH) (lo : Nat) : Option (List AV × AH × Nat) :=
  if newB P ops = true then evGen P call ops (genAt ops) fr H lo else evDraw0 P call ops fr H lo

structure Env where
  P : Program
  orc : CallF

def aresult (P : Program) (fr : List AV) (H : AH) : ResultVar → Option AV
  | .tmp t => some (fr.getD t (.tuple []))
  | .cell a t => aload P t H (fr.getD a (.tuple []))
def aresults (P : Program) (fr : List AV) (H : AH) : List ResultVar → Option (List AV)
  | [] => some []
  | r :: rs =>
    match aresult P fr H r, aresults P fr H rs with
    | some v, some vs => some (v :: vs)
    | _, _ => none
def oneOf : List AV → AV
  | [v] => v
  | vs => .tuple vs

noncomputable def evCall (E : Env) (rec : Code → List AV → AH → Nat → Option (AEx × List AV × AH × Nat)) : CallF := fun f args H =>
  match E.orc f args H with
  | some r => some r
  | none =>
    match E.P.funcs[f]? with
    | none => none
    | some fn =>
      match fn.body with
      | none => none
      | some c =>
        match rec c (args ++ List.replicate (fn.ntmps - args.length) (.tuple [])) H H.length with
        | some (.exit _, _, _, _) => none
        | some (_, fr, H', lo) =>
          match aresults E.P fr H' fn.results.toList with
          | some vs => if lo = H.length ∧ (oneOf vs).flat = true then some (oneOf vs, none) else some (oneOf vs, some (H', lo))
          | none => none
        | none => none

noncomputable def ev (E : Env) : Nat → Code → List AV → AH → Nat → Option (AEx × List AV × AH × Nat)
  | 0, _, _, _, _ => none
  | n + 1, c, fr, H, lo =>
    match c with
    | .skip => some (.normal, fr, H, lo)
    | .label _ => some (.normal, fr, H, lo)
    | .region _ ops false =>
      match evOps E.P (evCall E (ev E n)) ops ops.toList fr H lo with
      | some (fr', H', lo') => some (.normal, fr', H', lo')
      | none => none
    | .region _ ops true =>
      match evDraw E.P (evCall E (ev E n)) ops fr H lo with
      | some (fr', H', lo') => some (.normal, fr', H', lo')
      | none => none
    | .seq a b =>
      match ev E n a fr H lo with
      | some (.normal, fr', H', lo') => ev E n b fr' H' lo'
      | r => r
    | .cond c x y =>
      match aeval fr c with
      | .bool true => ev E n x fr H lo
      | .bool false => ev E n y fr H lo
      | _ => none
    | .block id b =>
      match ev E n b fr H lo with
      | some (.exit i, fr', H', lo') => if i = id then some (.normal, fr', H', lo') else some (.exit i, fr', H', lo')
      | r => r
    | .loop b =>
      match ev E n b fr H lo with
      | some (.normal, fr', H', lo') => ev E n (.loop b) fr' H' lo'
      | r => r
    | .exit id => some (.exit id, fr, H, lo)
    | .scope b => ev E n b fr H lo
    | .ret => some (.ret, fr, H, lo)
    | _ => none
end Go.Ve

/- What the layer of tokens answers: texts without white at their ends; the parts between commas. -/
import Derived.Test.YtciciemaldbidaaGreatDoorTrim
set_option linter.unusedSimpArgs false
set_option linter.unusedVariables false
namespace Go.Proofs.YtciciemaldbidaaGreatDoor
open Go Go.Ve
set_option maxRecDepth 20000
def maxS : Nat := 1099511627776
noncomputable def gMk (args : List AV) : Option (Bool × AV) :=
  match args with
  | [.str s] => match bytesEq s white with
    | true => some (true, .tuple [.agg (setC (memB white)), .bool true])
    | false => match bytesEq s digs with
      | true => some (true, .tuple [.agg (setC (memB digs)), .bool true])
      | false => none
  | _ => none
def eEnd (F : (Nat → Bool) → List UInt8 → List UInt8) : SpecE := fun args H =>
  match args with
  | [.str s, .ptr b o] => match o, H[b]? with
    | 0, some (.cells vs 0 false) => some (.need (decide (s.length ≤ maxS)) (.needP (vs = setC (getP vs)) (.ok (.str (F (getP vs) s)) none)))
    | _, _ => none
  | _ => none
noncomputable def T1 : List (Nat × SpecE) := [(87, flatE gMk), (88, eEnd tl), (89, eEnd tr)]
noncomputable def V1 : VE := ⟨Tryz.prog, tabS T1 noS, noO, faT⟩
def trimP (p : Nat → Bool) (s : List UInt8) : List UInt8 := tl p (tr p s)
def trimW (s : List UInt8) : List UInt8 := trimP (memB white) s
def trimD (s : List UInt8) : List UInt8 := trimP (memB digs) s
noncomputable def gTrim (args : List AV) : Option (Bool × AV) :=
  match args with
  | [.str s, .str w] => match bytesEq w white with
    | true => some (decide (s.length ≤ maxS), .str (trimW s))
    | false => match bytesEq w digs with
      | true => some (decide (s.length ≤ maxS), .str (trimD s))
      | false => none
  | _ => none
noncomputable def T2 : List (Nat × SpecE) := [(71, flatE gTrim)]
noncomputable def V2 : VE := ⟨Tryz.prog, tabS T2 noS, noO, faT⟩
def g1 (h : List UInt8 → Bool) (F : List UInt8 → AV) (args : List AV) : Option (Bool × AV) :=
  match args with
  | [.str s] => some (h s, F s)
  | _ => none
def leS (s : List UInt8) : Bool := decide (s.length ≤ maxS)
noncomputable def T3 : List (Nat × SpecE) := [(52, flatE (g1 leS fun s => .str (trimW s)))]
noncomputable def faS (f : FuncId) : Option FA := match Nat.beq f 51 with | true => some ⟨[], [], []⟩ | false => none
noncomputable def V3 : VE := ⟨Tryz.prog, tabS T3 noS, noO, faS⟩
def putF (s : List UInt8) (fm to : Nat) (acc : List (List UInt8)) : List (List UInt8) :=
  if trimW ((s.drop fm).take (to - fm)) = [] then acc else acc ++ [trimW ((s.drop fm).take (to - fm))]
def splitF (s : List UInt8) (i fm : Nat) (q : Bool) (acc : List (List UInt8)) : List (List UInt8) :=
  if i < s.length then
    if q = true ∧ byteAt s i = 92 then splitF s (i + 2) fm q acc
    else if byteAt s i = 34 then splitF s (i + 1) fm (!q) acc
    else if byteAt s i = 44 ∧ q = false then splitF s (i + 1) (i + 1) q (putF s fm i acc)
    else splitF s (i + 1) fm q acc
  else putF s fm s.length acc
termination_by s.length - i
def split (s : List UInt8) : List (List UInt8) := splitF s 0 0 false []
structure SX where
  i : Nat
  fm : Nat
  q : Bool
  acc : List (List UInt8)
def okS (s : List UInt8) (x : SX) : Prop := splitF s x.i x.fm x.q x.acc = split s ∧ x.fm ≤ s.length ∧ x.fm ≤ x.i ∧ x.i ≤ s.length + 1 ∧ x.acc.length ≤ x.fm
def ts (l : List (List UInt8)) : List AV := l.map .str
noncomputable def eT : Nat := btag Tryz.prog 9 1
noncomputable def aSp (s : List UInt8) : Anns := [(4, [
  .mk SX (fun x => [(6, .int .i64 x.i), (4, .bool x.q)]) (fun x => some [.cells [.str s] 0 false, .cells [.nilsl] 0 false, .cells [.int .i64 x.fm] 0 false]) (fun x => okS s x ∧ x.acc = []) (fun x => s.length + 1 - x.i) gcA gcA (fun _ => []) (fun _ => []),
  .mk SX (fun x => [(6, .int .i64 x.i), (4, .bool x.q)]) (fun x => some [.cells [.str s] 0 false, .cells [.sl 3 0 x.acc.length x.acc.length false] 0 false, .cells [.int .i64 x.fm] 0 false, .cells (ts x.acc) eT false]) (fun x => okS s x ∧ x.acc ≠ []) (fun x => s.length + 1 - x.i) gcA gcA (fun _ => []) (fun _ => [])])]
noncomputable def outT (l : List (List UInt8)) : List Out := [⟨Unit, fun _ => .nilsl, fun _ => [], fun _ => l = [], gcA⟩, ⟨Unit, fun _ => .sl 0 0 l.length l.length false, fun _ => [.cells (ts l) eT false], fun _ => l ≠ [], gcA⟩]

noncomputable def vTrimW  (s : List UInt8) : Prop := vcF V1 [] 300 [] [] 71 [.str s, .str white] [] (one (.str (trimW s)))
noncomputable def vTrimD  (s : List UInt8) : Prop := vcF V1 [] 300 [] [] 71 [.str s, .str digs] [] (one (.str (trimD s)))
noncomputable def vTrim  (s : List UInt8) : Prop := vcF V2 [] 300 [] [] 52 [.str s] [] (one (.str (trimW s)))
noncomputable def vSplit  (s : List UInt8) : Prop := vcF V3 [] 300 (aSp s) [] 38 [.str s] [] (outT (split s))
def gqSplit0 : Nat → Nat := (fun (b : Nat) => [0, 1, 2, 3].getD b 4)
def glSplit0 : List AV := [AV.bool false, AV.bool false, AV.bool false, AV.bool false, AV.bool false, AV.bool false, AV.bool false, AV.bool false, AV.bool false, AV.bool true, AV.bool false, AV.bool false, AV.bool false, AV.bool false, AV.bool false, AV.bool false, AV.bool false, AV.bool false, AV.bool false, AV.bool false, AV.bool false, AV.bool false, AV.bool false, AV.bool false, AV.bool false, AV.bool false, AV.bool false, AV.bool false, AV.bool false, AV.bool false, AV.bool false, AV.bool false, AV.bool true, AV.bool false, AV.bool false, AV.bool false, AV.bool false, AV.bool false, AV.bool false, AV.bool false, AV.bool false, AV.bool false, AV.bool false, AV.bool false, AV.bool false, AV.bool false, AV.bool false, AV.bool false, AV.bool false, AV.bool false, AV.bool false, AV.bool false, AV.bool false, AV.bool false, AV.bool false, AV.bool false, AV.bool false, AV.bool false, AV.bool false, AV.bool false, AV.bool false, AV.bool false, AV.bool false, AV.bool false, AV.bool false, AV.bool false, AV.bool false, AV.bool false, AV.bool false, AV.bool false, AV.bool false, AV.bool false, AV.bool false, AV.bool false, AV.bool false, AV.bool false, AV.bool false, AV.bool false, AV.bool false, AV.bool false, AV.bool false, AV.bool false, AV.bool false, AV.bool false, AV.bool false, AV.bool false, AV.bool false, AV.bool false, AV.bool false, AV.bool false, AV.bool false, AV.bool false, AV.bool false, AV.bool false, AV.bool false, AV.bool false, AV.bool false, AV.bool false, AV.bool false, AV.bool false, AV.bool false, AV.bool false, AV.bool false, AV.bool false, AV.bool false, AV.bool false, AV.bool false, AV.bool false, AV.bool false, AV.bool false, AV.bool false, AV.bool false, AV.bool false, AV.bool false, AV.bool false, AV.bool false, AV.bool false, AV.bool false, AV.bool false, AV.bool false, AV.bool false, AV.bool false, AV.bool false, AV.bool false, AV.bool false, AV.bool false, AV.bool false, AV.bool false, AV.bool false, AV.bool false, AV.bool false, AV.bool false, AV.bool false, AV.bool false, AV.bool false, AV.bool false, AV.bool false, AV.bool false, AV.bool false, AV.bool false, AV.bool false, AV.bool false, AV.bool false, AV.bool false, AV.bool false, AV.bool false, AV.bool false, AV.bool false, AV.bool false, AV.bool false, AV.bool false, AV.bool false, AV.bool false, AV.bool false, AV.bool false, AV.bool false, AV.bool false, AV.bool false, AV.bool false, AV.bool false, AV.bool false, AV.bool false, AV.bool false, AV.bool false, AV.bool false, AV.bool false, AV.bool false, AV.bool false, AV.bool false, AV.bool false, AV.bool false, AV.bool false, AV.bool false, AV.bool false, AV.bool false, AV.bool false, AV.bool false, AV.bool false, AV.bool false, AV.bool false, AV.bool false, AV.bool false, AV.bool false, AV.bool false, AV.bool false, AV.bool false, AV.bool false, AV.bool false, AV.bool false, AV.bool false, AV.bool false, AV.bool false, AV.bool false, AV.bool false, AV.bool false, AV.bool false, AV.bool false, AV.bool false, AV.bool false, AV.bool false, AV.bool false, AV.bool false, AV.bool false, AV.bool false, AV.bool false, AV.bool false, AV.bool false, AV.bool false, AV.bool false, AV.bool false, AV.bool false, AV.bool false, AV.bool false, AV.bool false, AV.bool false, AV.bool false, AV.bool false, AV.bool false, AV.bool false, AV.bool false, AV.bool false, AV.bool false, AV.bool false, AV.bool false, AV.bool false, AV.bool false, AV.bool false, AV.bool false, AV.bool false, AV.bool false, AV.bool false, AV.bool false, AV.bool false, AV.bool false, AV.bool false, AV.bool false, AV.bool false, AV.bool false, AV.bool false, AV.bool false, AV.bool false, AV.bool false, AV.bool false, AV.bool false, AV.bool false, AV.bool false, AV.bool false, AV.bool false, AV.bool false, AV.bool false, AV.bool false, AV.bool false, AV.bool false, AV.bool false, AV.bool false, AV.bool false]
def glSplit1 : List AV := [AV.bool false, AV.bool false, AV.bool false, AV.bool false, AV.bool false, AV.bool false, AV.bool false, AV.bool false, AV.bool false, AV.bool false, AV.bool false, AV.bool false, AV.bool false, AV.bool false, AV.bool false, AV.bool false, AV.bool false, AV.bool false, AV.bool false, AV.bool false, AV.bool false, AV.bool false, AV.bool false, AV.bool false, AV.bool false, AV.bool false, AV.bool false, AV.bool false, AV.bool false, AV.bool false, AV.bool false, AV.bool false, AV.bool false, AV.bool false, AV.bool false, AV.bool false, AV.bool false, AV.bool false, AV.bool false, AV.bool false, AV.bool false, AV.bool false, AV.bool false, AV.bool false, AV.bool false, AV.bool false, AV.bool false, AV.bool false, AV.bool true, AV.bool true, AV.bool true, AV.bool true, AV.bool true, AV.bool true, AV.bool true, AV.bool true, AV.bool true, AV.bool true, AV.bool false, AV.bool false, AV.bool false, AV.bool false, AV.bool false, AV.bool false, AV.bool false, AV.bool false, AV.bool false, AV.bool false, AV.bool false, AV.bool false, AV.bool false, AV.bool false, AV.bool false, AV.bool false, AV.bool false, AV.bool false, AV.bool false, AV.bool false, AV.bool false, AV.bool false, AV.bool false, AV.bool false, AV.bool false, AV.bool false, AV.bool false, AV.bool false, AV.bool false, AV.bool false, AV.bool false, AV.bool false, AV.bool false, AV.bool false, AV.bool false, AV.bool false, AV.bool false, AV.bool false, AV.bool false, AV.bool false, AV.bool false, AV.bool false, AV.bool false, AV.bool false, AV.bool false, AV.bool false, AV.bool false, AV.bool false, AV.bool false, AV.bool false, AV.bool false, AV.bool false, AV.bool false, AV.bool false, AV.bool false, AV.bool false, AV.bool false, AV.bool false, AV.bool false, AV.bool false, AV.bool false, AV.bool false, AV.bool false, AV.bool false, AV.bool false, AV.bool false, AV.bool false, AV.bool false, AV.bool false, AV.bool false, AV.bool false, AV.bool false, AV.bool false, AV.bool false, AV.bool false, AV.bool false, AV.bool false, AV.bool false, AV.bool false, AV.bool false, AV.bool false, AV.bool false, AV.bool false, AV.bool false, AV.bool false, AV.bool false, AV.bool false, AV.bool false, AV.bool false, AV.bool false, AV.bool false, AV.bool false, AV.bool false, AV.bool false, AV.bool false, AV.bool false, AV.bool false, AV.bool false, AV.bool false, AV.bool false, AV.bool false, AV.bool false, AV.bool false, AV.bool false, AV.bool false, AV.bool false, AV.bool false, AV.bool false, AV.bool false, AV.bool false, AV.bool false, AV.bool false, AV.bool false, AV.bool false, AV.bool false, AV.bool false, AV.bool false, AV.bool false, AV.bool false, AV.bool false, AV.bool false, AV.bool false, AV.bool false, AV.bool false, AV.bool false, AV.bool false, AV.bool false, AV.bool false, AV.bool false, AV.bool false, AV.bool false, AV.bool false, AV.bool false, AV.bool false, AV.bool false, AV.bool false, AV.bool false, AV.bool false, AV.bool false, AV.bool false, AV.bool false, AV.bool false, AV.bool false, AV.bool false, AV.bool false, AV.bool false, AV.bool false, AV.bool false, AV.bool false, AV.bool false, AV.bool false, AV.bool false, AV.bool false, AV.bool false, AV.bool false, AV.bool false, AV.bool false, AV.bool false, AV.bool false, AV.bool false, AV.bool false, AV.bool false, AV.bool false, AV.bool false, AV.bool false, AV.bool false, AV.bool false, AV.bool false, AV.bool false, AV.bool false, AV.bool false, AV.bool false, AV.bool false, AV.bool false, AV.bool false, AV.bool false, AV.bool false, AV.bool false, AV.bool false, AV.bool false, AV.bool false, AV.bool false, AV.bool false, AV.bool false, AV.bool false, AV.bool false, AV.bool false, AV.bool false, AV.bool false, AV.bool false, AV.bool false, AV.bool false, AV.bool false, AV.bool false, AV.bool false, AV.bool false, AV.bool false, AV.bool false]
theorem vTrimW_eq  (s : List UInt8) : vTrimW s = (bif decide (s = []) then ∃ (_x : Unit), True ∧ True ∧ s = trimW s ∧ True else bif decide (s.length ≤ 1099511627776) then glSplit0 = setC (getP glSplit0) ∧ bif decide ((tr (getP glSplit0) s).length ≤ 1099511627776) then glSplit0 = setC (getP glSplit0) ∧ ∃ (_x : Unit), True ∧ True ∧ tl (getP glSplit0) (tr (getP glSplit0) s) = trimW s ∧ True else False else False) := by kernel_rfl
theorem vTrimD_eq  (s : List UInt8) : vTrimD s = (bif decide (s = []) then ∃ (_x : Unit), True ∧ True ∧ s = trimD s ∧ True else bif decide (s.length ≤ 1099511627776) then glSplit1 = setC (getP glSplit1) ∧ bif decide ((tr (getP glSplit1) s).length ≤ 1099511627776) then glSplit1 = setC (getP glSplit1) ∧ ∃ (_x : Unit), True ∧ True ∧ tl (getP glSplit1) (tr (getP glSplit1) s) = trimD s ∧ True else False else False) := by kernel_rfl
theorem vTrim_eq  (s : List UInt8) : vTrim s = (bif decide (s.length ≤ 1099511627776) then ∃ (_x : Unit), True ∧ True ∧ trimW s = trimW s ∧ True else False) := by kernel_rfl
theorem vSplit_eq  (s : List UInt8) : vSplit s = (((∃ (x : SX), (okS s x ∧ x.4 = []) ∧ (((s = s ∧ True) ∧ True) ∧ ((True ∧ True) ∧ True) ∧ (((0 : Int) = ic x.2 ∧ True) ∧ True) ∧ True) ∧ (0 : Int) = ic x.1 ∧ false = x.3 ∧ True) ∨ ∃ (x : SX), (okS s x ∧ x.4 ≠ []) ∧ False) ∧ (∀ (x : SX), okS s x ∧ x.4 = [] → bif ltI (ic x.1) (ic s.length) then bif x.3 then bif ltI (ic x.1) (ic s.length) then bif eqI (byteAt s x.1) (92 : Int) then bif leI (ic x.1 + (1 : Int)) (9223372036854775807 : Int) then bif leI (ic x.1 + (1 : Int) + (1 : Int)) (9223372036854775807 : Int) then (∃ (y : SX), (okS s y ∧ y.4 = []) ∧ s.length + 1 - y.1 < s.length + 1 - x.1 ∧ (((s = s ∧ True) ∧ True) ∧ ((True ∧ True) ∧ True) ∧ ((ic x.2 = ic y.2 ∧ True) ∧ True) ∧ True) ∧ ic x.1 + (1 : Int) + (1 : Int) = ic y.1 ∧ x.3 = y.3 ∧ True) ∨ ∃ (y : SX), (okS s y ∧ y.4 ≠ []) ∧ s.length + 1 - y.1 < s.length + 1 - x.1 ∧ False else False else False else bif ltI (ic x.1) (ic s.length) then bif eqI (byteAt s x.1) (34 : Int) then bif leI (ic x.1 + (1 : Int)) (9223372036854775807 : Int) then (∃ (y : SX), (okS s y ∧ y.4 = []) ∧ s.length + 1 - y.1 < s.length + 1 - x.1 ∧ (((s = s ∧ True) ∧ True) ∧ ((True ∧ True) ∧ True) ∧ ((ic x.2 = ic y.2 ∧ True) ∧ True) ∧ True) ∧ ic x.1 + (1 : Int) = ic y.1 ∧ (!x.3) = y.3 ∧ True) ∨ ∃ (y : SX), (okS s y ∧ y.4 ≠ []) ∧ s.length + 1 - y.1 < s.length + 1 - x.1 ∧ False else False else bif ltI (ic x.1) (ic s.length) then bif eqI (byteAt s x.1) (44 : Int) then bif !x.3 then bif leI (ic x.1) (ic s.length) then bif leI (ic x.2) (ic x.1) then bif decide ((List.take (x.1 - x.2) (List.drop x.2 s)).length ≤ 1099511627776) then bif !decide (trimW (List.take (x.1 - x.2) (List.drop x.2 s)) = []) then bif leI (ic x.1 + (1 : Int)) (9223372036854775807 : Int) then bif leI (ic x.1 + (1 : Int)) (9223372036854775807 : Int) then (∃ (y : SX), (okS s y ∧ y.4 = []) ∧ s.length + 1 - y.1 < s.length + 1 - x.1 ∧ (((s = s ∧ True) ∧ True) ∧ ((False ∧ True) ∧ True) ∧ ((ic x.1 + (1 : Int) = ic y.2 ∧ True) ∧ True) ∧ True) ∧ ic x.1 + (1 : Int) = ic y.1 ∧ x.3 = y.3 ∧ True) ∨ ∃ (y : SX), (okS s y ∧ y.4 ≠ []) ∧ s.length + 1 - y.1 < s.length + 1 - x.1 ∧ (((s = s ∧ True) ∧ True) ∧ (((0 = 0 ∧ 1 = y.4.length ∧ 1 = y.4.length ∧ false = false) ∧ True) ∧ True) ∧ ((ic x.1 + (1 : Int) = ic y.2 ∧ True) ∧ True) ∧ (cellsP (fun (b : Nat) => [0, 1, 2, 4].getD b 5) (ts y.4) [AV.str (trimW (List.take (x.1 - x.2) (List.drop x.2 s)))] ∧ True) ∧ True) ∧ ic x.1 + (1 : Int) = ic y.1 ∧ x.3 = y.3 ∧ True else False else False else bif leI (ic x.1 + (1 : Int)) (9223372036854775807 : Int) then bif leI (ic x.1 + (1 : Int)) (9223372036854775807 : Int) then (∃ (y : SX), (okS s y ∧ y.4 = []) ∧ s.length + 1 - y.1 < s.length + 1 - x.1 ∧ (((s = s ∧ True) ∧ True) ∧ ((True ∧ True) ∧ True) ∧ ((ic x.1 + (1 : Int) = ic y.2 ∧ True) ∧ True) ∧ True) ∧ ic x.1 + (1 : Int) = ic y.1 ∧ x.3 = y.3 ∧ True) ∨ ∃ (y : SX), (okS s y ∧ y.4 ≠ []) ∧ s.length + 1 - y.1 < s.length + 1 - x.1 ∧ False else False else False else False else False else False else bif leI (ic x.1 + (1 : Int)) (9223372036854775807 : Int) then (∃ (y : SX), (okS s y ∧ y.4 = []) ∧ s.length + 1 - y.1 < s.length + 1 - x.1 ∧ (((s = s ∧ True) ∧ True) ∧ ((True ∧ True) ∧ True) ∧ ((ic x.2 = ic y.2 ∧ True) ∧ True) ∧ True) ∧ ic x.1 + (1 : Int) = ic y.1 ∧ x.3 = y.3 ∧ True) ∨ ∃ (y : SX), (okS s y ∧ y.4 ≠ []) ∧ s.length + 1 - y.1 < s.length + 1 - x.1 ∧ False else False else bif leI (ic x.1 + (1 : Int)) (9223372036854775807 : Int) then (∃ (y : SX), (okS s y ∧ y.4 = []) ∧ s.length + 1 - y.1 < s.length + 1 - x.1 ∧ (((s = s ∧ True) ∧ True) ∧ ((True ∧ True) ∧ True) ∧ ((ic x.2 = ic y.2 ∧ True) ∧ True) ∧ True) ∧ ic x.1 + (1 : Int) = ic y.1 ∧ x.3 = y.3 ∧ True) ∨ ∃ (y : SX), (okS s y ∧ y.4 ≠ []) ∧ s.length + 1 - y.1 < s.length + 1 - x.1 ∧ False else False else False else False else False else bif ltI (ic x.1) (ic s.length) then bif eqI (byteAt s x.1) (34 : Int) then bif leI (ic x.1 + (1 : Int)) (9223372036854775807 : Int) then (∃ (y : SX), (okS s y ∧ y.4 = []) ∧ s.length + 1 - y.1 < s.length + 1 - x.1 ∧ (((s = s ∧ True) ∧ True) ∧ ((True ∧ True) ∧ True) ∧ ((ic x.2 = ic y.2 ∧ True) ∧ True) ∧ True) ∧ ic x.1 + (1 : Int) = ic y.1 ∧ (!x.3) = y.3 ∧ True) ∨ ∃ (y : SX), (okS s y ∧ y.4 ≠ []) ∧ s.length + 1 - y.1 < s.length + 1 - x.1 ∧ False else False else bif ltI (ic x.1) (ic s.length) then bif eqI (byteAt s x.1) (44 : Int) then bif !x.3 then bif leI (ic x.1) (ic s.length) then bif leI (ic x.2) (ic x.1) then bif decide ((List.take (x.1 - x.2) (List.drop x.2 s)).length ≤ 1099511627776) then bif !decide (trimW (List.take (x.1 - x.2) (List.drop x.2 s)) = []) then bif leI (ic x.1 + (1 : Int)) (9223372036854775807 : Int) then bif leI (ic x.1 + (1 : Int)) (9223372036854775807 : Int) then (∃ (y : SX), (okS s y ∧ y.4 = []) ∧ s.length + 1 - y.1 < s.length + 1 - x.1 ∧ (((s = s ∧ True) ∧ True) ∧ ((False ∧ True) ∧ True) ∧ ((ic x.1 + (1 : Int) = ic y.2 ∧ True) ∧ True) ∧ True) ∧ ic x.1 + (1 : Int) = ic y.1 ∧ x.3 = y.3 ∧ True) ∨ ∃ (y : SX), (okS s y ∧ y.4 ≠ []) ∧ s.length + 1 - y.1 < s.length + 1 - x.1 ∧ (((s = s ∧ True) ∧ True) ∧ (((0 = 0 ∧ 1 = y.4.length ∧ 1 = y.4.length ∧ false = false) ∧ True) ∧ True) ∧ ((ic x.1 + (1 : Int) = ic y.2 ∧ True) ∧ True) ∧ (cellsP (fun (b : Nat) => [0, 1, 2, 4].getD b 5) (ts y.4) [AV.str (trimW (List.take (x.1 - x.2) (List.drop x.2 s)))] ∧ True) ∧ True) ∧ ic x.1 + (1 : Int) = ic y.1 ∧ x.3 = y.3 ∧ True else False else False else bif leI (ic x.1 + (1 : Int)) (9223372036854775807 : Int) then bif leI (ic x.1 + (1 : Int)) (9223372036854775807 : Int) then (∃ (y : SX), (okS s y ∧ y.4 = []) ∧ s.length + 1 - y.1 < s.length + 1 - x.1 ∧ (((s = s ∧ True) ∧ True) ∧ ((True ∧ True) ∧ True) ∧ ((ic x.1 + (1 : Int) = ic y.2 ∧ True) ∧ True) ∧ True) ∧ ic x.1 + (1 : Int) = ic y.1 ∧ x.3 = y.3 ∧ True) ∨ ∃ (y : SX), (okS s y ∧ y.4 ≠ []) ∧ s.length + 1 - y.1 < s.length + 1 - x.1 ∧ False else False else False else False else False else False else bif leI (ic x.1 + (1 : Int)) (9223372036854775807 : Int) then (∃ (y : SX), (okS s y ∧ y.4 = []) ∧ s.length + 1 - y.1 < s.length + 1 - x.1 ∧ (((s = s ∧ True) ∧ True) ∧ ((True ∧ True) ∧ True) ∧ ((ic x.2 = ic y.2 ∧ True) ∧ True) ∧ True) ∧ ic x.1 + (1 : Int) = ic y.1 ∧ x.3 = y.3 ∧ True) ∨ ∃ (y : SX), (okS s y ∧ y.4 ≠ []) ∧ s.length + 1 - y.1 < s.length + 1 - x.1 ∧ False else False else bif leI (ic x.1 + (1 : Int)) (9223372036854775807 : Int) then (∃ (y : SX), (okS s y ∧ y.4 = []) ∧ s.length + 1 - y.1 < s.length + 1 - x.1 ∧ (((s = s ∧ True) ∧ True) ∧ ((True ∧ True) ∧ True) ∧ ((ic x.2 = ic y.2 ∧ True) ∧ True) ∧ True) ∧ ic x.1 + (1 : Int) = ic y.1 ∧ x.3 = y.3 ∧ True) ∨ ∃ (y : SX), (okS s y ∧ y.4 ≠ []) ∧ s.length + 1 - y.1 < s.length + 1 - x.1 ∧ False else False else False else False else bif leI (ic s.length) (ic s.length) then bif leI (ic x.2) (ic s.length) then bif decide ((List.take (s.length - x.2) (List.drop x.2 s)).length ≤ 1099511627776) then bif !decide (trimW (List.take (s.length - x.2) (List.drop x.2 s)) = []) then bif leI (ic s.length + (1 : Int)) (9223372036854775807 : Int) then (∃ (_x : Unit), split s = [] ∧ True ∧ False ∧ True) ∨ ∃ (_x : Unit), split s ≠ [] ∧ ((cellsP (fun (b : Nat) => [4].getD b 5) (ts (split s)) [AV.str (trimW (List.take (s.length - x.2) (List.drop x.2 s)))] ∧ True) ∧ True) ∧ (0 = 0 ∧ 1 = (split s).length ∧ 1 = (split s).length ∧ false = false) ∧ True else False else bif leI (ic s.length + (1 : Int)) (9223372036854775807 : Int) then (∃ (_x : Unit), split s = [] ∧ True ∧ True ∧ True) ∨ ∃ (_x : Unit), split s ≠ [] ∧ (False ∧ True) ∧ False ∧ True else False else False else False else False) ∧ ∀ (x : SX), okS s x ∧ x.4 ≠ [] → bif ltI (ic x.1) (ic s.length) then bif x.3 then bif ltI (ic x.1) (ic s.length) then bif eqI (byteAt s x.1) (92 : Int) then bif leI (ic x.1 + (1 : Int)) (9223372036854775807 : Int) then bif leI (ic x.1 + (1 : Int) + (1 : Int)) (9223372036854775807 : Int) then (∃ (y : SX), (okS s y ∧ y.4 = []) ∧ s.length + 1 - y.1 < s.length + 1 - x.1 ∧ (((s = s ∧ True) ∧ True) ∧ ((False ∧ True) ∧ True) ∧ ((ic x.2 = ic y.2 ∧ True) ∧ True) ∧ True) ∧ ic x.1 + (1 : Int) + (1 : Int) = ic y.1 ∧ x.3 = y.3 ∧ True) ∨ ∃ (y : SX), (okS s y ∧ y.4 ≠ []) ∧ s.length + 1 - y.1 < s.length + 1 - x.1 ∧ (((s = s ∧ True) ∧ True) ∧ (((0 = 0 ∧ x.4.length = y.4.length ∧ x.4.length = y.4.length ∧ false = false) ∧ True) ∧ True) ∧ ((ic x.2 = ic y.2 ∧ True) ∧ True) ∧ (cellsP gqSplit0 (ts y.4) (ts x.4) ∧ True) ∧ True) ∧ ic x.1 + (1 : Int) + (1 : Int) = ic y.1 ∧ x.3 = y.3 ∧ True else False else False else bif ltI (ic x.1) (ic s.length) then bif eqI (byteAt s x.1) (34 : Int) then bif leI (ic x.1 + (1 : Int)) (9223372036854775807 : Int) then (∃ (y : SX), (okS s y ∧ y.4 = []) ∧ s.length + 1 - y.1 < s.length + 1 - x.1 ∧ (((s = s ∧ True) ∧ True) ∧ ((False ∧ True) ∧ True) ∧ ((ic x.2 = ic y.2 ∧ True) ∧ True) ∧ True) ∧ ic x.1 + (1 : Int) = ic y.1 ∧ (!x.3) = y.3 ∧ True) ∨ ∃ (y : SX), (okS s y ∧ y.4 ≠ []) ∧ s.length + 1 - y.1 < s.length + 1 - x.1 ∧ (((s = s ∧ True) ∧ True) ∧ (((0 = 0 ∧ x.4.length = y.4.length ∧ x.4.length = y.4.length ∧ false = false) ∧ True) ∧ True) ∧ ((ic x.2 = ic y.2 ∧ True) ∧ True) ∧ (cellsP gqSplit0 (ts y.4) (ts x.4) ∧ True) ∧ True) ∧ ic x.1 + (1 : Int) = ic y.1 ∧ (!x.3) = y.3 ∧ True else False else bif ltI (ic x.1) (ic s.length) then bif eqI (byteAt s x.1) (44 : Int) then bif !x.3 then bif leI (ic x.1) (ic s.length) then bif leI (ic x.2) (ic x.1) then bif decide ((List.take (x.1 - x.2) (List.drop x.2 s)).length ≤ 1099511627776) then bif !decide (trimW (List.take (x.1 - x.2) (List.drop x.2 s)) = []) then bif decide (x.4.length ≤ x.4.length) && decide (0 + x.4.length * 1 ≤ (ts x.4).length) then bif decide (x.4.length + 1 ≤ x.4.length) then bif decide (0 + (x.4.length + 1) * 1 ≤ (ts x.4).length) && true then bif leI (ic x.1 + (1 : Int)) (9223372036854775807 : Int) then bif leI (ic x.1 + (1 : Int)) (9223372036854775807 : Int) then (∃ (y : SX), (okS s y ∧ y.4 = []) ∧ s.length + 1 - y.1 < s.length + 1 - x.1 ∧ (((s = s ∧ True) ∧ True) ∧ ((False ∧ True) ∧ True) ∧ ((ic x.1 + (1 : Int) = ic y.2 ∧ True) ∧ True) ∧ True) ∧ ic x.1 + (1 : Int) = ic y.1 ∧ x.3 = y.3 ∧ True) ∨ ∃ (y : SX), (okS s y ∧ y.4 ≠ []) ∧ s.length + 1 - y.1 < s.length + 1 - x.1 ∧ (((s = s ∧ True) ∧ True) ∧ (((0 = 0 ∧ x.4.length + 1 = y.4.length ∧ x.4.length = y.4.length ∧ false = false) ∧ True) ∧ True) ∧ ((ic x.1 + (1 : Int) = ic y.2 ∧ True) ∧ True) ∧ (cellsP (fun (b : Nat) => [0, 1, 2, 3].getD b 5) (ts y.4) (setManyF (ts x.4) (0 + x.4.length * 1) [AV.str (trimW (List.take (x.1 - x.2) (List.drop x.2 s)))]) ∧ True) ∧ True) ∧ ic x.1 + (1 : Int) = ic y.1 ∧ x.3 = y.3 ∧ True else False else False else False else bif decide (x.4.length + 1 ≤ 9223372036854775807) && decide ((x.4.length + 1) * 16 ≤ 140737488355328) then bif decide (x.4.length = x.4.length) && (decide (0 + x.4.length * 1 = (ts x.4).length) && true) then bif leI (ic x.1 + (1 : Int)) (9223372036854775807 : Int) then bif leI (ic x.1 + (1 : Int)) (9223372036854775807 : Int) then (∃ (y : SX), (okS s y ∧ y.4 = []) ∧ s.length + 1 - y.1 < s.length + 1 - x.1 ∧ (((s = s ∧ True) ∧ True) ∧ ((False ∧ True) ∧ True) ∧ ((ic x.1 + (1 : Int) = ic y.2 ∧ True) ∧ True) ∧ True) ∧ ic x.1 + (1 : Int) = ic y.1 ∧ x.3 = y.3 ∧ True) ∨ ∃ (y : SX), (okS s y ∧ y.4 ≠ []) ∧ s.length + 1 - y.1 < s.length + 1 - x.1 ∧ (((s = s ∧ True) ∧ True) ∧ (((0 = 0 ∧ x.4.length + 1 = y.4.length ∧ x.4.length + 1 = y.4.length ∧ false = false) ∧ True) ∧ True) ∧ ((ic x.1 + (1 : Int) = ic y.2 ∧ True) ∧ True) ∧ (cellsP (fun (b : Nat) => [0, 1, 2, 5].getD b 6) (ts y.4) (List.drop 0 (ts x.4) ++ [AV.str (trimW (List.take (x.1 - x.2) (List.drop x.2 s)))]) ∧ True) ∧ True) ∧ ic x.1 + (1 : Int) = ic y.1 ∧ x.3 = y.3 ∧ True else False else False else False else False else False else bif leI (ic x.1 + (1 : Int)) (9223372036854775807 : Int) then bif leI (ic x.1 + (1 : Int)) (9223372036854775807 : Int) then (∃ (y : SX), (okS s y ∧ y.4 = []) ∧ s.length + 1 - y.1 < s.length + 1 - x.1 ∧ (((s = s ∧ True) ∧ True) ∧ ((False ∧ True) ∧ True) ∧ ((ic x.1 + (1 : Int) = ic y.2 ∧ True) ∧ True) ∧ True) ∧ ic x.1 + (1 : Int) = ic y.1 ∧ x.3 = y.3 ∧ True) ∨ ∃ (y : SX), (okS s y ∧ y.4 ≠ []) ∧ s.length + 1 - y.1 < s.length + 1 - x.1 ∧ (((s = s ∧ True) ∧ True) ∧ (((0 = 0 ∧ x.4.length = y.4.length ∧ x.4.length = y.4.length ∧ false = false) ∧ True) ∧ True) ∧ ((ic x.1 + (1 : Int) = ic y.2 ∧ True) ∧ True) ∧ (cellsP gqSplit0 (ts y.4) (ts x.4) ∧ True) ∧ True) ∧ ic x.1 + (1 : Int) = ic y.1 ∧ x.3 = y.3 ∧ True else False else False else False else False else False else bif leI (ic x.1 + (1 : Int)) (9223372036854775807 : Int) then (∃ (y : SX), (okS s y ∧ y.4 = []) ∧ s.length + 1 - y.1 < s.length + 1 - x.1 ∧ (((s = s ∧ True) ∧ True) ∧ ((False ∧ True) ∧ True) ∧ ((ic x.2 = ic y.2 ∧ True) ∧ True) ∧ True) ∧ ic x.1 + (1 : Int) = ic y.1 ∧ x.3 = y.3 ∧ True) ∨ ∃ (y : SX), (okS s y ∧ y.4 ≠ []) ∧ s.length + 1 - y.1 < s.length + 1 - x.1 ∧ (((s = s ∧ True) ∧ True) ∧ (((0 = 0 ∧ x.4.length = y.4.length ∧ x.4.length = y.4.length ∧ false = false) ∧ True) ∧ True) ∧ ((ic x.2 = ic y.2 ∧ True) ∧ True) ∧ (cellsP gqSplit0 (ts y.4) (ts x.4) ∧ True) ∧ True) ∧ ic x.1 + (1 : Int) = ic y.1 ∧ x.3 = y.3 ∧ True else False else bif leI (ic x.1 + (1 : Int)) (9223372036854775807 : Int) then (∃ (y : SX), (okS s y ∧ y.4 = []) ∧ s.length + 1 - y.1 < s.length + 1 - x.1 ∧ (((s = s ∧ True) ∧ True) ∧ ((False ∧ True) ∧ True) ∧ ((ic x.2 = ic y.2 ∧ True) ∧ True) ∧ True) ∧ ic x.1 + (1 : Int) = ic y.1 ∧ x.3 = y.3 ∧ True) ∨ ∃ (y : SX), (okS s y ∧ y.4 ≠ []) ∧ s.length + 1 - y.1 < s.length + 1 - x.1 ∧ (((s = s ∧ True) ∧ True) ∧ (((0 = 0 ∧ x.4.length = y.4.length ∧ x.4.length = y.4.length ∧ false = false) ∧ True) ∧ True) ∧ ((ic x.2 = ic y.2 ∧ True) ∧ True) ∧ (cellsP gqSplit0 (ts y.4) (ts x.4) ∧ True) ∧ True) ∧ ic x.1 + (1 : Int) = ic y.1 ∧ x.3 = y.3 ∧ True else False else False else False else False else bif ltI (ic x.1) (ic s.length) then bif eqI (byteAt s x.1) (34 : Int) then bif leI (ic x.1 + (1 : Int)) (9223372036854775807 : Int) then (∃ (y : SX), (okS s y ∧ y.4 = []) ∧ s.length + 1 - y.1 < s.length + 1 - x.1 ∧ (((s = s ∧ True) ∧ True) ∧ ((False ∧ True) ∧ True) ∧ ((ic x.2 = ic y.2 ∧ True) ∧ True) ∧ True) ∧ ic x.1 + (1 : Int) = ic y.1 ∧ (!x.3) = y.3 ∧ True) ∨ ∃ (y : SX), (okS s y ∧ y.4 ≠ []) ∧ s.length + 1 - y.1 < s.length + 1 - x.1 ∧ (((s = s ∧ True) ∧ True) ∧ (((0 = 0 ∧ x.4.length = y.4.length ∧ x.4.length = y.4.length ∧ false = false) ∧ True) ∧ True) ∧ ((ic x.2 = ic y.2 ∧ True) ∧ True) ∧ (cellsP gqSplit0 (ts y.4) (ts x.4) ∧ True) ∧ True) ∧ ic x.1 + (1 : Int) = ic y.1 ∧ (!x.3) = y.3 ∧ True else False else bif ltI (ic x.1) (ic s.length) then bif eqI (byteAt s x.1) (44 : Int) then bif !x.3 then bif leI (ic x.1) (ic s.length) then bif leI (ic x.2) (ic x.1) then bif decide ((List.take (x.1 - x.2) (List.drop x.2 s)).length ≤ 1099511627776) then bif !decide (trimW (List.take (x.1 - x.2) (List.drop x.2 s)) = []) then bif decide (x.4.length ≤ x.4.length) && decide (0 + x.4.length * 1 ≤ (ts x.4).length) then bif decide (x.4.length + 1 ≤ x.4.length) then bif decide (0 + (x.4.length + 1) * 1 ≤ (ts x.4).length) && true then bif leI (ic x.1 + (1 : Int)) (9223372036854775807 : Int) then bif leI (ic x.1 + (1 : Int)) (9223372036854775807 : Int) then (∃ (y : SX), (okS s y ∧ y.4 = []) ∧ s.length + 1 - y.1 < s.length + 1 - x.1 ∧ (((s = s ∧ True) ∧ True) ∧ ((False ∧ True) ∧ True) ∧ ((ic x.1 + (1 : Int) = ic y.2 ∧ True) ∧ True) ∧ True) ∧ ic x.1 + (1 : Int) = ic y.1 ∧ x.3 = y.3 ∧ True) ∨ ∃ (y : SX), (okS s y ∧ y.4 ≠ []) ∧ s.length + 1 - y.1 < s.length + 1 - x.1 ∧ (((s = s ∧ True) ∧ True) ∧ (((0 = 0 ∧ x.4.length + 1 = y.4.length ∧ x.4.length = y.4.length ∧ false = false) ∧ True) ∧ True) ∧ ((ic x.1 + (1 : Int) = ic y.2 ∧ True) ∧ True) ∧ (cellsP (fun (b : Nat) => [0, 1, 2, 3].getD b 5) (ts y.4) (setManyF (ts x.4) (0 + x.4.length * 1) [AV.str (trimW (List.take (x.1 - x.2) (List.drop x.2 s)))]) ∧ True) ∧ True) ∧ ic x.1 + (1 : Int) = ic y.1 ∧ x.3 = y.3 ∧ True else False else False else False else bif decide (x.4.length + 1 ≤ 9223372036854775807) && decide ((x.4.length + 1) * 16 ≤ 140737488355328) then bif decide (x.4.length = x.4.length) && (decide (0 + x.4.length * 1 = (ts x.4).length) && true) then bif leI (ic x.1 + (1 : Int)) (9223372036854775807 : Int) then bif leI (ic x.1 + (1 : Int)) (9223372036854775807 : Int) then (∃ (y : SX), (okS s y ∧ y.4 = []) ∧ s.length + 1 - y.1 < s.length + 1 - x.1 ∧ (((s = s ∧ True) ∧ True) ∧ ((False ∧ True) ∧ True) ∧ ((ic x.1 + (1 : Int) = ic y.2 ∧ True) ∧ True) ∧ True) ∧ ic x.1 + (1 : Int) = ic y.1 ∧ x.3 = y.3 ∧ True) ∨ ∃ (y : SX), (okS s y ∧ y.4 ≠ []) ∧ s.length + 1 - y.1 < s.length + 1 - x.1 ∧ (((s = s ∧ True) ∧ True) ∧ (((0 = 0 ∧ x.4.length + 1 = y.4.length ∧ x.4.length + 1 = y.4.length ∧ false = false) ∧ True) ∧ True) ∧ ((ic x.1 + (1 : Int) = ic y.2 ∧ True) ∧ True) ∧ (cellsP (fun (b : Nat) => [0, 1, 2, 5].getD b 6) (ts y.4) (List.drop 0 (ts x.4) ++ [AV.str (trimW (List.take (x.1 - x.2) (List.drop x.2 s)))]) ∧ True) ∧ True) ∧ ic x.1 + (1 : Int) = ic y.1 ∧ x.3 = y.3 ∧ True else False else False else False else False else False else bif leI (ic x.1 + (1 : Int)) (9223372036854775807 : Int) then bif leI (ic x.1 + (1 : Int)) (9223372036854775807 : Int) then (∃ (y : SX), (okS s y ∧ y.4 = []) ∧ s.length + 1 - y.1 < s.length + 1 - x.1 ∧ (((s = s ∧ True) ∧ True) ∧ ((False ∧ True) ∧ True) ∧ ((ic x.1 + (1 : Int) = ic y.2 ∧ True) ∧ True) ∧ True) ∧ ic x.1 + (1 : Int) = ic y.1 ∧ x.3 = y.3 ∧ True) ∨ ∃ (y : SX), (okS s y ∧ y.4 ≠ []) ∧ s.length + 1 - y.1 < s.length + 1 - x.1 ∧ (((s = s ∧ True) ∧ True) ∧ (((0 = 0 ∧ x.4.length = y.4.length ∧ x.4.length = y.4.length ∧ false = false) ∧ True) ∧ True) ∧ ((ic x.1 + (1 : Int) = ic y.2 ∧ True) ∧ True) ∧ (cellsP gqSplit0 (ts y.4) (ts x.4) ∧ True) ∧ True) ∧ ic x.1 + (1 : Int) = ic y.1 ∧ x.3 = y.3 ∧ True else False else False else False else False else False else bif leI (ic x.1 + (1 : Int)) (9223372036854775807 : Int) then (∃ (y : SX), (okS s y ∧ y.4 = []) ∧ s.length + 1 - y.1 < s.length + 1 - x.1 ∧ (((s = s ∧ True) ∧ True) ∧ ((False ∧ True) ∧ True) ∧ ((ic x.2 = ic y.2 ∧ True) ∧ True) ∧ True) ∧ ic x.1 + (1 : Int) = ic y.1 ∧ x.3 = y.3 ∧ True) ∨ ∃ (y : SX), (okS s y ∧ y.4 ≠ []) ∧ s.length + 1 - y.1 < s.length + 1 - x.1 ∧ (((s = s ∧ True) ∧ True) ∧ (((0 = 0 ∧ x.4.length = y.4.length ∧ x.4.length = y.4.length ∧ false = false) ∧ True) ∧ True) ∧ ((ic x.2 = ic y.2 ∧ True) ∧ True) ∧ (cellsP gqSplit0 (ts y.4) (ts x.4) ∧ True) ∧ True) ∧ ic x.1 + (1 : Int) = ic y.1 ∧ x.3 = y.3 ∧ True else False else bif leI (ic x.1 + (1 : Int)) (9223372036854775807 : Int) then (∃ (y : SX), (okS s y ∧ y.4 = []) ∧ s.length + 1 - y.1 < s.length + 1 - x.1 ∧ (((s = s ∧ True) ∧ True) ∧ ((False ∧ True) ∧ True) ∧ ((ic x.2 = ic y.2 ∧ True) ∧ True) ∧ True) ∧ ic x.1 + (1 : Int) = ic y.1 ∧ x.3 = y.3 ∧ True) ∨ ∃ (y : SX), (okS s y ∧ y.4 ≠ []) ∧ s.length + 1 - y.1 < s.length + 1 - x.1 ∧ (((s = s ∧ True) ∧ True) ∧ (((0 = 0 ∧ x.4.length = y.4.length ∧ x.4.length = y.4.length ∧ false = false) ∧ True) ∧ True) ∧ ((ic x.2 = ic y.2 ∧ True) ∧ True) ∧ (cellsP gqSplit0 (ts y.4) (ts x.4) ∧ True) ∧ True) ∧ ic x.1 + (1 : Int) = ic y.1 ∧ x.3 = y.3 ∧ True else False else False else False else bif leI (ic s.length) (ic s.length) then bif leI (ic x.2) (ic s.length) then bif decide ((List.take (s.length - x.2) (List.drop x.2 s)).length ≤ 1099511627776) then bif !decide (trimW (List.take (s.length - x.2) (List.drop x.2 s)) = []) then bif decide (x.4.length ≤ x.4.length) && decide (0 + x.4.length * 1 ≤ (ts x.4).length) then bif decide (x.4.length + 1 ≤ x.4.length) then bif decide (0 + (x.4.length + 1) * 1 ≤ (ts x.4).length) && true then bif leI (ic s.length + (1 : Int)) (9223372036854775807 : Int) then (∃ (_x : Unit), split s = [] ∧ True ∧ False ∧ True) ∨ ∃ (_x : Unit), split s ≠ [] ∧ ((cellsP (fun (b : Nat) => [3].getD b 5) (ts (split s)) (setManyF (ts x.4) (0 + x.4.length * 1) [AV.str (trimW (List.take (s.length - x.2) (List.drop x.2 s)))]) ∧ True) ∧ True) ∧ (0 = 0 ∧ x.4.length + 1 = (split s).length ∧ x.4.length = (split s).length ∧ false = false) ∧ True else False else False else bif decide (x.4.length + 1 ≤ 9223372036854775807) && decide ((x.4.length + 1) * 16 ≤ 140737488355328) then bif decide (x.4.length = x.4.length) && (decide (0 + x.4.length * 1 = (ts x.4).length) && true) then bif leI (ic s.length + (1 : Int)) (9223372036854775807 : Int) then (∃ (_x : Unit), split s = [] ∧ True ∧ False ∧ True) ∨ ∃ (_x : Unit), split s ≠ [] ∧ ((cellsP (fun (b : Nat) => [5].getD b 6) (ts (split s)) (List.drop 0 (ts x.4) ++ [AV.str (trimW (List.take (s.length - x.2) (List.drop x.2 s)))]) ∧ True) ∧ True) ∧ (0 = 0 ∧ x.4.length + 1 = (split s).length ∧ x.4.length + 1 = (split s).length ∧ false = false) ∧ True else False else False else False else False else bif leI (ic s.length + (1 : Int)) (9223372036854775807 : Int) then (∃ (_x : Unit), split s = [] ∧ True ∧ False ∧ True) ∨ ∃ (_x : Unit), split s ≠ [] ∧ ((cellsP (fun (b : Nat) => [3].getD b 4) (ts (split s)) (ts x.4) ∧ True) ∧ True) ∧ (0 = 0 ∧ x.4.length = (split s).length ∧ x.4.length = (split s).length ∧ false = false) ∧ True else False else False else False else False) := by kernel_rfl
theorem gMk_ok : EntryOk Tryz.prog 87 (flatE gMk) := by
  refine flatE_ok fun args b v hg hb => ?_
  unfold gMk at hg
  split at hg
  · rename_i t
    split at hg
    · rename_i he
      obtain rfl := bytesEq_ok he
      cases hg
      exact ⟨rfl, by kernel_rfl, SC.one (V := VT) names0 mixed0 noS_ok noO_ok mkW_vc⟩
    · split at hg
      · rename_i he
        obtain rfl := bytesEq_ok he
        cases hg
        exact ⟨rfl, by kernel_rfl, SC.one (V := VT) names0 mixed0 noS_ok noO_ok mkD_vc⟩
      · cases hg
  · cases hg
theorem eEnd_ok {f : FuncId} {F : (Nat → Bool) → List UInt8 → List UInt8} (h : ∀ p s, s.length ≤ maxS → SC Tryz.prog f [.str s, .ptr 0 0] [.cells (setC p) 0 false] (fun v H => v = .str (F p s) ∧ H = [.cells (setC p) 0 false])) : EntryOk Tryz.prog f (eEnd F) := by
  intro args H sr hs K hk
  unfold eEnd at hs
  split at hs
  · rename_i s b o
    split at hs
    · rename_i vs hb
      cases hs
      obtain ⟨h1, h2, h3⟩ := cond_need hk
      have h1' := of_decide_eq_true h1
      rw [h2] at hb
      have hp := h (getP vs) s h1'
      refine (SC.read1 hp rfl (cells_ren (setC_flat _) 0 false) (by simp) hb).mono ?_
      rintro v H' ⟨rfl, rfl⟩
      exact ⟨none, h3, rfl⟩
    · cases hs
  · cases hs
theorem one_end {f : FuncId} {args : List AV} {k : ABlk} {v : AV} (h : SC Tryz.prog f args [k] (outE [⟨Unit, fun _ => v, fun _ => [k], fun _ => True, none⟩])) : SC Tryz.prog f args [k] (fun v' H' => v' = v ∧ H' = [k]) :=
  h.mono fun v' H' h => by
    obtain ⟨_, _, h1, h2⟩ := outE_one h
    exact ⟨h1, h2⟩
theorem tlE_ok : EntryOk Tryz.prog 88 (eEnd tl) := eEnd_ok fun p s _ => one_end (SC.ofF (V := VT) names0 mixed0 noS_ok noO_ok (tl_vc p s))
theorem trE_ok : EntryOk Tryz.prog 89 (eEnd tr) := eEnd_ok fun p s hs => one_end (SC.ofF (V := VT) names0 mixed0 noS_ok noO_ok (tr_vc p s (by unfold maxS at hs; omega)))
theorem T1_ok : SpecOk Tryz.prog (tabS T1 noS) := by
  refine tabS_ok (fun p hp => ?_) noS_ok
  simp only [T1, List.mem_cons, List.mem_nil_iff, or_false] at hp
  rcases hp with rfl | rfl | rfl
  · exact gMk_ok
  · exact tlE_ok
  · exact trE_ok
theorem trimP_length (p : Nat → Bool) (s : List UInt8) : (trimP p s).length ≤ s.length := Nat.le_trans (tl_length _ _) (tr_length _ _)
theorem trimW_vc (s : List UInt8) (hs : s.length ≤ maxS) : vTrimW s := by
  rw [vTrimW_eq]
  simp only [cond_F]
  simp only [cond_P, leI_t, leI_f, ltI_t, ltI_f, eqI_t, eqI_f, and_t, not_t, not_f, dec_t, dec_f, Nat.zero_add, Nat.mul_one, List.drop_zero]
  have hl := tr_length (memB white) s
  have hp : ∀ n, n < 256 → getP (setC (memB white)) n = memB white n := fun n hn => getP_setC _ hn
  refine ⟨fun h => ⟨(), trivial, trivial, ?_, trivial⟩, fun _ => ⟨hs, by kernel_rfl, ?_, by kernel_rfl, (), trivial, trivial, ?_, trivial⟩⟩
  · subst h; rfl
  · show (tr (getP (setC (memB white))) s).length ≤ _
    rw [tr_congr hp]
    exact Nat.le_trans hl hs
  · show tl (getP (setC (memB white))) (tr (getP (setC (memB white))) s) = _
    rw [tr_congr hp, tl_congr hp]
    rfl
theorem trimD_vc (s : List UInt8) (hs : s.length ≤ maxS) : vTrimD s := by
  rw [vTrimD_eq]
  simp only [cond_F]
  simp only [cond_P, leI_t, leI_f, ltI_t, ltI_f, eqI_t, eqI_f, and_t, not_t, not_f, dec_t, dec_f, Nat.zero_add, Nat.mul_one, List.drop_zero]
  have hl := tr_length (memB digs) s
  have hp : ∀ n, n < 256 → getP (setC (memB digs)) n = memB digs n := fun n hn => getP_setC _ hn
  refine ⟨fun h => ⟨(), trivial, trivial, ?_, trivial⟩, fun _ => ⟨hs, by kernel_rfl, ?_, by kernel_rfl, (), trivial, trivial, ?_, trivial⟩⟩
  · subst h; rfl
  · show (tr (getP (setC (memB digs))) s).length ≤ _
    rw [tr_congr hp]
    exact Nat.le_trans hl hs
  · show tl (getP (setC (memB digs))) (tr (getP (setC (memB digs))) s) = _
    rw [tr_congr hp, tl_congr hp]
    rfl
theorem gTrim_ok : EntryOk Tryz.prog 71 (flatE gTrim) := by
  refine flatE_ok fun args b v hg hb => ?_
  unfold gTrim at hg
  split at hg
  · rename_i s w
    split at hg
    · rename_i he
      obtain rfl := bytesEq_ok he
      cases hg
      exact ⟨rfl, rfl, SC.one (V := V1) names0 mixed0 T1_ok noO_ok (trimW_vc s (of_decide_eq_true hb))⟩
    · split at hg
      · rename_i he
        obtain rfl := bytesEq_ok he
        cases hg
        exact ⟨rfl, rfl, SC.one (V := V1) names0 mixed0 T1_ok noO_ok (trimD_vc s (of_decide_eq_true hb))⟩
      · cases hg
  · cases hg
theorem T2_ok : SpecOk Tryz.prog (tabS T2 noS) := by
  refine tabS_ok (fun p hp => ?_) noS_ok
  simp only [T2, List.mem_cons, List.mem_nil_iff, or_false] at hp
  subst hp
  exact gTrim_ok
theorem trim_vc (s : List UInt8) (hs : s.length ≤ maxS) : vTrim s := by
  rw [vTrim_eq]
  simp only [cond_F]
  exact ⟨decide_eq_true hs, (), trivial, trivial, trivial, trivial⟩
theorem g1_ok {f : FuncId} {h : List UInt8 → Bool} {F : List UInt8 → AV} (hF : ∀ s, (F s).flat = true) (hc : ∀ s, h s = true → SC Tryz.prog f [.str s] [] (fun v H => v = F s ∧ H = [])) : EntryOk Tryz.prog f (flatE (g1 h F)) := by
  refine flatE_ok fun args b v hg hb => ?_
  unfold g1 at hg
  split at hg
  · cases hg
    exact ⟨rfl, hF _, hc _ hb⟩
  · cases hg
theorem T3_ok : SpecOk Tryz.prog (tabS T3 noS) := by
  refine tabS_ok (fun p hp => ?_) noS_ok
  simp only [T3, List.mem_cons, List.mem_nil_iff, or_false] at hp
  subst hp
  exact g1_ok (fun _ => rfl) fun s hs => SC.one (V := V2) names0 mixed0 T2_ok noO_ok (trim_vc s (of_decide_eq_true hs))

theorem splitF_in {s : List UInt8} {i fm : Nat} {q : Bool} {acc : List (List UInt8)} (h : i < s.length) : splitF s i fm q acc =
    if q = true ∧ byteAt s i = 92 then splitF s (i + 2) fm q acc
    else if byteAt s i = 34 then splitF s (i + 1) fm (!q) acc
    else if byteAt s i = 44 ∧ q = false then splitF s (i + 1) (i + 1) q (putF s fm i acc)
    else splitF s (i + 1) fm q acc := by rw [splitF, if_pos h]
theorem splitF_end {s : List UInt8} {i fm : Nat} {q : Bool} {acc : List (List UInt8)} (h : s.length ≤ i) : splitF s i fm q acc = putF s fm s.length acc := by rw [splitF, if_neg (by omega)]
theorem put_nil {s : List UInt8} {fm to : Nat} {acc : List (List UInt8)} (h : trimW ((s.drop fm).take (to - fm)) = []) : putF s fm to acc = acc := if_pos h
theorem put_cons {s : List UInt8} {fm to : Nat} {acc : List (List UInt8)} (h : ¬ trimW ((s.drop fm).take (to - fm)) = []) : putF s fm to acc = acc ++ [trimW ((s.drop fm).take (to - fm))] := if_neg h
section
variable {s : List UInt8} {i fm : Nat} {q : Bool} {acc : List (List UInt8)}
theorem ok1 (h : okS s ⟨i, fm, true, acc⟩) (hi : (i : Int) < s.length) (h1 : byteAt s i = 92) : okS s ⟨i + 2, fm, true, acc⟩ := by
  obtain ⟨g1, g2, g3, g4, g5⟩ := h
  have hi' : i < s.length := by omega
  dsimp only at g1 g2 g3 g4 g5
  rw [splitF_in hi', if_pos ⟨rfl, h1⟩] at g1
  exact ⟨g1, g2, by dsimp only; omega, by dsimp only; omega, g5⟩
theorem ok2 (h : okS s ⟨i, fm, q, acc⟩) (hi : (i : Int) < s.length) (h1 : byteAt s i = 34) : okS s ⟨i + 1, fm, !q, acc⟩ := by
  obtain ⟨g1, g2, g3, g4, g5⟩ := h
  have hi' : i < s.length := by omega
  dsimp only at g1 g2 g3 g4 g5
  rw [splitF_in hi', if_neg (by omega), if_pos h1] at g1
  exact ⟨g1, g2, by dsimp only; omega, by dsimp only; omega, g5⟩
theorem ok3n (h : okS s ⟨i, fm, false, acc⟩) (hi : (i : Int) < s.length) (h1 : byteAt s i = 44) (h2 : trimW ((s.drop fm).take (i - fm)) = []) : okS s ⟨i + 1, i + 1, false, acc⟩ := by
  obtain ⟨g1, g2, g3, g4, g5⟩ := h
  have hi' : i < s.length := by omega
  dsimp only at g1 g2 g3 g4 g5
  rw [splitF_in hi', if_neg (by omega), if_neg (by omega), if_pos ⟨h1, rfl⟩, put_nil h2] at g1
  exact ⟨g1, by dsimp only; omega, by dsimp only; omega, by dsimp only; omega, by dsimp only; omega⟩
theorem ok3c (h : okS s ⟨i, fm, false, acc⟩) (hi : (i : Int) < s.length) (h1 : byteAt s i = 44) (h2 : ¬ trimW ((s.drop fm).take (i - fm)) = []) : okS s ⟨i + 1, i + 1, false, acc ++ [trimW ((s.drop fm).take (i - fm))]⟩ := by
  obtain ⟨g1, g2, g3, g4, g5⟩ := h
  have hi' : i < s.length := by omega
  dsimp only at g1 g2 g3 g4 g5
  rw [splitF_in hi', if_neg (by omega), if_neg (by omega), if_pos ⟨h1, rfl⟩, put_cons h2] at g1
  exact ⟨g1, by dsimp only; omega, by dsimp only; omega, by dsimp only; omega, by dsimp only; simp; omega⟩
theorem ok4 (h : okS s ⟨i, fm, q, acc⟩) (hi : (i : Int) < s.length) (h1 : q = true → byteAt s i ≠ 92) (h2 : byteAt s i ≠ 34) (h3 : q = false → byteAt s i ≠ 44) : okS s ⟨i + 1, fm, q, acc⟩ := by
  obtain ⟨g1, g2, g3, g4, g5⟩ := h
  have hi' : i < s.length := by omega
  dsimp only at g1 g2 g3 g4 g5
  rw [splitF_in hi', if_neg (fun h => h1 h.1 h.2), if_neg h2, if_neg (fun h => h3 h.2 h.1)] at g1
  exact ⟨g1, g2, by dsimp only; omega, by dsimp only; omega, g5⟩
theorem okEnd (h : okS s ⟨i, fm, q, acc⟩) (hi : (s.length : Int) ≤ i) : split s = putF s fm s.length acc := by
  have := h.1
  dsimp only at this
  rw [← this, splitF_end (by omega)]
end
theorem ts_length (l : List (List UInt8)) : (ts l).length = l.length := by simp [ts]
theorem ts_flat (l : List (List UInt8)) : AV.flats (ts l) = true := flats_map _ _ fun _ => rfl
theorem ts_snoc (l : List (List UInt8)) (x : List UInt8) : ts l ++ [.str x] = ts (l ++ [x]) := by simp [ts]
theorem split_vc (s : List UInt8) (hs : s.length ≤ 1099511627776) : vSplit s := by
  rw [vSplit_eq]
  simp only [ic, cond_F]
  simp only [cond_P, leI_t, leI_f, ltI_t, ltI_f, eqI_t, eqI_f, and_t, not_t, not_f, dec_t, dec_f, Nat.zero_add, Nat.mul_one, List.drop_zero]
  have hlen : ∀ a b, ((s.drop a).take b).length ≤ s.length := fun a b => by simp; omega
  refine ⟨?_, ?_, ?_⟩
  · exact Or.inl ⟨⟨0, 0, false, []⟩, ⟨⟨rfl, by simp, by simp, by simp, by simp⟩, rfl⟩, by dsimp only; (repeat' (first | exact trivial | rfl | omega | assumption | refine And.intro ?_ ?_))⟩
  · intro x
    obtain ⟨i, fm, q, acc⟩ := x
    dsimp only
    rintro ⟨hok, rfl⟩
    have hb := hok.2
    dsimp only at hb
    have h16 := hlen fm (i - fm)
    have h17 := hlen fm (s.length - fm)
    cases q
    all_goals simp only [reduceCtorEq, true_implies, false_implies, and_true, true_and, implies_true]
    all_goals repeat' (first | refine And.intro ?_ ?_ | intro _)
    all_goals first
      | omega
      | exact Or.inl ⟨⟨i + 2, fm, true, []⟩, ⟨ok1 hok (by assumption) (by assumption), rfl⟩, by dsimp only; omega, by dsimp only; (repeat' (first | exact trivial | rfl | omega | assumption | exact cellsP_flat (ts_flat _) (by simp [ts]) | (simp; done) | refine And.intro ?_ ?_))⟩
      | exact Or.inl ⟨⟨i + 1, fm, _, []⟩, ⟨ok2 hok (by assumption) (by assumption), rfl⟩, by dsimp only; omega, by dsimp only; (repeat' (first | exact trivial | rfl | omega | assumption | exact cellsP_flat (ts_flat _) (by simp [ts]) | (simp; done) | refine And.intro ?_ ?_))⟩
      | exact Or.inl ⟨⟨i + 1, i + 1, false, []⟩, ⟨ok3n hok (by assumption) (by assumption) (by assumption), rfl⟩, by dsimp only; omega, by dsimp only; (repeat' (first | exact trivial | rfl | omega | assumption | exact cellsP_flat (ts_flat _) (by simp [ts]) | (simp; done) | refine And.intro ?_ ?_))⟩
      | exact Or.inr ⟨⟨i + 1, i + 1, false, _⟩, ⟨ok3c hok (by assumption) (by assumption) (by assumption), by simp⟩, by dsimp only; omega, by dsimp only; (repeat' (first | exact trivial | rfl | omega | assumption | exact cellsP_flat (ts_flat _) (by simp [ts]) | (simp; done) | refine And.intro ?_ ?_))⟩
      | exact Or.inl ⟨⟨i + 1, fm, _, []⟩, ⟨ok4 hok (by assumption) (by intro h; first | assumption | (cases h; done)) (by assumption) (by intro h; first | assumption | (cases h; done)), rfl⟩, by dsimp only; omega, by dsimp only; (repeat' (first | exact trivial | rfl | omega | assumption | exact cellsP_flat (ts_flat _) (by simp [ts]) | (simp; done) | refine And.intro ?_ ?_))⟩
      | (have e := (okEnd hok (by assumption)).trans (put_nil (by assumption)); exact Or.inl ⟨(), by simp [e]⟩)
      | (have e := (okEnd hok (by assumption)).trans (put_cons (by assumption)); rw [e]; exact Or.inr ⟨(), by simp, by (repeat' (first | exact trivial | rfl | omega | assumption | exact cellsP_flat (ts_flat _) (by simp [ts]) | (simp; done) | refine And.intro ?_ ?_))⟩)
  · intro x
    obtain ⟨i, fm, q, acc⟩ := x
    dsimp only
    rintro ⟨hok, hne⟩
    simp only [ts_length, setManyF]
    have hb := hok.2
    dsimp only at hb
    have h16 := hlen fm (i - fm)
    have h17 := hlen fm (s.length - fm)
    cases q
    all_goals simp only [reduceCtorEq, true_implies, false_implies, and_true, true_and, implies_true]
    all_goals repeat' (first | refine And.intro ?_ ?_ | intro _)
    all_goals first
      | omega
      | exact Or.inr ⟨⟨i + 2, fm, true, acc⟩, ⟨ok1 hok (by assumption) (by assumption), hne⟩, by dsimp only; omega, by dsimp only; (repeat' (first | exact trivial | rfl | omega | assumption | exact cellsP_flat (ts_flat _) (by simp [ts]) | (simp; done) | refine And.intro ?_ ?_))⟩
      | exact Or.inr ⟨⟨i + 1, fm, _, acc⟩, ⟨ok2 hok (by assumption) (by assumption), hne⟩, by dsimp only; omega, by dsimp only; (repeat' (first | exact trivial | rfl | omega | assumption | exact cellsP_flat (ts_flat _) (by simp [ts]) | (simp; done) | refine And.intro ?_ ?_))⟩
      | exact Or.inr ⟨⟨i + 1, i + 1, false, acc⟩, ⟨ok3n hok (by assumption) (by assumption) (by assumption), hne⟩, by dsimp only; omega, by dsimp only; (repeat' (first | exact trivial | rfl | omega | assumption | exact cellsP_flat (ts_flat _) (by simp [ts]) | (simp; done) | refine And.intro ?_ ?_))⟩
      | exact Or.inr ⟨⟨i + 1, i + 1, false, _⟩, ⟨ok3c hok (by assumption) (by assumption) (by assumption), by simp⟩, by dsimp only; omega, by dsimp only; (repeat' (first | exact trivial | rfl | omega | assumption | exact cellsP_flat (ts_flat _) (by simp [ts]) | (simp; done) | refine And.intro ?_ ?_))⟩
      | exact Or.inr ⟨⟨i + 1, fm, _, acc⟩, ⟨ok4 hok (by assumption) (by intro h; first | assumption | (cases h; done)) (by assumption) (by intro h; first | assumption | (cases h; done)), hne⟩, by dsimp only; omega, by dsimp only; (repeat' (first | exact trivial | rfl | omega | assumption | exact cellsP_flat (ts_flat _) (by simp [ts]) | (simp; done) | refine And.intro ?_ ?_))⟩
      | (have e := (okEnd hok (by assumption)).trans (put_nil (by assumption)); rw [e]; exact Or.inr ⟨(), hne, by (repeat' (first | exact trivial | rfl | omega | assumption | exact cellsP_flat (ts_flat _) (by simp [ts]) | (simp; done) | refine And.intro ?_ ?_))⟩)
      | (have e := (okEnd hok (by assumption)).trans (put_cons (by assumption)); rw [e]; exact Or.inr ⟨(), by simp, by (repeat' (first | exact trivial | rfl | omega | assumption | exact cellsP_flat (ts_flat _) (by simp [ts]) | (simp; done) | refine And.intro ?_ ?_))⟩)
theorem split_sc (s : List UInt8) (hs : s.length ≤ 1099511627776) : SC Tryz.prog 38 [.str s] [] (outE (outT (split s))) :=
  SC.ofF (V := V3) names0 mixed0 T3_ok noO_ok (split_vc s hs)
end Go.Proofs.YtciciemaldbidaaGreatDoor

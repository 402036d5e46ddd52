/- What token.Number answers. -/
import Derived.Test.YtmjfkcjdmfgkcaaDoorLow
import Derived.Test.YtmjfkcjdmfgkcaaDoorSe
import Derived.Test.YtmjfkcjdmfgkcaaDoorShelf
import Derived.Lib.ParseIntB
import Derived.Lib.TrimUEq
import Derived.Lib.SmallJoins
set_option linter.unusedSimpArgs false
set_option linter.unusedVariables false
namespace Go.Proofs.YtmjfkcjdmfgkcaaDoor.Dig
open Go Go.Ve Go.RowKit
set_option maxRecDepth 20000
noncomputable def faT (f : FuncId) : Option FA := match Nat.beq f 59 with | true => some ⟨[], [], [(9, .bad)]⟩ | false => none
noncomputable def VT : VE := ⟨Tryd.prog, noS, noO, faT⟩
def digs : List UInt8 := [48, 49, 50, 51, 52, 53, 54, 55, 56, 57]
noncomputable def aTl (p : Nat → Bool) (s : List UInt8) : Anns := [(1, [.mk (List UInt8) (fun t => [(0, .str t)]) (fun _ => none) (fun t => tl p t = tl p s ∧ t.length ≤ s.length) (fun t => t.length) none none (fun _ => []) (fun _ => [])])]
noncomputable def aTr (p : Nat → Bool) (s : List UInt8) : Anns := [(1, [.mk (List UInt8) (fun t => [(0, .str t)]) (fun _ => none) (fun t => tr p t = tr p s ∧ t.length ≤ s.length) (fun t => t.length) none none (fun _ => []) (fun _ => [])])]
def maxS : Nat := 1099511627776
def le40 (s : List UInt8) : Bool := decide (s.length ≤ 1099511627776)
noncomputable def gMk (args : List AV) : Option (Bool × AV) :=
  match args with
  | [.str s] => match bytesEq s digs with
    | true => some (true, .tuple [.agg (setC (memB digs)), .bool true])
    | false => none
  | _ => none
def eEnd (F : (Nat → Bool) → List UInt8 → List UInt8) : SpecE := fun args H =>
  match args with
  | [.str s, .ptr b o] => match o, H[b]? with
    | 0, some (.cells vs 0 false) => some (.need (decide (s.length ≤ maxS)) (.needP (vs = setC (getP vs)) (.ok (.str (F (getP vs) s)) none)))
    | _, _ => none
  | _ => none
noncomputable def T1 : List (Nat × SpecE) := [(46, flatE gMk), (47, eEnd tl), (48, eEnd tr)]
noncomputable def V1 : VE := ⟨Tryd.prog, tabS T1 noS, noO, faT⟩
def trimP (p : Nat → Bool) (s : List UInt8) : List UInt8 := tl p (tr p s)
def trimD (s : List UInt8) : List UInt8 := trimP (memB digs) s
noncomputable def gTrim (args : List AV) : Option (Bool × AV) :=
  match args with
  | [.str s, .str w] => match bytesEq w digs with
    | true => some (decide (s.length ≤ maxS), .str (trimD s))
    | false => none
  | _ => none
def natV (s : List UInt8) : Nat := s.foldl (fun n c => n * 10 + (c.toNat - 48)) 0
def numE (s : List UInt8) : Int := if s = [] ∨ trimD s ≠ [] then 4 else if natV s ≤ 9007199254740991 then 0 else 3
def numV (s : List UInt8) : Int := if numE s = 0 then natV s else 0
/-- The variable ErrRange: an error. -/
def gErr (te : Nat) : ABlk := ABlk.glob 4 [.iface te .bad]
noncomputable def eParse : SpecE := fun args H =>
  match args with
  | [.str s, .int .i64 10, .int .i64 64] => match H[0]? with
    | some (ABlk.glob 4 [AV.iface _ .bad]) => some (.need (decide (s.length ≤ 1099511627776)) (.needP (s ≠ [] ∧ trimD s = [])
        (.br (ltI (natV s) 9223372036854775808) (.ok (.tuple [.int .i64 (natV s), .niliface]) none) (.ok (.tuple [.int .i64 9223372036854775807, .iface 88 .bad]) none))))
    | _ => none
  | _ => none
noncomputable def TN : List (Nat × SpecE) := [(36, flatE gTrim), (39, eParse)]
noncomputable def aIdx (s : List UInt8) (te : Nat) : Anns := [(2, [.mk Nat (fun _ => []) (fun i => some [gErr te, .siter s i]) (fun i => i ≤ s.length) (fun i => s.length - i) gcB gcB (fun _ => []) (fun _ => [])])]
noncomputable def faN (s : List UInt8) (te : Nat) (f : FuncId) : Option FA := match Nat.beq f 37 with
  | true => some ⟨[], [], []⟩
  | false => match Nat.beq f 51 with
    | true => some ⟨[], aIdx s te, []⟩
    | false => match Nat.beq f 38 with
      | true => some ⟨[], [], []⟩
      | false => none
noncomputable def VN (s : List UInt8) (te : Nat) : VE := ⟨Tryd.prog, tabS TN noS, noO, faN s te⟩
noncomputable def outN (s : List UInt8) (te : Nat) : List Out := [⟨Unit, fun _ => .tuple [.int .i64 (numV s), .int .i64 (numE s)], fun _ => [gErr te], fun _ => True, gcB⟩]

noncomputable def vMkD  : Prop := vcF VT [] 300 [] [] 46 [.str digs] [] (one (.tuple [.agg (setC (memB digs)), .bool true]))
noncomputable def vTl  (p : Nat → Bool) (s : List UInt8) : Prop := vcF VT [] 300 (aTl p s) [] 47 [.str s, .ptr 0 0] [.cells (setC p) 0 false] [⟨Unit, fun _ => .str (tl p s), fun _ => [.cells (setC p) 0 false], fun _ => True, none⟩]
noncomputable def vTr  (p : Nat → Bool) (s : List UInt8) : Prop := vcF VT [] 300 (aTr p s) [] 48 [.str s, .ptr 0 0] [.cells (setC p) 0 false] [⟨Unit, fun _ => .str (tr p s), fun _ => [.cells (setC p) 0 false], fun _ => True, none⟩]
noncomputable def vTrimD  (s : List UInt8) : Prop := vcF V1 [] 300 [] [] 36 [.str s, .str digs] [] (one (.str (trimD s)))
noncomputable def vNum  (s : List UInt8) (te : Nat) : Prop := vcF (VN s te) [] 300 [] [] 31 [.str s] [gErr te] (outN s te)
def gqNumD0 : Nat → Nat := (fun (b : Nat) => [(0 : Nat)].getD b (1 : Nat))
def glNumD0 : List AV := [AV.bool false, AV.bool false, AV.bool false, AV.bool false, AV.bool false, AV.bool false, AV.bool false, AV.bool false, AV.bool false, AV.bool false, AV.bool false, AV.bool false, AV.bool false, AV.bool false, AV.bool false, AV.bool false, AV.bool false, AV.bool false, AV.bool false, AV.bool false, AV.bool false, AV.bool false, AV.bool false, AV.bool false, AV.bool false, AV.bool false, AV.bool false, AV.bool false, AV.bool false, AV.bool false, AV.bool false, AV.bool false, AV.bool false, AV.bool false, AV.bool false, AV.bool false, AV.bool false, AV.bool false, AV.bool false, AV.bool false, AV.bool false, AV.bool false, AV.bool false, AV.bool false, AV.bool false, AV.bool false, AV.bool false, AV.bool false, AV.bool true, AV.bool true, AV.bool true, AV.bool true, AV.bool true, AV.bool true, AV.bool true, AV.bool true, AV.bool true, AV.bool true, AV.bool false, AV.bool false, AV.bool false, AV.bool false, AV.bool false, AV.bool false, AV.bool false, AV.bool false, AV.bool false, AV.bool false, AV.bool false, AV.bool false, AV.bool false, AV.bool false, AV.bool false, AV.bool false, AV.bool false, AV.bool false, AV.bool false, AV.bool false, AV.bool false, AV.bool false, AV.bool false, AV.bool false, AV.bool false, AV.bool false, AV.bool false, AV.bool false, AV.bool false, AV.bool false, AV.bool false, AV.bool false, AV.bool false, AV.bool false, AV.bool false, AV.bool false, AV.bool false, AV.bool false, AV.bool false, AV.bool false, AV.bool false, AV.bool false, AV.bool false, AV.bool false, AV.bool false, AV.bool false, AV.bool false, AV.bool false, AV.bool false, AV.bool false, AV.bool false, AV.bool false, AV.bool false, AV.bool false, AV.bool false, AV.bool false, AV.bool false, AV.bool false, AV.bool false, AV.bool false, AV.bool false, AV.bool false, AV.bool false, AV.bool false, AV.bool false, AV.bool false, AV.bool false, AV.bool false, AV.bool false, AV.bool false, AV.bool false, AV.bool false, AV.bool false, AV.bool false, AV.bool false, AV.bool false, AV.bool false, AV.bool false, AV.bool false, AV.bool false, AV.bool false, AV.bool false, AV.bool false, AV.bool false, AV.bool false, AV.bool false, AV.bool false, AV.bool false, AV.bool false, AV.bool false, AV.bool false, AV.bool false, AV.bool false, AV.bool false, AV.bool false, AV.bool false, AV.bool false, AV.bool false, AV.bool false, AV.bool false, AV.bool false, AV.bool false, AV.bool false, AV.bool false, AV.bool false, AV.bool false, AV.bool false, AV.bool false, AV.bool false, AV.bool false, AV.bool false, AV.bool false, AV.bool false, AV.bool false, AV.bool false, AV.bool false, AV.bool false, AV.bool false, AV.bool false, AV.bool false, AV.bool false, AV.bool false, AV.bool false, AV.bool false, AV.bool false, AV.bool false, AV.bool false, AV.bool false, AV.bool false, AV.bool false, AV.bool false, AV.bool false, AV.bool false, AV.bool false, AV.bool false, AV.bool false, AV.bool false, AV.bool false, AV.bool false, AV.bool false, AV.bool false, AV.bool false, AV.bool false, AV.bool false, AV.bool false, AV.bool false, AV.bool false, AV.bool false, AV.bool false, AV.bool false, AV.bool false, AV.bool false, AV.bool false, AV.bool false, AV.bool false, AV.bool false, AV.bool false, AV.bool false, AV.bool false, AV.bool false, AV.bool false, AV.bool false, AV.bool false, AV.bool false, AV.bool false, AV.bool false, AV.bool false, AV.bool false, AV.bool false, AV.bool false, AV.bool false, AV.bool false, AV.bool false, AV.bool false, AV.bool false, AV.bool false, AV.bool false, AV.bool false, AV.bool false, AV.bool false, AV.bool false, AV.bool false, AV.bool false, AV.bool false, AV.bool false, AV.bool false, AV.bool false, AV.bool false, AV.bool false, AV.bool false, AV.bool false, AV.bool false, AV.bool false, AV.bool false, AV.bool false, AV.bool false, AV.bool false, AV.bool false]
theorem vMkD_eq  : vMkD  = (∃ (_x : Unit), True ∧ True ∧ (((false = false ∧ false = false ∧ false = false ∧ false = false ∧ false = false ∧ false = false ∧ false = false ∧ false = false ∧ false = false ∧ false = false ∧ false = false ∧ false = false ∧ false = false ∧ false = false ∧ false = false ∧ false = false ∧ false = false ∧ false = false ∧ false = false ∧ false = false ∧ false = false ∧ false = false ∧ false = false ∧ false = false ∧ false = false ∧ false = false ∧ false = false ∧ false = false ∧ false = false ∧ false = false ∧ false = false ∧ false = false ∧ false = false ∧ false = false ∧ false = false ∧ false = false ∧ false = false ∧ false = false ∧ false = false ∧ false = false ∧ false = false ∧ false = false ∧ false = false ∧ false = false ∧ false = false ∧ false = false ∧ false = false ∧ false = false ∧ true = true ∧ true = true ∧ true = true ∧ true = true ∧ true = true ∧ true = true ∧ true = true ∧ true = true ∧ true = true ∧ true = true ∧ false = false ∧ false = false ∧ false = false ∧ false = false ∧ false = false ∧ false = false ∧ false = false ∧ false = false ∧ false = false ∧ false = false ∧ false = false ∧ false = false ∧ false = false ∧ false = false ∧ false = false ∧ false = false ∧ false = false ∧ false = false ∧ false = false ∧ false = false ∧ false = false ∧ false = false ∧ false = false ∧ false = false ∧ false = false ∧ false = false ∧ false = false ∧ false = false ∧ false = false ∧ false = false ∧ false = false ∧ false = false ∧ false = false ∧ false = false ∧ false = false ∧ false = false ∧ false = false ∧ false = false ∧ false = false ∧ false = false ∧ false = false ∧ false = false ∧ false = false ∧ false = false ∧ false = false ∧ false = false ∧ false = false ∧ false = false ∧ false = false ∧ false = false ∧ false = false ∧ false = false ∧ false = false ∧ false = false ∧ false = false ∧ false = false ∧ false = false ∧ false = false ∧ false = false ∧ false = false ∧ false = false ∧ false = false ∧ false = false ∧ false = false ∧ false = false ∧ false = false ∧ false = false ∧ false = false ∧ false = false ∧ false = false ∧ false = false ∧ false = false ∧ false = false ∧ false = false ∧ false = false ∧ false = false ∧ false = false ∧ false = false ∧ false = false ∧ false = false ∧ false = false ∧ false = false ∧ false = false ∧ false = false ∧ false = false ∧ false = false ∧ false = false ∧ false = false ∧ false = false ∧ false = false ∧ false = false ∧ false = false ∧ false = false ∧ false = false ∧ false = false ∧ false = false ∧ false = false ∧ false = false ∧ false = false ∧ false = false ∧ false = false ∧ false = false ∧ false = false ∧ false = false ∧ false = false ∧ false = false ∧ false = false ∧ false = false ∧ false = false ∧ false = false ∧ false = false ∧ false = false ∧ false = false ∧ false = false ∧ false = false ∧ false = false ∧ false = false ∧ false = false ∧ false = false ∧ false = false ∧ false = false ∧ false = false ∧ false = false ∧ false = false ∧ false = false ∧ false = false ∧ false = false ∧ false = false ∧ false = false ∧ false = false ∧ false = false ∧ false = false ∧ false = false ∧ false = false ∧ false = false ∧ false = false ∧ false = false ∧ false = false ∧ false = false ∧ false = false ∧ false = false ∧ false = false ∧ false = false ∧ false = false ∧ false = false ∧ false = false ∧ false = false ∧ false = false ∧ false = false ∧ false = false ∧ false = false ∧ false = false ∧ false = false ∧ false = false ∧ false = false ∧ false = false ∧ false = false ∧ false = false ∧ false = false ∧ false = false ∧ false = false ∧ false = false ∧ false = false ∧ false = false ∧ false = false ∧ false = false ∧ false = false ∧ false = false ∧ false = false ∧ false = false ∧ false = false ∧ false = false ∧ false = false ∧ false = false ∧ false = false ∧ false = false ∧ false = false ∧ false = false ∧ false = false ∧ false = false ∧ false = false ∧ false = false ∧ false = false ∧ false = false ∧ false = false ∧ false = false ∧ false = false ∧ false = false ∧ false = false ∧ false = false ∧ false = false ∧ false = false ∧ false = false ∧ false = false ∧ false = false ∧ false = false ∧ false = false ∧ false = false ∧ True) ∧ True) ∧ true = true ∧ True) ∧ True) := by kernel_rfl
theorem vTl_eq  (p : Nat → Bool) (s : List UInt8) : vTl p s = ((∃ (x : List UInt8), (tl p x = tl p s ∧ x.length ≤ s.length) ∧ ((cellsP gqNumD0 (setC p) (setC p) ∧ True) ∧ True) ∧ s = x ∧ True) ∧ ∀ (x : List UInt8), tl p x = tl p s ∧ x.length ≤ s.length → bif ltI (0 : Int) (ic x.length) then bif ltI (0 : Int) (ic x.length) then bif ltI (byteAt x (0 : Nat)) (256 : Int) then (∃ (c : Bool), (setC p)[(0 : Nat) + (byteAt x (0 : Nat)).toNat * (1 : Nat)]? = some (AV.bool c)) ∧ ∀ (x_1 : Bool), (setC p)[(0 : Nat) + (byteAt x (0 : Nat)).toNat * (1 : Nat)]? = some (AV.bool x_1) → bif !x_1 then ∃ (_x : Unit), True ∧ ((cellsP gqNumD0 (setC p) (setC p) ∧ True) ∧ True) ∧ x = tl p s ∧ True else bif leI (1 : Int) (ic x.length) then ∃ (y : List UInt8), (tl p y = tl p s ∧ y.length ≤ s.length) ∧ y.length < x.length ∧ ((cellsP gqNumD0 (setC p) (setC p) ∧ True) ∧ True) ∧ List.drop (1 : Nat) x = y ∧ True else False else False else False else ∃ (_x : Unit), True ∧ ((cellsP gqNumD0 (setC p) (setC p) ∧ True) ∧ True) ∧ x = tl p s ∧ True) := by kernel_rfl
theorem vTr_eq  (p : Nat → Bool) (s : List UInt8) : vTr p s = ((∃ (x : List UInt8), (tr p x = tr p s ∧ x.length ≤ s.length) ∧ ((cellsP gqNumD0 (setC p) (setC p) ∧ True) ∧ True) ∧ s = x ∧ True) ∧ ∀ (x : List UInt8), tr p x = tr p s ∧ x.length ≤ s.length → bif ltI (0 : Int) (ic x.length) then bif leI (-9223372036854775808 : Int) (ic x.length - (1 : Int)) && leI (ic x.length - (1 : Int)) (9223372036854775807 : Int) then bif leI (0 : Int) (ic x.length - (1 : Int)) && ltI (ic x.length - (1 : Int)) (ic x.length) then bif ltI (byteAt x (ic x.length - (1 : Int)).toNat) (256 : Int) then (∃ (c : Bool), (setC p)[(0 : Nat) + (byteAt x (ic x.length - (1 : Int)).toNat).toNat * (1 : Nat)]? = some (AV.bool c)) ∧ ∀ (x_1 : Bool), (setC p)[(0 : Nat) + (byteAt x (ic x.length - (1 : Int)).toNat).toNat * (1 : Nat)]? = some (AV.bool x_1) → bif !x_1 then ∃ (_x : Unit), True ∧ ((cellsP gqNumD0 (setC p) (setC p) ∧ True) ∧ True) ∧ x = tr p s ∧ True else bif leI (-9223372036854775808 : Int) (ic x.length - (1 : Int)) && leI (ic x.length - (1 : Int)) (9223372036854775807 : Int) then bif leI (0 : Int) (ic x.length - (1 : Int)) && leI (ic x.length - (1 : Int)) (ic x.length) then ∃ (y : List UInt8), (tr p y = tr p s ∧ y.length ≤ s.length) ∧ y.length < x.length ∧ ((cellsP gqNumD0 (setC p) (setC p) ∧ True) ∧ True) ∧ List.take (ic x.length - (1 : Int)).toNat x = y ∧ True else False else False else False else False else False else ∃ (_x : Unit), True ∧ ((cellsP gqNumD0 (setC p) (setC p) ∧ True) ∧ True) ∧ x = tr p s ∧ True) := by kernel_rfl
theorem vTrimD_eq  (s : List UInt8) : vTrimD s = (bif decide (s = []) then ∃ (_x : Unit), True ∧ True ∧ s = trimD s ∧ True else bif decide (s.length ≤ (1099511627776 : Nat)) then glNumD0 = setC (getP glNumD0) ∧ bif decide ((tr (getP glNumD0) s).length ≤ (1099511627776 : Nat)) then glNumD0 = setC (getP glNumD0) ∧ ∃ (_x : Unit), True ∧ True ∧ tl (getP glNumD0) (tr (getP glNumD0) s) = trimD s ∧ True else False else False) := by kernel_rfl
theorem vNum_eq  (s : List UInt8) (te : Nat) : vNum s te = (bif decide (s = []) then ∃ (_x : Unit), True ∧ (((4 : Nat) = (4 : Nat) ∧ (te = te ∧ True) ∧ True) ∧ True) ∧ ((0 : Int) = numV s ∧ (4 : Int) = numE s ∧ True) ∧ True else bif decide (s.length ≤ (1099511627776 : Nat)) then bif !decide (trimD s = []) then ∃ (_x : Unit), True ∧ (((4 : Nat) = (4 : Nat) ∧ (te = te ∧ True) ∧ True) ∧ True) ∧ ((0 : Int) = numV s ∧ (4 : Int) = numE s ∧ True) ∧ True else (∃ (x : Nat), x ≤ s.length ∧ (((4 : Nat) = (4 : Nat) ∧ (te = te ∧ True) ∧ True) ∧ (s = s ∧ (0 : Nat) = x) ∧ True) ∧ True) ∧ ∀ (x : Nat), x ≤ s.length → bif decide (x < s.length) then bif ltI (ic (Utf8.decode { data := { toList := s } } x).fst) (48 : Int) then ∃ (_x : Unit), True ∧ (((4 : Nat) = (4 : Nat) ∧ (te = te ∧ True) ∧ True) ∧ True) ∧ ((0 : Int) = numV s ∧ (4 : Int) = numE s ∧ True) ∧ True else bif ltI (57 : Int) (ic (Utf8.decode { data := { toList := s } } x).fst) == true then ∃ (_x : Unit), True ∧ (((4 : Nat) = (4 : Nat) ∧ (te = te ∧ True) ∧ True) ∧ True) ∧ ((0 : Int) = numV s ∧ (4 : Int) = numE s ∧ True) ∧ True else ∃ (y : Nat), y ≤ s.length ∧ s.length - y < s.length - x ∧ (((4 : Nat) = (4 : Nat) ∧ (te = te ∧ True) ∧ True) ∧ (s = s ∧ x + (Utf8.decode { data := { toList := s } } x).snd = y) ∧ True) ∧ True else bif decide (s.length ≤ (1099511627776 : Nat)) then (s ≠ [] ∧ trimD s = []) ∧ bif ltI (ic (natV s)) (9223372036854775808 : Int) then bif ltI (9007199254740991 : Int) (ic (natV s)) then ∃ (_x : Unit), True ∧ (((4 : Nat) = (4 : Nat) ∧ (te = te ∧ True) ∧ True) ∧ True) ∧ ((0 : Int) = numV s ∧ (3 : Int) = numE s ∧ True) ∧ True else ∃ (_x : Unit), True ∧ (((4 : Nat) = (4 : Nat) ∧ (te = te ∧ True) ∧ True) ∧ True) ∧ (ic (natV s) = numV s ∧ (0 : Int) = numE s ∧ True) ∧ True else ∃ (_x : Unit), True ∧ (((4 : Nat) = (4 : Nat) ∧ (te = te ∧ True) ∧ True) ∧ True) ∧ ((0 : Int) = numV s ∧ (3 : Int) = numE s ∧ True) ∧ True else False else False) := by kernel_rfl
theorem mkD_vc : vMkD := by rw [vMkD_eq]; simp
theorem tl_vc (p : Nat → Bool) (s : List UInt8) : vTl p s := by
  rw [vTl_eq]
  simp only [ic, cond_F]
  simp only [cond_P, leI_t, leI_f, ltI_t, ltI_f, and_t, dec_t, not_t, not_f, Nat.zero_add, Nat.mul_one]
  have hc : ∀ ρ, cellsP ρ (setC p) (setC p) := fun ρ => cellsP_flat (setC_flat p) rfl
  refine ⟨⟨s, ⟨rfl, Nat.le_refl _⟩, ⟨⟨hc _, trivial⟩, trivial⟩, rfl, trivial⟩, fun x hx => ⟨fun h0 => ?_, fun h0 => ⟨(), trivial, ⟨⟨hc _, trivial⟩, trivial⟩, ?_, trivial⟩⟩⟩
  · cases x with
    | nil => simp at h0
    | cons c t =>
      have hn : ((c.toNat : Int)).toNat = c.toNat := by simp
      simp only [byteAt_zero, hn, setC_get p c.toNat_lt]
      have := c.toNat_lt
      refine ⟨by omega, by omega, ⟨_, rfl⟩, fun b hb => ?_⟩
      cases hb
      have h1 := hx.1
      rw [tl_cons] at h1
      refine ⟨fun hp => ⟨(), trivial, ⟨⟨hc _, trivial⟩, trivial⟩, ?_, trivial⟩, fun hp => ⟨by simp only [List.length_cons]; omega, t, ⟨?_, ?_⟩, by simp, ⟨⟨hc _, trivial⟩, trivial⟩, rfl, trivial⟩⟩
      · rw [hp] at h1; exact h1
      · rw [hp] at h1; exact h1
      · have := hx.2; simp only [List.length_cons] at this; omega
  · have : x = [] := List.eq_nil_of_length_eq_zero (by omega)
    subst this
    exact hx.1
theorem tr_vc (p : Nat → Bool) (s : List UInt8) (hs : s.length ≤ 9223372036854775806) : vTr p s := by
  rw [vTr_eq]
  simp only [ic, cond_F]
  simp only [cond_P, leI_t, leI_f, ltI_t, ltI_f, and_t, dec_t, not_t, not_f, Nat.zero_add, Nat.mul_one]
  have hc : ∀ ρ, cellsP ρ (setC p) (setC p) := fun ρ => cellsP_flat (setC_flat p) rfl
  refine ⟨⟨s, ⟨rfl, Nat.le_refl _⟩, ⟨⟨hc _, trivial⟩, trivial⟩, rfl, trivial⟩, fun x hx => ⟨fun h0 => ?_, fun h0 => ⟨(), trivial, ⟨⟨hc _, trivial⟩, trivial⟩, ?_, trivial⟩⟩⟩
  · rcases List.eq_nil_or_concat x with rfl | ⟨t, c, rfl⟩
    · simp at h0
    · have hl : ((t.length + 1 : Nat) : Int) - 1 = (t.length : Int) := by omega
      have hn : ((c.toNat : Int)).toNat = c.toNat := by simp
      have hlt : t.length < s.length := by have := hx.2; simp at this; omega
      rw [List.concat_eq_append] at hx h0 ⊢
      simp only [List.length_append, List.length_singleton, hl, Int.toNat_natCast, byteAt_last, setC_get p c.toNat_lt]
      have := c.toNat_lt
      refine ⟨⟨by omega, by omega⟩, ⟨by omega, by omega⟩, by omega, ⟨_, rfl⟩, fun b hb => ?_⟩
      cases hb
      have h1 := hx.1
      rw [tr_snoc] at h1
      refine ⟨fun hp => ⟨(), trivial, ⟨⟨hc _, trivial⟩, trivial⟩, ?_, trivial⟩, fun hp => ⟨⟨by omega, by omega⟩, ⟨by omega, by omega⟩, t, ⟨?_, by omega⟩, by omega, ⟨⟨hc _, trivial⟩, trivial⟩, by simp, trivial⟩⟩
      · rw [hp] at h1; exact h1
      · rw [hp] at h1; exact h1
  · have : x = [] := List.eq_nil_of_length_eq_zero (by omega)
    subst this
    exact hx.1
theorem gMk_ok : EntryOk Tryd.prog 46 (flatE gMk) := by
  refine flatE_ok fun args b v hg hb => ?_
  unfold gMk at hg
  split at hg
  · rename_i t
    split at hg
    · rename_i he
      obtain rfl := bytesEq_ok he
      cases hg
      exact ⟨rfl, by kernel_rfl, SC.one (V := VT) names0 mixed0 noS_ok noO_ok mkD_vc⟩
    · cases hg
  · cases hg
theorem eEnd_ok {f : FuncId} {F : (Nat → Bool) → List UInt8 → List UInt8} (h : ∀ p s, s.length ≤ maxS → SC Tryd.prog f [.str s, .ptr 0 0] [.cells (setC p) 0 false] (fun v H => v = .str (F p s) ∧ H = [.cells (setC p) 0 false])) : EntryOk Tryd.prog f (eEnd F) := by
  intro args H sr hs K hk
  unfold eEnd at hs
  split at hs
  · rename_i s b o
    split at hs
    · rename_i vs hb
      cases hs
      obtain ⟨h1, h2, h3⟩ := cond_need hk
      have h1' := of_decide_eq_true h1
      rw [h2] at hb
      have hp := h (getP vs) s h1'
      refine (SC.read1 hp rfl (cells_ren (setC_flat _) 0 false) (by simp) hb).mono ?_
      rintro v H' ⟨rfl, rfl⟩
      exact ⟨none, h3, rfl⟩
    · cases hs
  · cases hs
theorem one_end {f : FuncId} {args : List AV} {k : ABlk} {v : AV} (h : SC Tryd.prog f args [k] (outE [⟨Unit, fun _ => v, fun _ => [k], fun _ => True, none⟩])) : SC Tryd.prog f args [k] (fun v' H' => v' = v ∧ H' = [k]) :=
  h.mono fun v' H' h => by
    obtain ⟨_, _, h1, h2⟩ := outE_one h
    exact ⟨h1, h2⟩
theorem tlE_ok : EntryOk Tryd.prog 47 (eEnd tl) := eEnd_ok fun p s _ => one_end (SC.ofF (V := VT) names0 mixed0 noS_ok noO_ok (tl_vc p s))
theorem trE_ok : EntryOk Tryd.prog 48 (eEnd tr) := eEnd_ok fun p s hs => one_end (SC.ofF (V := VT) names0 mixed0 noS_ok noO_ok (tr_vc p s (by unfold maxS at hs; omega)))
theorem T1_ok : SpecOk Tryd.prog (tabS T1 noS) := by
  refine tabS_ok (fun p hp => ?_) noS_ok
  simp only [T1, List.mem_cons, List.mem_nil_iff, or_false] at hp
  rcases hp with rfl | rfl | rfl
  · exact gMk_ok
  · exact tlE_ok
  · exact trE_ok
theorem trimP_length (p : Nat → Bool) (s : List UInt8) : (trimP p s).length ≤ s.length := Nat.le_trans (tl_length _ _) (tr_length _ _)
theorem trimD_vc (s : List UInt8) (hs : s.length ≤ maxS) : vTrimD s := by
  rw [vTrimD_eq]
  simp only [cond_F]
  simp only [cond_P, leI_t, leI_f, ltI_t, ltI_f, eqI_t, eqI_f, and_t, not_t, not_f, dec_t, dec_f, Nat.zero_add, Nat.mul_one, List.drop_zero]
  have hl := tr_length (memB digs) s
  have hp : ∀ n, n < 256 → getP (setC (memB digs)) n = memB digs n := fun n hn => getP_setC _ hn
  refine ⟨fun h => ⟨(), trivial, trivial, ?_, trivial⟩, fun _ => ⟨hs, by kernel_rfl, ?_, by kernel_rfl, (), trivial, trivial, ?_, trivial⟩⟩
  · subst h; rfl
  · show (tr (getP (setC (memB digs))) s).length ≤ _
    rw [tr_congr hp]
    exact Nat.le_trans hl hs
  · show tl (getP (setC (memB digs))) (tr (getP (setC (memB digs))) s) = _
    rw [tr_congr hp, tl_congr hp]
    rfl
theorem gTrim_ok : EntryOk Tryd.prog 36 (flatE gTrim) := by
  refine flatE_ok fun args b v hg hb => ?_
  unfold gTrim at hg
  split at hg
  · rename_i s w
    split at hg
    · rename_i he
      obtain rfl := bytesEq_ok he
      cases hg
      exact ⟨rfl, rfl, SC.one (V := V1) names0 mixed0 T1_ok noO_ok (trimD_vc s (of_decide_eq_true hb))⟩
    · cases hg
  · cases hg
theorem tl_nil {p : Nat → Bool} : ∀ {s : List UInt8}, tl p s = [] → ∀ c ∈ s, p c.toNat = true
  | [], _, c, h => by cases h
  | a :: r, h, c, hc => by
    rw [tl_cons] at h
    by_cases ha : p a.toNat = true
    · rw [if_pos ha] at h
      rcases List.mem_cons.1 hc with rfl | hc
      · exact ha
      · exact tl_nil h c hc
    · rw [if_neg ha] at h; cases h
theorem tl_head {p : Nat → Bool} : ∀ {s : List UInt8} {a : UInt8} {r : List UInt8}, tl p s = a :: r → p a.toNat = false
  | [], a, r, h => by simp [tl] at h
  | b :: t, a, r, h => by
    rw [tl_cons] at h
    by_cases hb : p b.toNat = true
    · rw [if_pos hb] at h; exact tl_head h
    · rw [if_neg hb] at h
      cases h
      simpa using hb
theorem trimP_nil {p : Nat → Bool} {s : List UInt8} (h : trimP p s = []) : ∀ c ∈ s, p c.toNat = true := by
  unfold trimP at h
  have h1 := tl_nil h
  unfold tr at h1
  cases hy : tl p s.reverse with
  | nil => intro c hc; exact tl_nil hy c (List.mem_reverse.2 hc)
  | cons a r =>
    have h2 := tl_head hy
    have := h1 a (by rw [hy]; simp)
    rw [h2] at this
    cases this
theorem digs_iff (n : Nat) : memB digs n = true ↔ 48 ≤ n ∧ n ≤ 57 := by
  unfold memB digs
  simp only [List.any_cons, List.any_nil, Bool.or_false, Bool.or_eq_true, beq_iff_eq]
  show (48 = n ∨ 49 = n ∨ 50 = n ∨ 51 = n ∨ 52 = n ∨ 53 = n ∨ 54 = n ∨ 55 = n ∨ 56 = n ∨ 57 = n) ↔ _
  omega
theorem digits_of {s : List UInt8} (h : trimD s = []) : ∀ c ∈ s, 48 ≤ c.toNat ∧ c.toNat ≤ 57 := fun c hc => (digs_iff _).1 (trimP_nil h c hc)
theorem decode_dig {s : List UInt8} (h : ∀ c ∈ s, 48 ≤ c.toNat ∧ c.toNat ≤ 57) {x : Nat} (hx : x < s.length) : ∃ n, Utf8.decode ⟨⟨s⟩⟩ x = (n, 1) ∧ 48 ≤ n ∧ n ≤ 57 := by
  have hc := h _ (List.getElem_mem hx)
  refine ⟨s[x].toNat, ?_, hc⟩
  rw [Lib.decode_N]
  have : (List.getD s x 0) = s[x] := by rw [List.getD_eq_getElem?_getD, List.getElem?_eq_getElem hx]; rfl
  show Lib.decodeN (s.length - x) (s.getD x 0).toNat _ _ _ = _
  rw [this]
  exact Lib.decodeN_ascii _ _ _ _ _ (by omega)
theorem num_bad {s : List UInt8} (h : s = [] ∨ trimD s ≠ []) : 0 = numV s ∧ 4 = numE s := by
  have : numE s = 4 := if_pos h
  unfold numV
  rw [this]
  exact ⟨rfl, rfl⟩
theorem num_ok {s : List UInt8} (h : s ≠ []) (hd : trimD s = []) (hv : natV s ≤ 9007199254740991) : (natV s : Int) = numV s ∧ 0 = numE s := by
  have : numE s = 0 := by unfold numE; rw [if_neg (by simp [h, hd]), if_pos hv]
  unfold numV
  rw [this]
  exact ⟨rfl, rfl⟩
theorem num_long {s : List UInt8} (h : s ≠ []) (hd : trimD s = []) (hv : ¬ natV s ≤ 9007199254740991) : 0 = numV s ∧ 3 = numE s := by
  have : numE s = 3 := by unfold numE; rw [if_neg (by simp [h, hd]), if_neg hv]
  unfold numV
  rw [this]
  exact ⟨rfl, rfl⟩
theorem num_vc (s : List UInt8) (te : Nat) (hs : s.length ≤ 1099511627776) : vNum s te := by
  rw [vNum_eq]
  simp only [ic, cond_F]
  simp only [cond_P, leI_t, leI_f, ltI_t, ltI_f, eqI_t, eqI_f, and_t, not_t, not_f, dec_t, dec_f, Nat.zero_add, Nat.mul_one, List.drop_zero]
  simp only [and_true, true_and, and_false, false_and, or_false, false_or, exists_false, Nat.le_refl, exists_const, false_implies, not_false_eq_true, true_implies]
  refine ⟨fun h => num_bad (.inl h), fun h => ⟨hs, fun hd => num_bad (.inr hd), fun hd => ⟨⟨0, Nat.zero_le _, rfl⟩, fun x hx => ⟨fun hlt => ?_, fun _ => ⟨hs, ⟨h, hd⟩, fun _ => ⟨fun h1 => num_long h hd (by omega), fun h1 => num_ok h hd (by omega)⟩, fun h1 => num_long h hd (by omega)⟩⟩⟩⟩⟩
  obtain ⟨n, h1, h2, h3⟩ := decode_dig (digits_of hd) hlt
  rw [h1]
  refine ⟨fun h4 => absurd h4 (by omega), fun _ => ⟨fun h4 => ?_, fun _ => ⟨x + 1, by omega, by omega, rfl⟩⟩⟩
  rw [beq_iff_eq, ltI_t] at h4
  exact absurd h4 (by omega)
theorem natV_ge : ∀ (s : List UInt8) (a : Nat), a ≤ s.foldl (fun n c => n * 10 + (c.toNat - 48)) a
  | [], a => Nat.le_refl _
  | c :: r, a => Nat.le_trans (by omega) (natV_ge r (a * 10 + (c.toNat - 48)))
theorem parseM : ∀ (s : List UInt8) (a : Nat), (∀ c ∈ s, 48 ≤ c.toNat ∧ c.toNat ≤ 57) → a ≤ 18446744073709551615 →
    Lib.parseUintM (2 ^ 64 - 1) a s = if s.foldl (fun n c => n * 10 + (c.toNat - 48)) a ≤ 18446744073709551615 then .ok (s.foldl (fun n c => n * 10 + (c.toNat - 48)) a) else .range
  | [], a, _, ha => by
    rw [Lib.parseUintM, List.foldl_nil, if_pos ha]
  | c :: r, a, h, ha => by
    have hc := h c (by simp)
    have hg := natV_ge r (a * 10 + (c.toNat - 48))
    rw [Lib.parseUintM, if_pos hc, List.foldl_cons]
    split
    · rw [if_neg (by omega)]
    · split
      · rw [if_neg (by omega)]
      · exact parseM r _ (fun x hx => h x (by simp [hx])) (by omega)
theorem parse_digits {s : List UInt8} (hne : s ≠ []) (h : ∀ c ∈ s, 48 ≤ c.toNat ∧ c.toNat ≤ 57) :
    Lib.parseIntB 64 s = if natV s < 9223372036854775808 then .ok (natV s : Int) else .range := by
  cases s with
  | nil => exact absurd rfl hne
  | cons c r =>
    have hc := h c (by simp)
    have h1 : Lib.parseUintB 64 (c :: r) = if natV (c :: r) ≤ 18446744073709551615 then .ok (natV (c :: r)) else .range := by
      unfold Lib.parseUintB
      rw [if_neg (by simp), parseM _ 0 h (by omega)]
      rfl
    have h43 : ¬ (c.toNat = 43 ∨ c.toNat = 45) := by omega
    have h45 : ¬ c.toNat = 45 := by omega
    unfold Lib.parseIntB
    simp only [if_neg h43, h1]
    by_cases hv : natV (c :: r) < 9223372036854775808
    · rw [if_pos (by omega), if_pos hv]
      simp only [h45, not_false_eq_true, true_and, false_and, if_false]
      rw [if_neg (by omega)]
    · rw [if_neg hv]
      by_cases h2 : natV (c :: r) ≤ 18446744073709551615
      · rw [if_pos h2]
        simp only [h45, not_false_eq_true, true_and]
        rw [if_pos (by omega)]
      · rw [if_neg h2]
theorem below_eq {B : Nat} {w w' : World} (h : w' = w) : Below B w w' := by subst h; exact Below.refl _ _
theorem eParse_ok : EntryOk Tryd.prog 39 eParse := by
  intro args H sr hs K hk
  unfold eParse at hs
  split at hs
  · rename_i s
    split at hs
    · rename_i te hb
      cases hs
      obtain ⟨h1, ⟨h2, h3⟩, h4⟩ := cond_need hk
      have hd := digits_of h3
      have hp := parse_digits h2 hd
      have hsz : s.length ≤ 1099511627776 := of_decide_eq_true h1
      have hlen : (⟨⟨s⟩⟩ : ByteArray).size = s.length := rfl
      by_cases hv : natV s < 9223372036854775808
      · rw [if_pos hv] at hp
        have h5 : ltI (natV s) 9223372036854775808 = true := by rw [ltI_t]; omega
        rw [SR.run, h5, cond_true] at h4
        refine (SC.under (v := .tuple [.int .i64 (natV s), .niliface]) ?_).mono ?_
        · intro w0 φ w us hr ha
          obtain ⟨us⟩ := us
          cases ha with | cons h1 h2 => cases h1; cases h2 with | cons h3 h4 => cases h3; cases h4 with | cons h5 h6 => cases h5; cases h6; (
            refine (Tryd.strconv_ParseInt_10_at64_ok ⟨⟨s⟩⟩ (by rw [hlen]; omega) _ hp w).mono ?_
            rintro e w' ⟨rfl, hw⟩
            refine ⟨_, rfl, .tuple (.cons (.int _ _) (.cons .niliface .nil)), ?_⟩
            rcases hw with hw | ⟨t, hw⟩
            · exact below_eq hw
            · subst hw; exact Go.Joins.below_bytesWorld _ _ _ _ (Nat.le_refl _))
        · rintro v H' ⟨rfl, rfl⟩; exact ⟨none, h4, rfl⟩
      · rw [if_neg hv] at hp
        have h5 : ltI (natV s) 9223372036854775808 = false := by rw [ltI_f]; omega
        rw [SR.run, h5, cond_false] at h4
        refine (SC.under (v := .tuple [.int .i64 9223372036854775807, .iface 88 .bad]) ?_).mono ?_
        · intro w0 φ w us hr ha
          obtain ⟨us⟩ := us
          cases ha with | cons h1 h2 => cases h1; cases h2 with | cons h3 h4 => cases h3; cases h4 with | cons h5 h6 => cases h5; cases h6; (
            obtain ⟨u, hu, hc⟩ := hr.gcell hb (j := 0) rfl
            cases hu with | iface _ hu =>
            refine (Tryd.strconv_ParseInt_10_at64_range ⟨⟨s⟩⟩ (by rw [hlen]; omega) hp _ w hc (.inr ⟨_, _, rfl⟩)).mono ?_
            rintro e w' ⟨N, rfl, _, _, hbl⟩
            refine ⟨_, rfl, .tuple (.cons ?_ (.cons (.iface _ (.bad _)) .nil)), hbl⟩
            have hsat : Lib.intSat 64 s = 9223372036854775807 := by
              unfold Lib.intSat
              rw [if_neg]
              · rfl
              · intro h
                cases s with
                | nil => cases h
                | cons c r =>
                  have := hd c (by simp)
                  simp at h
                  omega
            show VR φ (.int .i64 9223372036854775807) (.int .i64 (Lib.intSat 64 s))
            rw [hsat]
            exact .int _ _)
        · rintro v H' ⟨rfl, rfl⟩; exact ⟨none, h4, rfl⟩
    · cases hs
  · cases hs
theorem TN_ok : SpecOk Tryd.prog (tabS TN noS) := by
  refine tabS_ok (fun p hp => ?_) noS_ok
  simp only [TN, List.mem_cons, List.mem_nil_iff, or_false] at hp
  rcases hp with rfl | rfl
  · exact gTrim_ok
  · exact eParse_ok
noncomputable def eNum : SpecE := fun args H =>
  match args with
  | [.str s] => match H[0]? with
    | some (ABlk.glob 4 [AV.iface _ .bad]) => some (.need (le40 s) (.ok (.tuple [.int .i64 (numV s), .int .i64 (numE s)]) none))
    | _ => none
  | _ => none
theorem eNum_ok : EntryOk Tryd.prog 31 eNum := by
  intro args H sr hs K hk
  unfold eNum at hs
  split at hs
  · rename_i s
    split at hs
    · rename_i te hb
      cases hs
      obtain ⟨h1, h2⟩ := cond_need hk
      have hsc := SC.ofF (V := VN s te) names0 mixed0 TN_ok noO_ok (num_vc s te (of_decide_eq_true h1))
      refine SC.reads1 (b := 0) (H := H) hsc (fun _ => rfl) (by simp [gErr]) hb ?_
      rintro v0 H0' ⟨o, ho, x, hx, rfl, rfl⟩
      simp only [outN, List.mem_cons, List.mem_nil_iff, or_false] at ho
      subst ho
      exact ⟨[], rfl, (fun t ht => by cases ht), none, h2, by simp [chN]⟩
    · cases hs
  · cases hs
end Go.Proofs.YtmjfkcjdmfgkcaaDoor.Dig

/- The law TimerScript: what its walk is told. -/
import Derived.Test.YtainjcpocodehaaRfH
import Derived.Test.YtainjcpocodehaaRfF
set_option linter.unusedSimpArgs false
set_option linter.unusedVariables false
namespace Go.Proofs.Ytainjcpocodehaa
open Go Go.Ve
set_option maxRecDepth 20000
noncomputable def seO (H : AH) (b : Nat) (most n at_ : Int) (eq : Nat) : SR := .br (eqI (setE most [] n at_) 0) (.ok (.int .i64 0) (some (H.set b (oB most H.length 0 1 eq) ++ [.cells (tC [(n, at_)]) eR false]))) (.ok (.int .i64 (setE most [] n at_)) none)
noncomputable def eRSe : SpecE := fun args H =>
  match args with
  | [.ptr b 0, .int .i64 n, .int .i64 at_] =>
    match H[b]? with
    | some (.cells [.int .i64 most, sl] eq false) =>
      match sl with
      | .nilsl => some (seO H b most n at_ eq)
      | .sl rb off k c ex =>
        match ex with
        | false => oqE H b fun most _ off _ eq cs _ => .br (eqI (setE most (sO cs off) n at_) 0)
          (.ok (.int .i64 0) (some (H.set b (oB most H.length 0 (insS n at_ (sO cs off)).length eq) ++ [.cells (tC (insS n at_ (sO cs off))) eR false])))
          (.ok (.int .i64 (setE most (sO cs off) n at_)) none)
        | true =>
          match H[rb]? with
          | some (.cells cs er false) => some (.need (!(Nat.beq b rb)) (.needP (off = 0 ∧ k = 0 ∧ c = 0 ∧ cs = [] ∧ er = 0) (seO H b most n at_ eq)))
          | _ => none
      | .sle rb off adv =>
        match H[rb]? with
        | some (.cells cs er false) => some (.need (!(Nat.beq b rb)) (.needP (cs = tC (getT cs)) (seO H b most n at_ eq)))
        | _ => none
      | _ => none
    | _ => none
  | _ => none
def eNwT : SpecE := fun args H =>
  match args with
  | [.int .i64 most] => some (.needP (0 ≤ most ∧ most ≤ 1048576) (.ok (.tuple [.ptr (H.length + 1) 0, .int .i64 0]) (some (H ++ [.map [] false, .cells [.int .i64 most, .nilsl, .map H.length] 0 false]))))
  | _ => none
def eNwR : SpecE := fun args H =>
  match args with
  | [.int .i64 most] => some (.needP (0 ≤ most ∧ most ≤ 1048576) (.ok (.tuple [.ptr H.length 0, .int .i64 0]) (some (H ++ [.cells [.int .i64 most, .nilsl] 0 false]))))
  | _ => none
def eNwB : SpecE := fun args _ =>
  match args with
  | [.int .i64 most] => some (.needP (¬ (0 ≤ most ∧ most ≤ 1048576)) (.ok (.tuple [.nilptr, .int .i64 2]) none))
  | _ => none
noncomputable def TSk : List (Nat × SpecE) := [(34, flatE gLv), (36, eSet), (42, eCan), (40, eAt), (37, eNx), (39, eDue), (41, flatE gPickN), (44, eSm), (51, eSmQ), (49, eRNx), (50, eRAt), (47, eRCan), (48, eRDu), (46, eRSe), (35, eNwT), (45, eNwR)]
noncomputable def TBk : List (Nat × SpecE) := [(34, flatE gLv), (35, eNwB), (45, eNwB)]
noncomputable def faSk (_ : FuncId) : Option FA := some ⟨[], [], []⟩
noncomputable def VBk : VE := ⟨Try.prog, tabS TBk noS, noO, faSk⟩
noncomputable def VSk : VE := ⟨Try.prog, tabS TSk noS, noO, faSk⟩
def stS (most : Int) (s : TL) (a : Int × Int × Int) : TL :=
  if pickN a.1 5 = 0 ∨ pickN a.1 5 = 1 then (if setE most s a.2.1 a.2.2 = 0 then insS a.2.1 a.2.2 s else s)
  else if pickN a.1 5 = 2 then ers a.2.1 s
  else if pickN a.1 5 = 3 then dueR a.2.2 s
  else s
def Sp (most : Int) (l : AL) : Nat → TL
  | 0 => []
  | i + 1 => stS most (Sp most l i) (ak l i)
def qN (most : Int) : ABlk := .cells [.int .i64 most, .nilsl, .map 1] 0 false
def oN (most : Int) : ABlk := .cells [.int .i64 most, .nilsl] 0 false
def oE0 (most : Int) (rb : Nat) : ABlk := .cells [.int .i64 most, .sl rb 0 0 0 true] 0 false
def oE1 (most : Int) (rb off adv : Nat) : ABlk := .cells [.int .i64 most, .sle rb off adv] 0 false
abbrev X1 := Nat × TL × TL × MP × TL × Nat
abbrev X2 := Nat × TL × MP
abbrev X3 := Nat × TL × MP × Nat × Nat × TL × Nat
def hA (most : Int) : AH := [keepB, .map [] false, qN most, oN most]
noncomputable def h1 (most : Int) (a b : Nat) (x : X1) : AH × ABlk × ABlk := ([keepB, .map (emap x.2.2.2.1) false, qB most a x.2.1.length x.1 1 0, oB most b (x.2.2.2.2.1.length * 2) (srt x.2.1).length 0], .cells (tC (x.2.1 ++ x.2.2.1)) eD false, .cells (tC (x.2.2.2.2.1 ++ srt x.2.1)) x.2.2.2.2.2 false)
noncomputable def h2 (most : Int) (a b : Nat) (x : X2) : AH × ABlk × ABlk := ([keepB, .map (emap x.2.2) false, qB most a 0 x.1 1 0, oE0 most b], .cells (tC x.2.1) eD false, .cells [] 0 false)
noncomputable def h3 (most : Int) (a b : Nat) (x : X3) : AH × ABlk × ABlk := ([keepB, .map (emap x.2.2.1) false, qB most a 0 x.1 1 0, oE1 most b x.2.2.2.1 x.2.2.2.2.1], .cells (tC x.2.1) eD false, .cells (tC x.2.2.2.2.2.1) x.2.2.2.2.2.2 false)
structure P1 (most : Int) (s : TL) (x : X1) : Prop where
  s : srt x.2.1 = s
  q : QI most x.1 x.2.1 x.2.2.1 x.2.2.2.1
  p : 0 < x.2.1.length
structure P2 (most : Int) (s : TL) (x : X2) : Prop where
  s : s = []
  q : QI most x.1 [] x.2.1 x.2.2
structure P3 (most : Int) (s : TL) (x : X3) : Prop where
  s : s = []
  q : QI most x.1 [] x.2.1 x.2.2.1
def isS (l : AL) (i : Nat) : Bool := eqI (pickN (ak l i).1 5) 0 || eqI (pickN (ak l i).1 5) 1
noncomputable def cS (l : AL) (i : Nat) : Nat × List Ann := (7000020, [.mk Unit (fun _ => [(89, .bool (isS l i))]) (fun _ => none) (fun _ => True) (fun _ => 0) gcB gcB (fun _ => []) (fun _ => [])])
def gk : Option (List Nat) := some [999997, 2, 3]
noncomputable def cA (most : Int) (l : AL) (i : Nat) : Anns := [cS l i, (7000025, [
  .mk Unit (fun _ => [(11, .bool true)]) (fun _ => some (hA most ++ [keepB])) (fun _ => Sp most l (i + 1) = []) (fun _ => 0) gk gk (fun _ => []) (fun _ => []),
  .mk X1 (fun _ => [(11, .bool true)]) (fun x => some ((h1 most 5 6 x).1 ++ [keepB, (h1 most 5 6 x).2.1, (h1 most 5 6 x).2.2])) (fun x => P1 most (Sp most l (i + 1)) x) (fun _ => 0) gk gk (fun _ => []) (fun _ => [])])]
noncomputable def cB1 (most : Int) (l : AL) (i : Nat) : Anns := [cS l i, (7000025, [
  .mk X1 (fun _ => [(11, .bool true)]) (fun x => some ((h1 most 4 5 x).1 ++ [(h1 most 4 5 x).2.1, (h1 most 4 5 x).2.2, keepB])) (fun x => P1 most (Sp most l (i + 1)) x) (fun _ => 0) gk gk (fun _ => []) (fun _ => []),
  .mk X2 (fun _ => [(11, .bool true)]) (fun x => some ((h2 most 4 5 x).1 ++ [(h2 most 4 5 x).2.1, (h2 most 4 5 x).2.2, keepB])) (fun x => P2 most (Sp most l (i + 1)) x) (fun _ => 0) gk gk (fun _ => []) (fun _ => []),
  .mk X3 (fun _ => [(11, .bool true)]) (fun x => some ((h3 most 4 5 x).1 ++ [(h3 most 4 5 x).2.1, (h3 most 4 5 x).2.2, keepB])) (fun x => P3 most (Sp most l (i + 1)) x) (fun _ => 0) gk gk (fun _ => []) (fun _ => [])])]
noncomputable def cB2 (most : Int) (l : AL) (i : Nat) : Anns := [cS l i, (7000025, [
  .mk X1 (fun _ => [(11, .bool true)]) (fun x => some ((h1 most 4 5 x).1 ++ [(h1 most 4 5 x).2.1, (h1 most 4 5 x).2.2, keepB])) (fun x => P1 most (Sp most l (i + 1)) x) (fun _ => 0) gk gk (fun _ => []) (fun _ => []),
  .mk X2 (fun _ => [(11, .bool true)]) (fun x => some ((h2 most 4 5 x).1 ++ [(h2 most 4 5 x).2.1, (h2 most 4 5 x).2.2, keepB])) (fun x => P2 most (Sp most l (i + 1)) x) (fun _ => 0) gk gk (fun _ => []) (fun _ => [])])]
noncomputable def cB3 (most : Int) (l : AL) (i : Nat) : Anns := [cS l i, (7000025, [
  .mk X1 (fun _ => [(11, .bool true)]) (fun x => some ((h1 most 4 5 x).1 ++ [(h1 most 4 5 x).2.1, (h1 most 4 5 x).2.2, keepB])) (fun x => P1 most (Sp most l (i + 1)) x) (fun _ => 0) gk gk (fun _ => []) (fun _ => []),
  .mk X3 (fun _ => [(11, .bool true)]) (fun x => some ((h3 most 4 5 x).1 ++ [(h3 most 4 5 x).2.1, (h3 most 4 5 x).2.2, keepB])) (fun x => P3 most (Sp most l (i + 1)) x) (fun _ => 0) gk gk (fun _ => []) (fun _ => [])])]
def hiS (l : AL) (i : Nat) : List (Nat × AV) := [(60, .agg [.int .i64 (ak l i).1, .int .i64 (ak l i).2.1, .int .i64 (ak l i).2.2])]
noncomputable def lA (most : Int) (l : AL) : Ann := .mk Nat (fun i => [(9, .int .i64 i)]) (fun _ => some (hA most)) (fun i => i ≤ l.length ∧ Sp most l i = []) (fun i => l.length - i) gk gk (fun i => hiS l i) (fun i => cA most l i)
noncomputable def lB1 (most : Int) (l : AL) : Ann := .mk (Nat × X1) (fun x => [(9, .int .i64 x.1)]) (fun x => some ((h1 most 4 5 x.2).1 ++ [(h1 most 4 5 x.2).2.1, (h1 most 4 5 x.2).2.2])) (fun x => x.1 ≤ l.length ∧ P1 most (Sp most l x.1) x.2) (fun x => l.length - x.1) gk gk (fun x => hiS l x.1) (fun x => cB1 most l x.1)
noncomputable def lB2 (most : Int) (l : AL) : Ann := .mk (Nat × X2) (fun x => [(9, .int .i64 x.1)]) (fun x => some ((h2 most 4 5 x.2).1 ++ [(h2 most 4 5 x.2).2.1, (h2 most 4 5 x.2).2.2])) (fun x => x.1 ≤ l.length ∧ P2 most (Sp most l x.1) x.2) (fun x => l.length - x.1) gk gk (fun x => hiS l x.1) (fun x => cB2 most l x.1)
noncomputable def lB3 (most : Int) (l : AL) : Ann := .mk (Nat × X3) (fun x => [(9, .int .i64 x.1)]) (fun x => some ((h3 most 4 5 x.2).1 ++ [(h3 most 4 5 x.2).2.1, (h3 most 4 5 x.2).2.2])) (fun x => x.1 ≤ l.length ∧ P3 most (Sp most l x.1) x.2) (fun x => l.length - x.1) gk gk (fun x => hiS l x.1) (fun x => cB3 most l x.1)
def mdS : List (Nat × DMode) := [(20, .permK [1000000] [0, 1, 2, 3, 4, 6, 7, 8, 9, 10] [5, 11, 12, 13]), (22, .permK [1000000] [0, 1, 2, 4, 5, 6] [3, 7, 8, 9]), (24, .permK [1000000] [0, 1, 2, 4, 5, 6] [3, 7, 8, 9])]
end Go.Proofs.Ytainjcpocodehaa

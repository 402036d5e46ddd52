/- What the law of drops is told: entries. -/
import Derived.Test.YtepohfmphgbknaaRdN
set_option linter.unusedSimpArgs false
set_option linter.unusedVariables false
namespace Go.Proofs.Ytepohfmphgbknaa
open Go Go.Ve
set_option maxRecDepth 20000
def fewP (l : FL) : Prop := (∀ f ∈ l, f.2.length ≤ 300) ∧ totL l ≤ 274877906944
def ndB (m : Bs) (st : Int) : Bool := safeB m || (ltI st 200 || ltI 399 st)
noncomputable def eDr : SpecE := fun args H =>
  match args with
  | [.str m, .int .i64 st, .str ho, .str pa, x] =>
    match x with
    | .nilsl => some (.needP (ho.length ≤ 300 ∧ pa.length ≤ 300) (.br (ndB m st) (.ok .nilsl none) (.ok (.sl H.length 0 1 1 true) (some (H ++ [k1D ho pa])))))
    | .slz => some (.needP (ho.length ≤ 300 ∧ pa.length ≤ 300) (.br (ndB m st) (.ok .nilsl none) (.ok (.sl H.length 0 1 1 true) (some (H ++ [k1D ho pa])))))
    | .sl b 0 n _ _ =>
      match H[b]? with
      | some (.cells vs _ _) => some (.needP ((ho.length ≤ 300 ∧ pa.length ≤ 300) ∧ vs = fieldC (getF vs) ∧ n ≤ (getF vs).length ∧ fewP ((getF vs).take n))
          (.br (ndB m st) (.ok .nilsl none) (.all Nat (fun _ => True) fun k => .br (decide (k = 0)) (.ok (.sl H.length 0 1 1 true) (some (H ++ [k1D ho pa])))
            (.br (decide (k = 1)) (.all Bs (fun x => okK ho pa x) fun x => .ok (.sl H.length 0 2 2 false) (some (H ++ [k2D ho pa x])))
              (.all (Bs × Bs) (fun x => okL ho pa x) fun x => .ok (.sl H.length 0 3 3 false) (some (H ++ [k3D ho pa x.1 x.2])))))))
      | _ => none
    | _ => none
  | _ => none
def gPr (args : List AV) : Option (Bool × AV) := match args with | [.str h, .str p] => some (Bool.and (le40 h) (le40 p), .str (kyP h p)) | _ => none
def gLvD (args : List AV) : Option (Bool × AV) := match args with | [] => some (true, .bool true) | _ => none
noncomputable def TLw : List (Nat × SpecE) := [(4, flatE gLvD), (5, eFew), (6, eDr), (7, flatE gPr)]
noncomputable def VLw : VE := ⟨Try.prog, tabS TLw noS, noO, fun _ => some ⟨[], [], []⟩⟩
end Go.Proofs.Ytepohfmphgbknaa

/- What score.Sorted answers, told over the contracts of slices.Collect and slices.SortFunc. -/
import Derived.Test.YtainjcpocodehaaScX
set_option linter.unusedSimpArgs false
set_option linter.unusedVariables false
namespace Go.Proofs.Ytainjcpocodehaa
open Go Go.Ve
set_option maxRecDepth 20000
def eSrF : SpecE := fun args H =>
  match args with
  | [.nilsl, .fn (.func g) [] []] => bif Nat.beq g 14 then some (.ok (.tuple []) none) else none
  | [.sl b 0 n c ex, .fn (.func g) [] []] =>
    match H[b]? with
    | some (.cells cs eh false) => bif Nat.beq g 14 then some (.needP (RF cs n ∧ n = (getF cs).length) (.ok (.tuple []) (some (H.set b (.cells (fC (isF (getF cs) n)) eh false))))) else none
    | _ => none
  | _ => none
def hF (cs : List AV) (k : Nat) : FL := (getF cs).take k
def rF (cs : List AV) (k : Nat) : FL := (getF cs).drop k
noncomputable def eClF : SpecE := fun args H =>
  match args with
  | [.fn (.func g) [] [.ptr bx 0]] =>
    match H[bx]? with
    | some (.cells [.nilsl] eb false) => bif Nat.beq g 72 then some (.ok .nilsl none) else none
    | some (.cells [.sl hb 0 k c ex] eb false) =>
      match H[hb]? with
      | some (.cells cs eh ro) => bif Nat.beq g 72 then some (.need (!(Nat.beq hb bx)) (.needP (RF cs k)
          (.br (hF cs k).isEmpty (.ok .nilsl none) (.ok (.sl H.length 0 k k false) (some (H ++ [.cells (fC (hF cs k)) eF false])))))) else none
      | _ => none
    | _ => none
  | _ => none
noncomputable def TSr : List (Nat × SpecE) := [(70, eClF), (71, eSrF)]
noncomputable def VSr : VE := ⟨Try.prog, tabS TSr noS, noO, fun _ => some ⟨[], [], []⟩⟩

noncomputable def vSr  (l r : FL) (e : Nat) (ro : Bool) (c : Nat) (ex : Bool) : Prop := vcF VSr [] 60 [] [] 19 [.sl 0 0 l.length c ex] (mF l r e ro) [⟨Unit, fun _ => .nilsl, fun _ => mF l r e ro, fun _ => l = [], gcB⟩, ⟨Unit, fun _ => .sl 1 0 l.length l.length false, fun _ => mF l r e ro ++ [.cells (fC (isF l l.length)) eF false], fun _ => l ≠ [], gcB⟩]
theorem vSr_eq  (l r : FL) (e : Nat) (ro : Bool) (c : Nat) (ex : Bool) : vSr l r e ro c ex = (RF (fC (l ++ r)) (List.length l) ∧
  bif
      match hF (fC (l ++ r)) (List.length l) with
      | [] => true
      | head :: tail => false then
    (∃ (_x : Unit), l = [] ∧ ((bif e.beq e && sameB ro ro then cellsP (fun (b : Nat) => [(0 : Nat)].getD b (2 : Nat)) (fC (l ++ r)) (fC (l ++ r)) ∧ True else False) ∧ True) ∧ True ∧ True) ∨ ∃ (_x : Unit), l ≠ [] ∧ ((bif e.beq e && sameB ro ro then cellsP (fun (b : Nat) => [(0 : Nat), (1 : Nat)].getD b (2 : Nat)) (fC (l ++ r)) (fC (l ++ r)) ∧ True else False) ∧ False ∧ True) ∧ False ∧ True
  else (RF (fC (hF (fC (l ++ r)) (List.length l))) (List.length l) ∧ List.length l = List.length (getF (fC (hF (fC (l ++ r)) (List.length l))))) ∧ ((∃ (_x : Unit), l = [] ∧ ((bif e.beq e && sameB ro ro then cellsP (fun (b : Nat) => [(0 : Nat)].getD b (3 : Nat)) (fC (l ++ r)) (fC (l ++ r)) ∧ True else False) ∧ True) ∧ False ∧ True) ∨ ∃ (_x : Unit), l ≠ [] ∧ ((bif e.beq e && sameB ro ro then cellsP (fun (b : Nat) => [(0 : Nat), (2 : Nat)].getD b (3 : Nat)) (fC (l ++ r)) (fC (l ++ r)) ∧ True else False) ∧ (cellsP (fun (b : Nat) => [(0 : Nat), (2 : Nat)].getD b (3 : Nat)) (fC (isF l (List.length l))) (fC (isF (getF (fC (hF (fC (l ++ r)) (List.length l)))) (List.length l))) ∧ True) ∧ True) ∧ ((0 : Nat) = (0 : Nat) ∧ List.length l = List.length l ∧ List.length l = List.length l ∧ false = false) ∧ True)) := by kernel_rfl
theorem hF_l (l r : FL) : hF (fC (l ++ r)) l.length = l := by unfold hF; rw [getF_fC, List.take_left]
theorem sr_vc (l r : FL) (e : Nat) (ro : Bool) (c : Nat) (ex : Bool) (hl : l.length ≤ 1048576) (o : ok64 (l ++ r)) : vSr l r e ro c ex := by
  rw [vSr_eq, hF_l, getF_fC]
  refine ⟨⟨by rw [getF_fC], by rw [getF_fC, List.length_append]; omega, hl, by rw [getF_fC]; exact o⟩, ?_⟩
  cases l with
  | nil => exact .inl ⟨(), rfl, ⟨F_ok _ _ _ _, trivial⟩, trivial, trivial⟩
  | cons a t => exact ⟨⟨⟨by rw [getF_fC], by rw [getF_fC]; exact Nat.le_refl _, hl, by rw [getF_fC]; exact fun v hv => o v (List.mem_append_left _ hv)⟩, rfl⟩, .inr ⟨(), by simp, ⟨F_ok _ _ _ _, ⟨cellsP_flat (fC_flat _) rfl, trivial⟩, trivial⟩, ⟨rfl, rfl, rfl, rfl⟩, trivial⟩⟩

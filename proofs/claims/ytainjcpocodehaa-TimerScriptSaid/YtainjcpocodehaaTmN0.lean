/- Of lists of calls and queues told: its walk. -/
import Derived.Test.YtainjcpocodehaaTmD
set_option linter.unusedSimpArgs false
set_option linter.unusedVariables false
namespace Go.Proofs.Ytainjcpocodehaa
open Go Go.Ve
set_option maxRecDepth 20000
abbrev AL := List (Int × Int × Int)
def actC (l : AL) : List AV := l.flatMap fun a => [.int .i64 a.1, .int .i64 a.2.1, .int .i64 a.2.2]
def ak (l : AL) (i : Nat) : Int × Int × Int := l.getD i (0, 0, 0)
def gLv (args : List AV) : Option (Bool × AV) := match args with | [] => some (true, .bool true) | _ => none
structure Mid18 (h : TL) (again : Int) (c : Nat) (h1 g1 : TL) (m1 : MP) (code : Int) : Prop where
  q : QI 100 c h1 g1 m1
  tm : tmOf (nxN (srt h)) (srt h1) = some (if code = 0 then again else nxT (srt h))
theorem eLv_ok : EntryOk Try.prog 34 (flatE gLv) := by
  refine flatE_ok fun args b v hg hb => ?_
  unfold gLv at hg
  split at hg
  · cases hg
    exact ⟨rfl, rfl, gLiv_sc⟩
  · cases hg
structure HoldsN (p : Prop) : Prop where
  h : p
theorem eD_eq : 2 = eD := by kernel_rfl
theorem sameB_self (b : Bool) : sameB b b = true := by cases b <;> rfl
theorem actC_flat (l : AL) : AV.flats (actC l) = true := by
  induction l with
  | nil => rfl
  | cons a r ih =>
    show AV.flats (.int .i64 a.1 :: .int .i64 a.2.1 :: .int .i64 a.2.2 :: actC r) = true
    simp only [AV.flats, ih, AV.flat, Bool.and_true]
theorem ak_app {l r : AL} {i : Nat} (h : i < l.length) : ak (l ++ r) i = ak l i := by
  unfold ak
  rw [List.getD_eq_getElem?_getD, List.getD_eq_getElem?_getD, List.getElem?_append_left h]
theorem T_ok (σ : Nat → Nat) (l : AL) (e : Nat) (ro : Bool) : (bif e.beq e && sameB ro ro then cellsP σ (actC l) (actC l) ∧ True else False) := by
  rw [Nat.beq_refl, sameB_self]
  exact ⟨cellsP_flat (actC_flat _) rfl, trivial⟩
theorem QP.of {most : Int} {c : Nat} {h g : TL} {m : MP} {hb mb eq : Nat} (q : QI most c h g m) (eh : Nat) (he : eh = eD) : QP ⟨most, hb, h.length, c, mb, eq, tC (h ++ g), eh, emap m⟩ := ⟨QR.mk' rfl, by dsimp only; rw [hOf_tC, gOf_tC, getM_emap]; exact q, he⟩
theorem SC.ofN {V : VE} (hP : V.P.funcs.all (fun fn => !(fn.name == "runtime.NumGoroutine")) = true) (hm : V.P.follows .mixedOrders = true) (hS : SpecOk V.P V.sp) (hO : CallOk V.P V.orc) {md : List (Nat × DMode)} {k : Nat} {A : Anns} {hs : List (Nat × AV)} {f : FuncId} {args : List AV} {H : AH} {L : List Out} (h : HoldsN (vcF V md k A hs f args H L)) : SC V.P f args H (outE L) := SC.ofF hP hm hS hO h.h
end Go.Proofs.Ytainjcpocodehaa

/- The chapter's examples of framing hold. -/
import Derived.Test.YtiobbjbodpkpjaaDoorFr3
import Derived.Test.YtiobbjbodpkpjaaDoorLenP
set_option linter.unusedSimpArgs false
set_option linter.unusedVariables false
namespace Go.Proofs.YtiobbjbodpkpjaaDoor
open Go Go.Ve
set_option maxRecDepth 20000
noncomputable def TLv : List (Nat × SpecE) := [(12, eFl gReq)]
noncomputable def faLv (f : FuncId) : Option FA := match Nat.beq f 11 with | true => some ⟨[], [], []⟩ | false => none
noncomputable def VLv : VE := ⟨Tryd.prog, tabS TLv noS, noO, faLv⟩
def exA : FL := [([99, 111, 110, 116, 101, 110, 116, 45, 108, 101, 110, 103, 116, 104], [53, 44, 32, 53])]
def exB : FL := [(clN, [53]), (teN, chN')]

noncomputable def vLiv  (te : Nat) : Prop := vcF VLv [] 300 [] [(23, .bool true)] 6 [] [gErr te] (outGn (.bool true) te)
theorem vLiv_eq  (te : Nat) : vLiv te = ((fldOk [AV.str [(99 : UInt8), (111 : UInt8), (110 : UInt8), (116 : UInt8), (101 : UInt8), (110 : UInt8), (116 : UInt8), (45 : UInt8), (108 : UInt8), (101 : UInt8), (110 : UInt8), (103 : UInt8), (116 : UInt8), (104 : UInt8)], AV.str [(53 : UInt8), (44 : UInt8), (32 : UInt8), (53 : UInt8)]] (1 : Nat) ∧ true = true) ∧ (fldOk [AV.str [(67 : UInt8), (111 : UInt8), (110 : UInt8), (116 : UInt8), (101 : UInt8), (110 : UInt8), (116 : UInt8), (45 : UInt8), (76 : UInt8), (101 : UInt8), (110 : UInt8), (103 : UInt8), (116 : UInt8), (104 : UInt8)], AV.str [(53 : UInt8)], AV.str [(84 : UInt8), (114 : UInt8), (97 : UInt8), (110 : UInt8), (115 : UInt8), (102 : UInt8), (101 : UInt8), (114 : UInt8), (45 : UInt8), (69 : UInt8), (110 : UInt8), (99 : UInt8), (111 : UInt8), (100 : UInt8), (105 : UInt8), (110 : UInt8), (103 : UInt8)], AV.str [(99 : UInt8), (104 : UInt8), (117 : UInt8), (110 : UInt8), (107 : UInt8), (101 : UInt8), (100 : UInt8)]] (2 : Nat) ∧ true = true) ∧ aeqX Tryd.prog BinOp.eql (33 : Nat) (Operand.tmp (21 : Nat)) (Operand.tmp (22 : Nat)) (AV.agg [AV.int IntKind.i64 (2 : Int), AV.int IntKind.i64 (5 : Int)]) (AV.agg [AV.int IntKind.i64 (2 : Int), AV.int IntKind.i64 (5 : Int)]) = some true ∧ ∃ (_x : Unit), True ∧ (((1 : Nat) = (1 : Nat) ∧ (te = te ∧ True) ∧ True) ∧ True) ∧ true = true ∧ True) := by kernel_rfl
structure Holds0 (p : Prop) : Prop where
  h : p
theorem liv_vc (te : Nat) : Holds0 (vLiv te) := by
  refine ⟨?_⟩
  rw [vLiv_eq]
  exact ⟨⟨⟨rfl, by decide, by decide⟩, rfl⟩, ⟨⟨rfl, by decide, by decide⟩, rfl⟩, by kernel_rfl, (), trivial, ⟨⟨rfl, ⟨rfl, trivial⟩, trivial⟩, trivial⟩, rfl, trivial⟩
theorem TLv_ok : SpecOk Tryd.prog (tabS TLv noS) := by
  refine tabS_ok (fun p hp => ?_) noS_ok
  simp only [TLv, List.mem_cons, List.mem_nil_iff, or_false] at hp
  subst hp
  exact gReq_ok
theorem SC.ofH0 {V : VE} (hP : V.P.funcs.all (fun fn => !(fn.name == "runtime.NumGoroutine")) = true) (hm : V.P.follows .mixedOrders = true) (hS : SpecOk V.P V.sp) (hO : CallOk V.P V.orc) {md : List (Nat × DMode)} {k : Nat} {A : Anns} {hs : List (Nat × AV)} {f : FuncId} {args : List AV} {H : AH} {L : List Out} (h : Holds0 (vcF V md k A hs f args H L)) : SC V.P f args H (outE L) := SC.ofF hP hm hS hO h.h
noncomputable def eLv : SpecE := fun args H =>
  match args with
  | [] => match H[0]? with
    | some (ABlk.glob 1 [AV.iface _ .bad]) => some (.ok (.bool true) none)
    | _ => none
  | _ => none
theorem eLv_ok : EntryOk Tryd.prog 6 eLv := by
  intro args H sr hs K hk
  unfold eLv at hs
  split at hs
  · split at hs
    · rename_i te h0
      cases hs
      have h := outG1 (SC.ofH0 (V := VLv) names0 mixed0 TLv_ok noO_ok (liv_vc te))
      have := SC.reads (K := fun v' H' => v' = .bool true ∧ H' = H) (σ := [0]) h (fun k hk => by simp at hk; subst hk; exact ⟨by simp [gErr], fun _ => rfl⟩) (by simp) rfl (fun i b h => by
        cases i with
        | zero => simp at h; subst h; rw [h0]; rfl
        | succ i => simp at h) (by
        rintro v0 H0' ⟨rfl, rfl⟩
        exact ⟨[], by simp, (fun t ht => by cases ht), rfl, by simp⟩)
      refine SC.mono this ?_
      rintro v H' ⟨rfl, rfl⟩
      exact ⟨none, hk, rfl⟩
    · cases hs
  · cases hs
end Go.Proofs.YtiobbjbodpkpjaaDoor

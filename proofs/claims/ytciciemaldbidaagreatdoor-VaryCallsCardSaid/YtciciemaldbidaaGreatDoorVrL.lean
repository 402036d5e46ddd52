/- The chapter's example of Vary holds. -/
import Derived.Test.YtciciemaldbidaaGreatDoorVrN
set_option linter.unusedSimpArgs false
set_option linter.unusedVariables false
namespace Go.Proofs.YtciciemaldbidaaGreatDoor
open Go Go.Ve
set_option maxRecDepth 20000
noncomputable def eNmL : SpecE := fun args H =>
  match args with
  | [.sl b 0 n _ _] => match H[b]? with
    | some (.cells vs _ _) => some (.needP (fldOk vs n ∧ listF (fldT vs n) varyN = [[66], [97], [98]]) (.ok (.tuple [.sl H.length 0 2 3 false, .bool false]) (some (H ++ [.cells [.str [97], .str [98], .str []] eT false]))))
    | _ => none
  | _ => none
noncomputable def faL12v (f : FuncId) : Option FA := match Nat.beq f 11 with
  | true => some ⟨[(6, .quiet)], [], []⟩
  | false => match Nat.beq f 18 with | true => some ⟨[], [], []⟩ | false => none
noncomputable def VL12v : VE := ⟨Tryz.prog, tabS [(7, eNmL)] noS, noO, faL12v⟩

noncomputable def vL12v  : Prop := vcF VL12v [] 300 [] [] 4 [] [] (Go.Ve.one (.bool true))
theorem vL12v_eq  : vL12v  = ((fldOk [AV.str [(118 : UInt8), (97 : UInt8), (114 : UInt8), (121 : UInt8)], AV.str [(66 : UInt8), (44 : UInt8), (32 : UInt8), (97 : UInt8), (44 : UInt8), (32 : UInt8), (98 : UInt8)]] 1 ∧ listF (fldT [AV.str [(118 : UInt8), (97 : UInt8), (114 : UInt8), (121 : UInt8)], AV.str [(66 : UInt8), (44 : UInt8), (32 : UInt8), (97 : UInt8), (44 : UInt8), (32 : UInt8), (98 : UInt8)]] 1) varyN = [[(66 : UInt8)], [(97 : UInt8)], [(98 : UInt8)]]) ∧ ∃ (_x : Unit), True ∧ True ∧ true = true ∧ True) := by kernel_rfl
structure Holds3 (p : Prop) : Prop where
  h : p
theorem SC.ofH3 {V : VE} (hP : V.P.funcs.all (fun fn => !(fn.name == "runtime.NumGoroutine")) = true) (hm : V.P.follows .mixedOrders = true) (hS : SpecOk V.P V.sp) (hO : CallOk V.P V.orc) {md : List (Nat × DMode)} {k : Nat} {A : Anns} {hs : List (Nat × AV)} {f : FuncId} {args : List AV} {H : AH} {L : List Out} (h : Holds3 (vcF V md k A hs f args H L)) : SC V.P f args H (outE L) := SC.ofF hP hm hS hO h.h
theorem one3 {f : FuncId} {args : List AV} {v : AV} (h : SC Tryz.prog f args [] (outE (Go.Ve.one v))) : SC Tryz.prog f args [] (fun v' H' => v' = v ∧ H' = []) :=
  h.mono fun v' H' h => by
    obtain ⟨_, _, h1, h2⟩ := outE_one h
    exact ⟨h1, h2⟩
theorem nms_ab : nmsL [[66], [97], [98]] = [[97], [98]] := by
  have hs : starN ∉ ([[66], [97], [98]] : LL) := by decide
  refine asc_unique (nms_asc _) (by decide) fun x => ?_
  rw [nms_mem hs]
  have e : lows [[66], [97], [98]] = [[98], [97], [98]] := by decide
  rw [e]
  simp only [List.mem_cons, List.mem_nil_iff, or_false]
  constructor
  · rintro (h | h | h) <;> simp [h]
  · rintro (h | h) <;> simp [h]
theorem eNmL_ok : EntryOk Tryz.prog 7 eNmL := by
  intro args H sr hs K hk
  unfold eNmL at hs
  split at hs
  · rename_i b n c ex
    split at hs
    · rename_i vs e ro hb
      cases hs
      obtain ⟨⟨g1, g2⟩, h2⟩ := hk
      refine eNames_ok _ H _ (by unfold eNames; simp only [hb]; rfl) K ?_
      have hc : nmsC [[66], [97], [98]] = [[97], [98], []] := by unfold nmsC; rw [nms_ab]; rfl
      refine ⟨g1, ?_⟩
      rw [g2]
      show cond (starB [[66], [97], [98]]) _ (cond (decide (([[66], [97], [98]] : LL) = [])) _ _)
      rw [show starB [[66], [97], [98]] = false from by decide, show decide (([[66], [97], [98]] : LL) = []) = false from by decide]
      show K (.tuple [.sl H.length 0 (nmsL [[66], [97], [98]]).length _ false, .bool false]) (some (H ++ [.cells (ts (nmsC [[66], [97], [98]])) eT false]))
      rw [nms_ab, hc]
      exact h2
    · cases hs
  · cases hs
theorem VL12v_ok : SpecOk Tryz.prog (tabS [(7, eNmL)] noS) := by
  refine tabS_ok (fun p hp => ?_) noS_ok
  simp only [List.mem_cons, List.mem_nil_iff, or_false] at hp
  subst hp
  exact eNmL_ok
theorem l12_vc : Holds3 vL12v := by
  refine ⟨?_⟩
  rw [vL12v_eq]
  exact ⟨⟨⟨rfl, by decide, by decide⟩, by kernel_rfl⟩, (), trivial, trivial, rfl, trivial⟩
def gLiv12 (args : List AV) : Option (Bool × AV) := match args with | [] => some (true, .bool true) | _ => none
theorem gLiv12_ok : EntryOk Tryz.prog 4 (flatE gLiv12) := by
  refine flatE_ok fun args b v hg hb => ?_
  unfold gLiv12 at hg
  split at hg
  · cases hg
    exact ⟨rfl, rfl, one3 (SC.ofH3 (V := VL12v) names0 mixed0 VL12v_ok noO_ok l12_vc)⟩
  · cases hg
end Go.Proofs.YtciciemaldbidaaGreatDoor

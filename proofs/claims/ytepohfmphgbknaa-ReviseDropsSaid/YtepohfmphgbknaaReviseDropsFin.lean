/- The law ReviseDrops of layer 17 returns true for any method, status, host, path and fields; nothing that was there is changed. No conditions. -/
import Derived.Test.YtepohfmphgbknaaRows
import Derived.Test.YtepohfmphgbknaaRdU
set_option linter.unusedSimpArgs false
set_option linter.unusedVariables false
namespace Go.Proofs.Ytepohfmphgbknaa.reviseDrops
open Go.Ve Go.ChangeShapes Go.WideShapes Go.ChangeAt Go.RowKit
set_option maxRecDepth 20000
theorem Flat.turn {H : Type} {enc : TypeId × Value → H} {P : Program} {w : World} {t : TypeId} {α β : Type} {f : α → List AV} {G : α → Prop} (h : Flat enc P w t f G) (g : α → β) (f' : β → List AV) (G' : β → Prop) (hf : ∀ x, f x = f' (g x)) (hG : ∀ x, G x → G' (g x)) : Flat enc P w t f' G' := by
  intro fuel cs d ps hd
  obtain ⟨x, h1, h2⟩ := h fuel cs d ps hd
  exact ⟨g x, hG x h1, fun φ => by rw [← hf]; exact h2 φ⟩
set_option maxHeartbeats 4000000 in
set_option maxRecDepth 100000 in
theorem fld_flat {H : Type} {enc : TypeId × Value → H} {w : World} : Flat enc Try.prog w 31 (fun a : Bs × Bs => [.str a.1, .str a.2]) (fun _ => True) :=
  Flat.turn (flat_struct (n := 2) Try.underlying31 (flatFs_cons (n := 1) (flat_str Try.underlying9) (flatFs_cons (n := 1) (flat_str Try.underlying9) (flatFs_nil 2)))) (fun x => (x.1, x.2.1)) (fun a : Bs × Bs => [.str a.1, .str a.2]) (fun _ => True) (fun _ => rfl) (fun _ _ => trivial)

theorem own : ownKnob Try.prog.godebug = none := by kernel_rfl
theorem allNames : Try.prog.funcs.all (fun fn => !(fn.name == "runtime.NumGoroutine")) = true := by kernel_rfl
theorem mixed : Try.prog.follows .mixedOrders = true := by kernel_rfl

set_option maxHeartbeats 4000000 in
set_option maxRecDepth 100000 in
theorem lifted (os : Os) (started : os.Started) (H : Type) (enc : TypeId × Value → H) :
    ReturnsInHanded {} Try.checked os 3 .any (Rows.reviseDropsSpec.pre6 enc Try.prog Try.f3 Rows.reviseDropsRow.domain false) (Rows.reviseDropsSpec.post enc Try.prog Try.f3 false true false false) := by
  refine returnsInHanded_of_change (C := Try.checked) own started (by kernel_rfl) Try.func3
    (ChangeSpec.witness6 (enc := enc) (C := Try.checked) false ⟨#[], #[.string ByteArray.empty, .int .i64 0, .string ByteArray.empty, .string ByteArray.empty, .slice none 0 0], []⟩ 8 (by kernel_rfl) (by kernel_rfl) (by kernel_rfl) (by kernel_rfl)) ?_
  intro W base args ds gs before hval hW hcnd _
  exact contract_of_sc (tb := 4) (by kernel_rfl) (by kernel_rfl) rfl Try.underlying4 rfl
    (fun ds h => match ds, h with | [_, _, _, _, _], _ => ⟨rfl, rfl, rfl⟩) (opensArgs_cons (t := 9) (b := false) (by kernel_rfl) (flat_str Try.underlying9).opens (opensArgs_cons (t := 3) (b := false) (by kernel_rfl) (flat_int Try.underlying3).opens (opensArgs_cons (t := 9) (b := false) (by kernel_rfl) (flat_str Try.underlying9).opens (opensArgs_cons (t := 9) (b := false) (by kernel_rfl) (flat_str Try.underlying9).opens (opensArgs_cons (t := 22) (b := false) (by kernel_rfl) (opens_slice (e := 31) Try.underlying22 (of_decide_eq_true (by kernel_rfl)) fld_flat (fun _ => (by kernel_rfl : 2 = Try.prog.cellsOf 31)) 0) opensArgs_nil))))) (fun x hx => by have h := law_ok x.1 x.2.1 x.2.2.1 x.2.2.2.1 x.2.2.2.2.1 hx.2.2.2.2.1.2; rw [← List.append_nil (x.2.2.2.2.1.blk (fun a => [AV.str a.1, AV.str a.2]) 0)] at h; exact h) hval hW

theorem over : Rows.reviseDropsRow.holds Try.pinned (OpenSpec.ofChange Rows.reviseDropsSpec) :=
  OpenClaim.holds_of_wide 3 Try.f3 rfl rfl rfl rfl rfl rfl rfl ⟨rfl, rfl, rfl, rfl, rfl⟩ rfl rfl rfl rfl rfl (by kernel_rfl) Try.func3 (by kernel_rfl)
    (of_decide_eq_true (by kernel_rfl)) (by unfold Func.isWrapper; first | (rw [if_pos (by decide +kernel)]; kernel_rfl) | (rw [if_neg (by decide +kernel)]; exact ⟨rfl, rfl⟩))
    (fun os started H enc _ => lifted os started H enc)

/-- THE STATEMENT. -/
theorem proved : Rows.ReviseDropsSaid :=
  over
#print axioms proved
end Go.Proofs.Ytepohfmphgbknaa.reviseDrops

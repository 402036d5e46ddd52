/- The law FramingBare over its contracts: all forms of the two slices. -/
import Derived.Test.YtiobbjbodpkpjaaDoorBareN
import Derived.Test.YtiobbjbodpkpjaaDoorBareP
import Derived.Test.YtiobbjbodpkpjaaDoorBareQ
import Derived.Test.YtiobbjbodpkpjaaDoorBareR
import Derived.Test.YtiobbjbodpkpjaaDoorBareS
import Derived.Test.YtiobbjbodpkpjaaDoorBareT
set_option linter.unusedSimpArgs false
set_option linter.unusedVariables false
namespace Go.Proofs.YtiobbjbodpkpjaaDoor
open Go Go.Ve
set_option maxRecDepth 20000
theorem TB_ok (hl : EntryOk Tryd.prog 6 (flatE gLives)) (q : Int × Int × Bool × Int) : SpecOk Tryd.prog (tabS (TB q) noS) := by
  refine tabS_ok (fun p hp => ?_) noS_ok
  simp only [TB, List.mem_cons, List.mem_nil_iff, or_false] at hp
  rcases hp with rfl | rfl | rfl | rfl | rfl | rfl | rfl
  · exact hl
  · exact eLit_ok
  · exact eLitT_ok
  · exact eOwn_ok
  · exact gSameR_ok
  · exact eAs_ok gReq_ok _
  · exact eAs_ok gResp_ok _
theorem TB1_ok (hl : EntryOk Tryd.prog 6 (flatE gLives)) (q : Int × Int × Bool × Int) {o : SpecE} (ho : EntryOk Tryd.prog 9 o) : SpecOk Tryd.prog (tabS (TB1 q o) noS) := by
  refine tabS_ok (fun p hp => ?_) noS_ok
  simp only [TB1, List.mem_cons, List.mem_nil_iff, or_false] at hp
  rcases hp with rfl | rfl | rfl | rfl | rfl | rfl | rfl
  · exact hl
  · exact eLit_ok
  · exact eLitT_ok
  · exact ho
  · exact gSameR_ok
  · exact eAs_ok gReq_ok _
  · exact eAs_ok gResp_ok _
abbrev AnsB (args : List AV) (H : AH) : Prop := SC Tryd.prog 3 args H fun v _ => v = .bool true
theorem ansOfB {args : List AV} {H H' : AH} {g : Option (List Nat)} (h : SC Tryd.prog 3 args H (outE [⟨Unit, fun _ => .bool true, fun _ => H', fun _ => True, g⟩])) : AnsB args H :=
  h.mono fun v' H2 h => by
    obtain ⟨_, _, h1, _⟩ := outE_one h
    exact h1
variable (hl : EntryOk Tryd.prog 6 (flatE gLives)) (te : Nat) (l r : FL) (ns nr : LL) (m : List UInt8) (st minor : Int) (hs : -9223372036854775808 ≤ st ∧ st ≤ 9223372036854775807) (hG : ∀ f, List.Mem f l → f.1.length ≤ 281474976710656 ∧ f.2.length ≤ 281474976710656) (hn : ∀ s, List.Mem s ns → s.length ≤ 281474976710656)
include hl hs
theorem bare_NN : AnsB [.nilsl, .nilsl, .str m, .int .i64 st, .int .i64 minor] [gErr te] :=
  ansOfB (SC.ofFH (V := VB (frL minor [])) names0 mixed0 (TB_ok hl _) noO_ok (baNN_vc te [] [] [] [] m st minor hs))
theorem bare_NZ : AnsB [.nilsl, .slz, .str m, .int .i64 st, .int .i64 minor] [gErr te] :=
  ansOfB (SC.ofFH (V := VB (frL minor [])) names0 mixed0 (TB_ok hl _) noO_ok (baNZ_vc te [] [] [] [] m st minor hs))
theorem bare_ZN : AnsB [.slz, .nilsl, .str m, .int .i64 st, .int .i64 minor] [gErr te] :=
  ansOfB (SC.ofFH (V := VB (frL minor [])) names0 mixed0 (TB_ok hl _) noO_ok (baZN_vc te [] [] [] [] m st minor hs))
theorem bare_ZZ : AnsB [.slz, .slz, .str m, .int .i64 st, .int .i64 minor] [gErr te] :=
  ansOfB (SC.ofFH (V := VB (frL minor [])) names0 mixed0 (TB_ok hl _) noO_ok (baZZ_vc te [] [] [] [] m st minor hs))
include hn
theorem bare_NA : AnsB [.nilsl, .sl 1 0 ns.length (ns.length + nr.length) true, .str m, .int .i64 st, .int .i64 minor] [gErr te, .cells (ts (ns ++ nr)) 0 true] :=
  ansOfB (SC.ofFH (V := VB (frL minor [])) names0 mixed0 (TB_ok hl _) noO_ok (baNA_vc te [] [] ns nr m st minor hs hn))
theorem bare_ZA : AnsB [.slz, .sl 1 0 ns.length (ns.length + nr.length) true, .str m, .int .i64 st, .int .i64 minor] [gErr te, .cells (ts (ns ++ nr)) 0 true] :=
  ansOfB (SC.ofFH (V := VB (frL minor [])) names0 mixed0 (TB_ok hl _) noO_ok (baZA_vc te [] [] ns nr m st minor hs hn))
omit hn
include hG
theorem bare_AN : AnsB [.sl 1 0 l.length (l.length + r.length) true, .nilsl, .str m, .int .i64 st, .int .i64 minor] [gErr te, .cells (fieldC (l ++ r)) 0 true] :=
  ansOfB (SC.ofFH (V := VB (frL minor l)) names0 mixed0 (TB_ok hl _) noO_ok ⟨baAN_vc te l r [] [] m st minor hs hG⟩)
theorem bare_AZ : AnsB [.sl 1 0 l.length (l.length + r.length) true, .slz, .str m, .int .i64 st, .int .i64 minor] [gErr te, .cells (fieldC (l ++ r)) 0 true] :=
  ansOfB (SC.ofFH (V := VB (frL minor l)) names0 mixed0 (TB_ok hl _) noO_ok ⟨baAZ_vc te l r [] [] m st minor hs hG⟩)
include hn
theorem bare_AA : AnsB [.sl 1 0 l.length (l.length + r.length) true, .sl 2 0 ns.length (ns.length + nr.length) true, .str m, .int .i64 st, .int .i64 minor] [gErr te, .cells (fieldC (l ++ r)) 0 true, .cells (ts (ns ++ nr)) 0 true] :=
  if h0 : l = [] then ansOfB (SC.ofFH (V := VB0 (frL minor l)) names0 mixed0 (TB1_ok hl _ eOwn0_ok) noO_ok ⟨baA0_vc te l r ns nr m st minor hs hG hn h0⟩)
  else ansOfB (SC.ofFH (V := VB1 (frL minor l)) names0 mixed0 (TB1_ok hl _ eOwn1_ok) noO_ok ⟨baA1_vc te l r ns nr m st minor hs hG hn h0⟩)
end Go.Proofs.YtiobbjbodpkpjaaDoor

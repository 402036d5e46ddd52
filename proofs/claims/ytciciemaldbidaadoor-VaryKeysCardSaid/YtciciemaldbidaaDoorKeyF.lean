/- The law VaryKeys: its contracts joined. -/
import Derived.Test.YtciciemaldbidaaDoorKeyW
set_option linter.unusedSimpArgs false
set_option linter.unusedVariables false
namespace Go.Proofs.YtciciemaldbidaaDoor
open Go Go.Ve
set_option maxRecDepth 20000
theorem TKe_ok : SpecOk Tryd.prog (tabS TKe noS) := by
  refine tabS_ok (fun p hp => ?_) noS_ok
  simp only [TKe, List.mem_cons, List.mem_nil_iff, or_false] at hp
  rcases hp with rfl | rfl | rfl | rfl | rfl | rfl | rfl
  · exact gLiv12_ok
  · exact eLit20_ok
  · exact eLtT_ok
  · exact eMat_ok
  · exact eKey_ok
  · exact gPickN_ok
  · exact eOs_ok
abbrev AnsK (args : List AV) (H : AH) : Prop := SC Tryd.prog 6 args H fun v _ => v = .bool true
theorem ansKN {args : List AV} {H : AH} (h : Holds2 (vcF VKeN [] 300 [] hKe 6 args H [⟨Unit, fun _ => .bool true, fun _ => H, fun _ => True, gcB⟩])) : AnsK args H :=
  (SC.ofH2 (V := VKeN) names0 mixed0 TKe_ok noO_ok h).mono fun v H h => by obtain ⟨_, _, h1, _⟩ := outE_one h; exact h1
theorem ansKA {args : List AV} {H : AH} (h : Holds2 (vcF VKeA [(11, .perm [0, 1, 2, 4, 5, 6, 7] [3, 8, 9])] 300 [] hKe 6 args H [⟨Unit, fun _ => .bool true, fun _ => H, fun _ => True, gcB⟩])) : AnsK args H :=
  (SC.ofH2 (V := VKeA) names0 mixed0 TKe_ok noO_ok h).mono fun v H h => by obtain ⟨_, _, h1, _⟩ := outE_one h; exact h1
theorem keys_NNN (fT aT : List AV) (out : Int) (hT : utf8T fT aT) : AnsK [.nilsl, .nilsl, .nilsl, .int .i64 out] [gFst fT, gAcc aT, gPow powF, .cells [] 0 true, .cells [] 0 true, .cells [] 0 true] := ansKN (keNNN_vc fT aT out hT)
theorem keys_NAN (fT aT : List AV) (out : Int) (fb rb : FL) (hT : utf8T fT aT) (hB : ∀ f ∈ fb, f.1.length ≤ 281474976710656 ∧ f.2.length ≤ 281474976710656) : AnsK [.nilsl, .sl 4 0 fb.length (fb.length + rb.length) true, .nilsl, .int .i64 out] [gFst fT, gAcc aT, gPow powF, .cells [] 0 true, .cells (fieldC (fb ++ rb)) 0 true, .cells [] 0 true] := ansKN (keNAN_vc fT aT out fb rb hT hB)
theorem keys_ANN (fT aT : List AV) (out : Int) (fa ra : FL) (hT : utf8T fT aT) (hA : ∀ f ∈ fa, f.1.length ≤ 281474976710656 ∧ f.2.length ≤ 281474976710656) : AnsK [.sl 3 0 fa.length (fa.length + ra.length) true, .nilsl, .nilsl, .int .i64 out] [gFst fT, gAcc aT, gPow powF, .cells (fieldC (fa ++ ra)) 0 true, .cells [] 0 true, .cells [] 0 true] := ansKN (keANN_vc fT aT out fa ra hT hA)
theorem keys_AAN (fT aT : List AV) (out : Int) (fa ra : FL) (fb rb : FL) (hT : utf8T fT aT) (hA : ∀ f ∈ fa, f.1.length ≤ 281474976710656 ∧ f.2.length ≤ 281474976710656) (hB : ∀ f ∈ fb, f.1.length ≤ 281474976710656 ∧ f.2.length ≤ 281474976710656) : AnsK [.sl 3 0 fa.length (fa.length + ra.length) true, .sl 4 0 fb.length (fb.length + rb.length) true, .nilsl, .int .i64 out] [gFst fT, gAcc aT, gPow powF, .cells (fieldC (fa ++ ra)) 0 true, .cells (fieldC (fb ++ rb)) 0 true, .cells [] 0 true] := ansKN (keAAN_vc fT aT out fa ra fb rb hT hA hB)
theorem keys_NNA (fT aT : List AV) (out : Int) (l r : LL) (hT : utf8T fT aT) (hl : ∀ s ∈ l, s.length ≤ 281474976710656) : AnsK [.nilsl, .nilsl, .sl 5 0 l.length (l.length + r.length) true, .int .i64 out] [gFst fT, gAcc aT, gPow powF, .cells [] 0 true, .cells [] 0 true, .cells (ts (l ++ r)) 0 true] := ansKA (keNNA_vc fT aT out l r hT hl)
theorem keys_NAA (fT aT : List AV) (out : Int) (fb rb : FL) (l r : LL) (hT : utf8T fT aT) (hB : ∀ f ∈ fb, f.1.length ≤ 281474976710656 ∧ f.2.length ≤ 281474976710656) (hl : ∀ s ∈ l, s.length ≤ 281474976710656) : AnsK [.nilsl, .sl 4 0 fb.length (fb.length + rb.length) true, .sl 5 0 l.length (l.length + r.length) true, .int .i64 out] [gFst fT, gAcc aT, gPow powF, .cells [] 0 true, .cells (fieldC (fb ++ rb)) 0 true, .cells (ts (l ++ r)) 0 true] := ansKA (keNAA_vc fT aT out fb rb l r hT hB hl)
theorem keys_ANA (fT aT : List AV) (out : Int) (fa ra : FL) (l r : LL) (hT : utf8T fT aT) (hA : ∀ f ∈ fa, f.1.length ≤ 281474976710656 ∧ f.2.length ≤ 281474976710656) (hl : ∀ s ∈ l, s.length ≤ 281474976710656) : AnsK [.sl 3 0 fa.length (fa.length + ra.length) true, .nilsl, .sl 5 0 l.length (l.length + r.length) true, .int .i64 out] [gFst fT, gAcc aT, gPow powF, .cells (fieldC (fa ++ ra)) 0 true, .cells [] 0 true, .cells (ts (l ++ r)) 0 true] := ansKA (keANA_vc fT aT out fa ra l r hT hA hl)
theorem keys_AAA (fT aT : List AV) (out : Int) (fa ra : FL) (fb rb : FL) (l r : LL) (hT : utf8T fT aT) (hA : ∀ f ∈ fa, f.1.length ≤ 281474976710656 ∧ f.2.length ≤ 281474976710656) (hB : ∀ f ∈ fb, f.1.length ≤ 281474976710656 ∧ f.2.length ≤ 281474976710656) (hl : ∀ s ∈ l, s.length ≤ 281474976710656) : AnsK [.sl 3 0 fa.length (fa.length + ra.length) true, .sl 4 0 fb.length (fb.length + rb.length) true, .sl 5 0 l.length (l.length + r.length) true, .int .i64 out] [gFst fT, gAcc aT, gPow powF, .cells (fieldC (fa ++ ra)) 0 true, .cells (fieldC (fb ++ rb)) 0 true, .cells (ts (l ++ r)) 0 true] := ansKA (keAAA_vc fT aT out fa ra fb rb l r hT hA hB hl)
end Go.Proofs.YtciciemaldbidaaDoor

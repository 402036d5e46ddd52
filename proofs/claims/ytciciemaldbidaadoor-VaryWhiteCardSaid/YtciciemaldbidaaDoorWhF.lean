/- The law VaryWhite: its contracts joined. -/
import Derived.Test.YtciciemaldbidaaDoorWhS
import Derived.Test.YtciciemaldbidaaDoorVrL
set_option linter.unusedSimpArgs false
set_option linter.unusedVariables false
namespace Go.Proofs.YtciciemaldbidaaDoor
open Go Go.Ve
set_option maxRecDepth 20000
theorem TWh_ok : SpecOk Tryd.prog (tabS TWh noS) := by
  refine tabS_ok (fun p hp => ?_) noS_ok
  simp only [TWh, List.mem_cons, List.mem_nil_iff, or_false] at hp
  rcases hp with rfl | rfl | rfl | rfl | rfl | rfl
  · exact gLiv12_ok
  · exact eLitW_ok
  · exact eTokR_ok
  · exact eTimes_ok
  · exact g1_ok (fun _ => rfl) fun s hs => SC.one (V := V0) names0 mixed0 noS_ok noO_ok (lowR_vc s (by have := of_decide_eq_true hs; omega))
  · exact eVal_ok
abbrev AnsW (args : List AV) (H : AH) : Prop := SC Tryd.prog 5 args H fun v _ => v = .bool true
theorem ansW {args : List AV} {H H' : AH} {g : Option (List Nat)} {A : Anns} {k : Nat} (h : vcF VWi [(15, .quiet)] k A [] 5 args H [⟨Unit, fun _ => .bool true, fun _ => H', fun _ => True, g⟩]) : AnsW args H :=
  (SC.ofF (V := VWi) names0 mixed0 TWh_ok noO_ok h).mono fun v H h => by obtain ⟨_, _, h1, _⟩ := outE_one h; exact h1
theorem white_AA (l r : LL) (w wr nm : List UInt8) (fT aT : List AV) (hG : ∀ s ∈ l, s.length ≤ 281474976710656) (hT : utf8T fT aT) : AnsW [.sl 2 0 l.length (l.length + r.length) true, .sl 3 0 w.length (w.length + wr.length) true, .str nm] [gFst fT, gAcc aT, .cells (ts (l ++ r)) 0 true, .cells (bs (w ++ wr)) 0 true] := ansW (whA_vc l r w wr nm fT aT hG hT)
theorem ansH {args : List AV} {H : AH} {k : Nat} (h : Holds5 (vcF VWi [(15, .quiet)] k [] [] 5 args H [⟨Unit, fun _ => .bool true, fun _ => H, fun _ => True, gcB⟩])) : AnsW args H := ansW h.h
theorem white_NN  (nm : List UInt8) (fT aT : List AV) (hT : utf8T fT aT) : AnsW [.nilsl, .nilsl, .str nm] [gFst fT, gAcc aT] := ansH (k := 300) (wsNN_vc  nm fT aT hT)
theorem white_NZ  (nm : List UInt8) (fT aT : List AV) (hT : utf8T fT aT) : AnsW [.nilsl, .slz, .str nm] [gFst fT, gAcc aT] := ansH (k := 300) (wsNZ_vc  nm fT aT hT)
theorem white_NA (w : List UInt8) (wr : List UInt8) (nm : List UInt8) (fT aT : List AV) (hT : utf8T fT aT) : AnsW [.nilsl, .sl 2 0 w.length (w.length + wr.length) true, .str nm] [gFst fT, gAcc aT, .cells (bs (w ++ wr)) 0 true] := ansH (k := 300) (wsNA_vc w wr nm fT aT hT)
theorem white_ZN  (nm : List UInt8) (fT aT : List AV) (hT : utf8T fT aT) : AnsW [.slz, .nilsl, .str nm] [gFst fT, gAcc aT] := ansH (k := 300) (wsZN_vc  nm fT aT hT)
theorem white_ZZ  (nm : List UInt8) (fT aT : List AV) (hT : utf8T fT aT) : AnsW [.slz, .slz, .str nm] [gFst fT, gAcc aT] := ansH (k := 300) (wsZZ_vc  nm fT aT hT)
theorem white_ZA (w : List UInt8) (wr : List UInt8) (nm : List UInt8) (fT aT : List AV) (hT : utf8T fT aT) : AnsW [.slz, .sl 2 0 w.length (w.length + wr.length) true, .str nm] [gFst fT, gAcc aT, .cells (bs (w ++ wr)) 0 true] := ansH (k := 300) (wsZA_vc w wr nm fT aT hT)
theorem white_EN (r : LL) (nm : List UInt8) (fT aT : List AV) (hT : utf8T fT aT) : AnsW [.sl 2 0 0 r.length true, .nilsl, .str nm] [gFst fT, gAcc aT, .cells (ts r) 0 true] := ansH (k := 300) (wsEN_vc r nm fT aT hT)
theorem white_EZ (r : LL) (nm : List UInt8) (fT aT : List AV) (hT : utf8T fT aT) : AnsW [.sl 2 0 0 r.length true, .slz, .str nm] [gFst fT, gAcc aT, .cells (ts r) 0 true] := ansH (k := 300) (wsEZ_vc r nm fT aT hT)
theorem white_AN (l : LL) (r : LL) (nm : List UInt8) (fT aT : List AV) (hl : 0 < l.length) (hT : utf8T fT aT) : AnsW [.sl 2 0 l.length (l.length + r.length) true, .nilsl, .str nm] [gFst fT, gAcc aT, .cells (ts (l ++ r)) 0 true] := ansH (k := 11) (wsAN_vc l r nm fT aT hl hT)
theorem white_AZ (l : LL) (r : LL) (nm : List UInt8) (fT aT : List AV) (hl : 0 < l.length) (hT : utf8T fT aT) : AnsW [.sl 2 0 l.length (l.length + r.length) true, .slz, .str nm] [gFst fT, gAcc aT, .cells (ts (l ++ r)) 0 true] := ansH (k := 11) (wsAZ_vc l r nm fT aT hl hT)
end Go.Proofs.YtciciemaldbidaaDoor

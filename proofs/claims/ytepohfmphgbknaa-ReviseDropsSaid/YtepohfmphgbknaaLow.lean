/- What the layer of tokens answers: small letters. -/
import Derived.Test.YtepohfmphgbknaaProg
import Derived.Test.YtepohfmphgbknaaSc
set_option linter.unusedSimpArgs false
set_option linter.unusedVariables false
namespace Go.Proofs.Ytepohfmphgbknaa
open Go Go.Ve
set_option maxRecDepth 20000
theorem names0 : Try.prog.funcs.all (fun fn => !(fn.name == "runtime.NumGoroutine")) = true := by kernel_rfl
theorem mixed0 : Try.prog.follows .mixedOrders = true := by kernel_rfl
noncomputable def V0 : VE := ⟨Try.prog, noS, noO, fun _ => none⟩
noncomputable def aLower (s : List UInt8) : Anns := [(3, [.mk Nat (fun i => [(10, .int .i64 i)]) (fun i => some [.cells (bs (lower (s.take i) ++ s.drop i)) (btag Try.prog 5 1) false]) (fun i => i ≤ s.length) (fun i => s.length - i) none none (fun i => [(14, .int .u8 (byteAt s i))]) (fun _ => [])])]

noncomputable def vLower  (s : List UInt8) : Prop := vcF V0 [] 300 (aLower s) [(29, .str (lower s))] 18 [.str s] [] (one (.str (lower s)))
def gqLow0 : Nat → Nat := (fun (b : Nat) => [(0 : Nat)].getD b (1 : Nat))
theorem vLower_eq  (s : List UInt8) : vLower s = ((∃ (x : Nat), x ≤ s.length ∧ ((cellsP gqLow0 (bs (lower (List.take x s) ++ List.drop x s)) (List.map (fun (c : UInt8) => AV.int IntKind.u8 (ic c.toNat)) s) ∧ True) ∧ True) ∧ (0 : Int) = ic x ∧ True) ∧ ∀ (x : Nat), x ≤ s.length → bif ltI (ic x) (ic s.length) then bif ltI (ic x) (ic s.length) then (bs (lower (List.take x s) ++ List.drop x s))[(0 : Nat) + x * (1 : Nat)]? = some (AV.int IntKind.u8 (byteAt s x)) ∧ bif leI (65 : Int) (byteAt s x) then bif leI (byteAt s x) (90 : Int) then bif leI (byteAt s x + (97 : Int)) (255 : Int) then bif leI (0 : Int) (byteAt s x + (97 : Int) - (65 : Int)) && leI (byteAt s x + (97 : Int) - (65 : Int)) (255 : Int) then bif ltI (ic x) (ic s.length) then bif decide ((0 : Nat) + x * (1 : Nat) + (1 : Nat) ≤ (bs (lower (List.take x s) ++ List.drop x s)).length) then bif leI (ic x + (1 : Int)) (9223372036854775807 : Int) then ∃ (y : Nat), y ≤ s.length ∧ s.length - y < s.length - x ∧ ((cellsP gqLow0 (bs (lower (List.take y s) ++ List.drop y s)) (setManyF (bs (lower (List.take x s) ++ List.drop x s)) ((0 : Nat) + x * (1 : Nat)) [AV.int IntKind.u8 (byteAt s x + (97 : Int) - (65 : Int))]) ∧ True) ∧ True) ∧ ic x + (1 : Int) = ic y ∧ True else False else False else False else False else False else bif leI (ic x + (1 : Int)) (9223372036854775807 : Int) then ∃ (y : Nat), y ≤ s.length ∧ s.length - y < s.length - x ∧ ((cellsP gqLow0 (bs (lower (List.take y s) ++ List.drop y s)) (bs (lower (List.take x s) ++ List.drop x s)) ∧ True) ∧ True) ∧ ic x + (1 : Int) = ic y ∧ True else False else bif leI (ic x + (1 : Int)) (9223372036854775807 : Int) then ∃ (y : Nat), y ≤ s.length ∧ s.length - y < s.length - x ∧ ((cellsP gqLow0 (bs (lower (List.take y s) ++ List.drop y s)) (bs (lower (List.take x s) ++ List.drop x s)) ∧ True) ∧ True) ∧ ic x + (1 : Int) = ic y ∧ True else False else False else bif decide ((0 : Nat) + s.length ≤ (bs (lower (List.take x s) ++ List.drop x s)).length) then abytes (List.take s.length (List.drop (0 : Nat) (bs (lower (List.take x s) ++ List.drop x s)))) = some (lower s) ∧ ∃ (_x : Unit), True ∧ True ∧ lower s = lower s ∧ True else False) := by kernel_rfl
theorem lower_vc (s : List UInt8) (hs : s.length ≤ 9223372036854775806) : vLower s := by
  rw [vLower_eq]
  simp only [ic, cond_F]
  simp only [cond_P, leI_t, leI_f, ltI_t, ltI_f, and_t, dec_t, Nat.zero_add, Nat.mul_one, bs_length, setManyF]
  refine ⟨⟨0, Nat.zero_le _, ⟨⟨?_, trivial⟩, trivial⟩, rfl, trivial⟩, fun i hi => ?_⟩
  · exact cellsP_flat (bs_flat _) (by simp [lower, bs])
  have hlen : (lower (s.take i) ++ s.drop i).length = s.length := by simp [lower]; omega
  refine ⟨fun hlt => ?_, fun hge => ?_⟩
  · have hlt' : i < s.length := by omega
    have hb := byteAt_get s i hlt'
    have hk : ∀ y : List AV, y = bs (lower (s.take (i + 1)) ++ s.drop (i + 1)) → (∃ y_1 : Nat, y_1 ≤ s.length ∧ s.length - y_1 < s.length - i ∧ ((cellsP (fun b => [0].getD b 1) (bs (lower (s.take y_1) ++ s.drop y_1)) y ∧ True) ∧ True) ∧ (i : Int) + 1 = (y_1 : Int) ∧ True) := fun y hy =>
      ⟨i + 1, by omega, by omega, ⟨⟨cellsP_flat (bs_flat _) hy, trivial⟩, trivial⟩, by omega, trivial⟩
    refine ⟨by omega, mixed_get s i hlt', fun h65 => ⟨fun h90 => ?_, fun h90 => ?_⟩, fun h65 => ?_⟩
    · have h65' : 65 ≤ s[i].toNat := by omega
      have h90' : s[i].toNat ≤ 90 := by omega
      refine ⟨by omega, ⟨by omega, by omega⟩, by omega, by omega, by omega, hk _ ?_⟩
      have hlow : low1 s[i] = s[i] + 32 := by
        unfold low1
        rw [if_pos]
        exact ⟨by rw [UInt8.le_iff_toNat_le]; exact h65', by rw [UInt8.le_iff_toNat_le]; exact h90'⟩
      have ht : ((s[i] + 32 : UInt8).toNat : Int) = byteAt s i + 97 - 65 := by
        rw [UInt8.toNat_add, hb]
        have : (32 : UInt8).toNat = 32 := rfl
        omega
      rw [← ht]
      exact mixed_set s i hlt' _ hlow
    · refine ⟨by omega, hk _ ?_⟩
      rw [mixed_keep s i hlt' ?_]
      unfold low1
      rw [if_neg]
      rintro ⟨_, h2⟩
      rw [UInt8.le_iff_toNat_le] at h2
      have : (90 : UInt8).toNat = 90 := rfl
      omega
    · refine ⟨by omega, hk _ ?_⟩
      rw [mixed_keep s i hlt' ?_]
      unfold low1
      rw [if_neg]
      rintro ⟨h2, _⟩
      rw [UInt8.le_iff_toNat_le] at h2
      have : (65 : UInt8).toNat = 65 := rfl
      omega
  · have hi2 : i = s.length := by omega
    subst hi2
    refine ⟨by omega, ?_, (), trivial, trivial, trivial, trivial⟩
    rw [List.drop_zero, List.take_length, List.drop_length, List.append_nil, List.take_of_length_le (by simp [bs, lower]), bs_bytes]
theorem lower_sc (s : List UInt8) (hs : s.length ≤ 9223372036854775806) : SC Try.prog 18 [.str s] [] (fun v H => v = .str (lower s) ∧ H = []) :=
  SC.one (V := V0) names0 mixed0 noS_ok noO_ok (lower_vc s hs)
end Go.Proofs.Ytepohfmphgbknaa

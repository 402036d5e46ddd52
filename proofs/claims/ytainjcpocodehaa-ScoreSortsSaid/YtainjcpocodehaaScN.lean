/- Numbers that may be NaN: a call that answers one answers some number that is not itself. -/
import Derived.Test.YtainjcpocodehaaScC
set_option linter.unusedSimpArgs false
set_option linter.unusedVariables false
namespace Go.Proofs.Ytainjcpocodehaa
open Go Go.Ve
set_option maxRecDepth 20000
theorem neq_nan {n : Nat} (h : (FloatKind.f64.format.read n).isNaN = true) : flC .neq n n = true := by
  have e : Ieee.double.order n n = none := by
    unfold Ieee.Format.order
    have h : (Ieee.double.read n).isNaN = true := h
    cases hr : Ieee.double.read n with
    | nan s t => rfl
    | infinity s => rw [hr] at h; cases h
    | number s m e => rw [hr] at h; cases h
  show (Ieee.double.order n n != some .eq) = true
  rw [e]; rfl
theorem SC.nanF {P : Program} {f : FuncId} {args : List AV} {H : AH} {K : AV → AH → Prop} {A : Nat → AH → Prop} {B : AH → Prop} (h : SC P f args H K) (hk : ∀ v H', K v H' → (∃ x, v = .float .f64 x ∧ A x H') ∨ (v = .nan .f64 ∧ B H')) :
    SC P f args H (fun v H' => ∃ x, v = .float .f64 x ∧ (A x H' ∨ (flC .neq x x = true ∧ B H'))) := by
  intro w0 φ w us hr ha
  refine (h w0 φ w us hr ha).mono ?_
  rintro e w' ⟨u, v, H', φ', h1, h2, h3, h4, h5⟩
  rcases hk _ _ h1 with ⟨x, rfl, ha⟩ | ⟨rfl, hb⟩
  · exact ⟨u, .float .f64 x, H', φ', ⟨x, rfl, .inl ha⟩, h2, h3, h4, h5⟩
  · cases h4 with
    | nan hn =>
      rename_i n
      exact ⟨_, .float .f64 n, H', φ', ⟨n, rfl, .inr ⟨neq_nan hn, hb⟩⟩, h2, h3, .float _ _, h5⟩
/-- The number v, or none that is one. -/
def okR (c : Bool) (v x : Nat) : Prop := (c = true ∧ x = v) ∨ (c = false ∧ flC .neq x x = true)
theorem sam_ok {c : Bool} {v x y : Nat} (hx : okR c v x) (hy : okR c v y) : samB x y = true := by
  unfold samB
  rcases hx with ⟨h1, rfl⟩ | ⟨h1, h2⟩
  · rcases hy with ⟨_, rfl⟩ | ⟨h3, _⟩
    · rw [Nat.beq_refl, Bool.or_true]
    · rw [h1] at h3; cases h3
  · rcases hy with ⟨h3, _⟩ | ⟨_, h4⟩
    · rw [h1] at h3; cases h3
    · rw [h2, h4]; rfl
noncomputable def eFad : SpecE := fun args _ => match args with | [.float .f64 a, .float .f64 b, .float .f64 p] => some (.all Nat (fun x => okR (fadB a b p) (fadV a b p) x) fun x => .ok (.float .f64 x) none) | _ => none
noncomputable def eLd : SpecE := fun args _ => match args with | [.int .i64 n, .float .f64 w] => some (.needP (n ≤ 1125899906842624) (.all Nat (fun x => okR (flR .quo (ldM n) w).isSome (flV .quo (ldM n) w) x) fun x => .ok (.float .f64 x) none)) | _ => none
theorem outR {c : Bool} {v : Nat} {v0 : AV} {T : AH} (h : outE [⟨Unit, fun _ => .float .f64 v, fun _ => [], fun _ => c = true, gcB⟩, ⟨Unit, fun _ => .nan .f64, fun _ => [], fun _ => c = false, gcB⟩] v0 T) :
    (∃ x, v0 = .float .f64 x ∧ (c = true ∧ x = v ∧ T = [])) ∨ (v0 = .nan .f64 ∧ (c = false ∧ T = [])) := by
  obtain ⟨o, ho, x, h1, h2, h3⟩ := h
  simp only [List.mem_cons, List.mem_nil_iff, or_false] at ho
  rcases ho with rfl | rfl
  · exact .inl ⟨v, h2, h1, rfl, h3⟩
  · exact .inr ⟨h2, h1, h3⟩
theorem SC.okR {P : Program} {f : FuncId} {args : List AV} {c : Bool} {v : Nat} (h : SC P f args [] (outE [⟨Unit, fun _ => .float .f64 v, fun _ => [], fun _ => c = true, gcB⟩, ⟨Unit, fun _ => .nan .f64, fun _ => [], fun _ => c = false, gcB⟩])) (hf : AV.flats args = true) {H : AH} {K : AV → Option AH → Prop} (hk : ∀ x, okR c v x → K (.float .f64 x) none) :
    SC P f args H (fun v H' => ∃ ch, K v ch ∧ H' = chN H ch) := by
  refine SC.flat (SC.nanF h fun v0 T h => outR h) hf ?_
  rintro v0 T ⟨x, rfl, h⟩
  rcases h with ⟨h1, rfl, rfl⟩ | ⟨h1, h2, rfl⟩
  · exact ⟨(fun k hk => by cases hk), none, hk _ (.inl ⟨h1, rfl⟩), by simp [chN]⟩
  · exact ⟨(fun k hk => by cases hk), none, hk _ (.inr ⟨h2, h1⟩), by simp [chN]⟩
theorem eFad_ok : EntryOk Try.prog 17 eFad := by
  intro args H sr hs K hk
  unfold eFad at hs
  split at hs
  · cases hs
    exact SC.okR (SC.ofF (V := V0) names0 mixed0 noS_ok noO_ok (fad_vc _ _ _)) rfl hk
  · cases hs
theorem eRFad_ok : EntryOk Try.prog 29 eFad := by
  intro args H sr hs K hk
  unfold eFad at hs
  split at hs
  · cases hs
    exact SC.okR (SC.ofF (V := V0) names0 mixed0 noS_ok noO_ok (rfad_vc _ _ _)) rfl hk
  · cases hs
theorem eLd_ok : EntryOk Try.prog 15 eLd := by
  intro args H sr hs K hk
  unfold eLd at hs
  split at hs
  · cases hs
    exact SC.okR (SC.ofF (V := V0) names0 mixed0 noS_ok noO_ok (ld_vc _ _ hk.1)) rfl hk.2
  · cases hs
theorem eRLd_ok : EntryOk Try.prog 30 eLd := by
  intro args H sr hs K hk
  unfold eLd at hs
  split at hs
  · cases hs
    exact SC.okR (SC.ofF (V := V0) names0 mixed0 noS_ok noO_ok (rld_vc _ _ hk.1)) rfl hk.2
  · cases hs
end Go.Proofs.Ytainjcpocodehaa

/- The contracts of layer 23 on lists, told for any memory. -/
import Derived.Test.YtainjcpocodehaaScT
import Derived.Test.YtainjcpocodehaaSe
set_option linter.unusedSimpArgs false
set_option linter.unusedVariables false
namespace Go.Proofs.Ytainjcpocodehaa
open Go Go.Ve
set_option maxRecDepth 20000
/-- A list of numbers as a slice of a row, or nil, or the slice of no row. -/
structure RF (cs : List AV) (n : Nat) : Prop where
  e : cs = fC (getF cs)
  n1 : n ≤ (getF cs).length
  n2 : n ≤ 1048576
  o : ok64 (getF cs)
theorem RF.split {cs : List AV} {n : Nat} (h : RF cs n) : ∃ A R, cs = fC (A ++ R) ∧ n = A.length ∧ A = (getF cs).take n ∧ A.length ≤ 1048576 ∧ ok64 A := by
  refine ⟨(getF cs).take n, (getF cs).drop n, ?_, ?_, rfl, ?_, fun x hx => h.o x (List.mem_of_mem_take hx)⟩
  · rw [List.take_append_drop]; exact h.e
  · rw [List.length_take]; have := h.n1; omega
  · rw [List.length_take]; have := h.n2; omega
/-- A call on one list that reads it. -/
theorem SC.oneF {f : FuncId} {A R : FL} {c : Nat} {ex : Bool} {e : Nat} {ro : Bool} {extra : List AV} {K0 : AV → AH → Prop} (h : SC Try.prog f (.sl 0 0 A.length c ex :: extra) (mF A R e ro) K0) {b : Nat} {H : AH} (hb : H[b]? = some (.cells (fC (A ++ R)) e ro)) (hx : ∀ ρ : Nat → Nat, AV.rens ρ extra = extra) {K : AV → Option AH → Prop}
    (hk : ∀ v0 H0, K0 v0 H0 → H0 = mF A R e ro ∧ (∀ ρ : Nat → Nat, v0.ren ρ = v0) ∧ K v0 none) :
    SC Try.prog f (.sl b 0 A.length c ex :: extra) H (fun v H' => ∃ ch, K v ch ∧ H' = chN H ch) := by
  have h2 := SC.reads1 (b := b) (H := H) (K := fun v H' => ∃ ch, K v ch ∧ H' = chN H ch) h (fun ρ => cells_ren (fC_flat _) _ _ _) (by simp) hb ?_
  · have e1 : AV.rens (rn [b] H.length) (.sl 0 0 A.length c ex :: extra) = .sl b 0 A.length c ex :: extra := by
      show AV.sl (rn [b] H.length 0) 0 A.length c ex :: AV.rens (rn [b] H.length) extra = _
      rw [hx]; rfl
    rw [e1] at h2
    exact h2
  · intro v0 H0' ho
    obtain ⟨rfl, hr, h3⟩ := hk _ _ ho
    refine ⟨[], rfl, (fun t ht => by cases ht), none, ?_, by simp [chN]⟩
    rw [hr]; exact h3
noncomputable def eSu : SpecE := fun args H =>
  match args with
  | [.sl b 0 n c ex] =>
    match H[b]? with
    | some (.cells cs e ro) => some (.needP (RF cs n) (.all Nat (fun x => okR (sumF ((getF cs).take n) n).isSome ((sumF ((getF cs).take n) n).getD 0) x) fun x => .ok (.float .f64 x) none))
    | _ => none
  | _ => none
noncomputable def eBe (g : Bool) : SpecE := fun args H =>
  match args with
  | [.sl b 0 n c ex] =>
    match H[b]? with
    | some (.cells cs e ro) => some (.needP (RF cs n) (.ok (.int .i64 (bestV g ((getF cs).take n))) none))
    | _ => none
  | _ => none
noncomputable def eBs : SpecE := fun args H =>
  match args with
  | [.sl b 0 n c ex, .int .i64 s] =>
    match H[b]? with
    | some (.cells cs e ro) => some (.need (eqI s (-1) || eqI s 1) (.needP (RF cs n) (.ok (.int .i64 (bestV (eqI s 1) ((getF cs).take n))) none)))
    | _ => none
  | _ => none
theorem outSu {l r : FL} {e : Nat} {ro : Bool} {v0 : AV} {T : AH} (h : outE (oSu l r e ro) v0 T) :
    (∃ x, v0 = .float .f64 x ∧ ((sumF l l.length).isSome = true ∧ x = (sumF l l.length).getD 0 ∧ T = mF l r e ro)) ∨ (v0 = .nan .f64 ∧ ((sumF l l.length).isSome = false ∧ T = mF l r e ro)) := by
  obtain ⟨o, ho, x, h1, h2, h3⟩ := h
  simp only [oSu, List.mem_cons, List.mem_nil_iff, or_false] at ho
  rcases ho with rfl | rfl
  · exact .inl ⟨_, h2, h1, rfl, h3⟩
  · exact .inr ⟨h2, h1, h3⟩
theorem eSu_ok : EntryOk Try.prog 12 eSu := by
  intro args H sr hs K hk
  unfold eSu at hs
  split at hs
  · rename_i b n c ex
    split at hs
    · rename_i cs e ro hb
      cases hs
      obtain ⟨rf, hk⟩ := hk
      obtain ⟨A, R, e1, e2, e3, e4, e5⟩ := rf.split
      rw [← e3] at hk
      clear e3 rf
      subst e1; subst e2
      refine SC.oneF (extra := []) (SC.nanF (SC.ofF (V := V0) names0 mixed0 noS_ok noO_ok (su_vc A R e ro c ex e4)) fun v0 T h => outSu h) hb (fun _ => rfl) ?_
      rintro v0 H0 ⟨x, rfl, h⟩
      rcases h with ⟨h1, rfl, rfl⟩ | ⟨h1, h2, rfl⟩
      · exact ⟨rfl, fun _ => rfl, hk _ (.inl ⟨h1, rfl⟩)⟩
      · exact ⟨rfl, fun _ => rfl, hk _ (.inr ⟨h2, h1⟩)⟩
    · cases hs
  · cases hs
theorem eRSu_ok : EntryOk Try.prog 28 eSu := by
  intro args H sr hs K hk
  unfold eSu at hs
  split at hs
  · rename_i b n c ex
    split at hs
    · rename_i cs e ro hb
      cases hs
      obtain ⟨rf, hk⟩ := hk
      obtain ⟨A, R, e1, e2, e3, e4, e5⟩ := rf.split
      rw [← e3] at hk
      clear e3 rf
      subst e1; subst e2
      refine SC.oneF (extra := []) (SC.nanF (SC.ofF (V := V0) names0 mixed0 noS_ok noO_ok (rsu_vc A R e ro c ex e4)) fun v0 T h => outSu h) hb (fun _ => rfl) ?_
      rintro v0 H0 ⟨x, rfl, h⟩
      rcases h with ⟨h1, rfl, rfl⟩ | ⟨h1, h2, rfl⟩
      · exact ⟨rfl, fun _ => rfl, hk _ (.inl ⟨h1, rfl⟩)⟩
      · exact ⟨rfl, fun _ => rfl, hk _ (.inr ⟨h2, h1⟩)⟩
    · cases hs
  · cases hs
theorem TCp_ok : SpecOk Try.prog (tabS TCp noS) := by
  refine tabS_ok (fun p hp => ?_) noS_ok
  simp only [TCp, List.mem_cons, List.mem_nil_iff, or_false] at hp
  rcases hp with rfl | rfl
  · exact gCmpF_ok
  · exact gRCmp_ok
theorem eRLe_ok : EntryOk Try.prog 26 (eBe false) := by
  intro args H sr hs K hk
  unfold eBe at hs
  split at hs
  · rename_i b n c ex
    split at hs
    · rename_i cs e ro hb
      cases hs
      obtain ⟨rf, hk⟩ := hk
      obtain ⟨A, R, e1, e2, e3, e4, e5⟩ := rf.split
      rw [← e3] at hk
      clear e3 rf
      subst e1; subst e2
      refine SC.oneF (extra := []) (SC.ofF (V := VCp) names0 mixed0 TCp_ok noO_ok (rLe_vc A R e ro c ex e4 e5)) hb (fun _ => rfl) ?_
      intro v0 H0 h
      obtain ⟨_, _, rfl, rfl⟩ := outE_one h
      exact ⟨rfl, fun _ => rfl, hk⟩
    · cases hs
  · cases hs
theorem eRGr_ok : EntryOk Try.prog 27 (eBe true) := by
  intro args H sr hs K hk
  unfold eBe at hs
  split at hs
  · rename_i b n c ex
    split at hs
    · rename_i cs e ro hb
      cases hs
      obtain ⟨rf, hk⟩ := hk
      obtain ⟨A, R, e1, e2, e3, e4, e5⟩ := rf.split
      rw [← e3] at hk
      clear e3 rf
      subst e1; subst e2
      refine SC.oneF (extra := []) (SC.ofF (V := VCp) names0 mixed0 TCp_ok noO_ok (rGr_vc A R e ro c ex e4 e5)) hb (fun _ => rfl) ?_
      intro v0 H0 h
      obtain ⟨_, _, rfl, rfl⟩ := outE_one h
      exact ⟨rfl, fun _ => rfl, hk⟩
    · cases hs
  · cases hs
theorem eBs_ok : EntryOk Try.prog 58 eBs := by
  intro args H sr hs K hk
  unfold eBs at hs
  split at hs
  · rename_i b n c ex s
    split at hs
    · rename_i cs e ro hb
      cases hs
      obtain ⟨hn, rf, hk2⟩ := cond_need hk
      clear hk
      obtain ⟨A, R, e1, e2, e3, e4, e5⟩ := rf.split
      rw [← e3] at hk2
      clear e3 rf
      subst e1; subst e2
      rcases Bool.or_eq_true _ _ ▸ hn with hn | hn
      · rw [eqI_t] at hn
        subst hn
        refine SC.oneF (extra := [.int .i64 (-1)]) (SC.ofF (V := VCp) names0 mixed0 TCp_ok noO_ok (beL_vc A R e ro c ex e4 e5)) hb (fun _ => rfl) ?_
        intro v0 H0 h
        obtain ⟨_, _, rfl, rfl⟩ := outE_one h
        exact ⟨rfl, fun _ => rfl, hk2⟩
      · rw [eqI_t] at hn
        subst hn
        refine SC.oneF (extra := [.int .i64 1]) (SC.ofF (V := VCp) names0 mixed0 TCp_ok noO_ok (beG_vc A R e ro c ex e4 e5)) hb (fun _ => rfl) ?_
        intro v0 H0 h
        obtain ⟨_, _, rfl, rfl⟩ := outE_one h
        exact ⟨rfl, fun _ => rfl, hk2⟩
    · cases hs
  · cases hs
end Go.Proofs.Ytainjcpocodehaa

/- Both queues' New told for any memory, and the document's Set where nothing is left: what the walks ask is so. -/
import Derived.Test.YtainjcpocodehaaRfI
import Derived.Test.YtainjcpocodehaaRfO
import Derived.Test.YtainjcpocodehaaRfK
set_option linter.unusedSimpArgs false
set_option linter.unusedVariables false
namespace Go.Proofs.Ytainjcpocodehaa
open Go Go.Ve
set_option maxRecDepth 20000
theorem no_lt {most : Int} (k : ltI most 0 = true) : ¬ (0 ≤ most ∧ most ≤ 1048576) := by rw [ltI_t] at k; omega
theorem no_gt {most : Int} (k : ltI 1048576 most = true) : ¬ (0 ≤ most ∧ most ≤ 1048576) := by rw [ltI_t] at k; omega
theorem yes_in {most : Int} (k1 : ltI most 0 = false) (k2 : ltI 1048576 most = false) : 0 ≤ most ∧ most ≤ 1048576 := by rw [ltI_f] at k1 k2; omega
theorem nwT_vc (most : Int) : vNwT most := by
  rw [vNwT_eq]
  refine cond_intro (fun k => .inr ⟨(), no_lt k, trivial, ⟨trivial, rfl, trivial⟩, trivial⟩) fun k1 => cond_intro (fun k => .inr ⟨(), no_gt k, trivial, ⟨trivial, rfl, trivial⟩, trivial⟩) fun k2 => .inl ⟨(), yes_in k1 k2, ?_⟩
  (repeat' (first | exact trivial | exact rfl | apply And.intro))
theorem nwR_vc (most : Int) : vNwR most := by
  rw [vNwR_eq]
  refine cond_intro (fun k => .inr ⟨(), no_lt k, trivial, ⟨trivial, rfl, trivial⟩, trivial⟩) fun k1 => cond_intro (fun k => .inr ⟨(), no_gt k, trivial, ⟨trivial, rfl, trivial⟩, trivial⟩) fun k2 => .inl ⟨(), yes_in k1 k2, ?_⟩
  (repeat' (first | exact trivial | exact rfl | apply And.intro))
theorem setE_full {most : Int} {n at_ : Int} (h1 : ltI n 0 = false) (h2 : ltI at_ 0 = false) (h3 : ltI 253402300799 at_ = false) (h4 : leI most 0 = true) : setE most [] n at_ = 9 := by
  rw [ltI_f] at h1 h2 h3
  rw [leI_t] at h4
  unfold setE
  rw [if_neg (by omega), if_neg (by simp [tmOf]), if_pos (by show most ≤ 0; exact h4)]
theorem setE_room {most : Int} {n at_ : Int} (h1 : ltI n 0 = false) (h2 : ltI at_ 0 = false) (h3 : ltI 253402300799 at_ = false) (h4 : leI most 0 = false) : setE most [] n at_ = 0 := by
  rw [ltI_f] at h1 h2 h3
  rw [leI_f] at h4
  unfold setE
  rw [if_neg (by omega), if_neg (by simp [tmOf]), if_neg (by show ¬ most ≤ 0; omega)]
theorem seN_vc (n at_ most : Int) (eq : Nat) : vSeN n at_ most eq := by
  rw [vSeN_eq]
  delta gpRfO3 gpRfO4 gpRfO5 gpRfO6 gpRfO7 gpRfO8 gpRfO0 gpRfO1 gpRfO2 gpRfO9
  refine cond_intro (fun k => ?_) fun k1 => cond_intro (fun k => ?_) fun k2 => cond_intro (fun k => ?_) fun k3 => cond_intro (fun k => ?_) fun k4 => ?_
  · have h2 : setE most [] n at_ = 2 := setE_bad (.inl (ltI_t _ _ ▸ k))
    refine .inl ⟨(), by rw [h2]; decide, ?_, h2.symm, trivial⟩
    (repeat' (first | exact trivial | exact rfl | exact oR_ok _ _ _ | exact r2_ok _ rfl | refine oB_ok ?_ | refine oB1_ok ?_ | assumption | apply And.intro))
  · have h2 : setE most [] n at_ = 2 := setE_bad (.inr (.inl (ltI_t _ _ ▸ k)))
    refine .inl ⟨(), by rw [h2]; decide, ?_, h2.symm, trivial⟩
    (repeat' (first | exact trivial | exact rfl | exact oR_ok _ _ _ | exact r2_ok _ rfl | refine oB_ok ?_ | refine oB1_ok ?_ | assumption | apply And.intro))
  · have h2 : setE most [] n at_ = 2 := setE_bad (.inr (.inr (ltI_t _ _ ▸ k)))
    refine .inl ⟨(), by rw [h2]; decide, ?_, h2.symm, trivial⟩
    (repeat' (first | exact trivial | exact rfl | exact oR_ok _ _ _ | exact r2_ok _ rfl | refine oB_ok ?_ | refine oB1_ok ?_ | assumption | apply And.intro))
  · have h2 : setE most [] n at_ = 9 := setE_full k1 k2 k3 k
    refine .inl ⟨(), by rw [h2]; decide, ?_, h2.symm, trivial⟩
    (repeat' (first | exact trivial | exact rfl | exact oR_ok _ _ _ | exact r2_ok _ rfl | refine oB_ok ?_ | refine oB1_ok ?_ | assumption | apply And.intro))
  · have hE : setE most [] n at_ = 0 := setE_room k1 k2 k3 k4
    (repeat' (first | exact trivial | exact rfl | exact oR_ok _ _ _ | exact r2_ok _ rfl | refine oB_ok ?_ | refine oB1_ok ?_ | assumption | exact .inr ⟨(), hE, by (repeat' (first | exact trivial | exact rfl | exact oR_ok _ _ _ | exact r2_ok _ rfl | refine oB_ok ?_ | refine oB1_ok ?_ | assumption | apply And.intro))⟩ | apply And.intro))
theorem seE_vc (n at_ most : Int) (eq : Nat) : vSeE n at_ most eq := by
  rw [vSeE_eq]
  delta gpRfO3 gpRfO4 gpRfO5 gpRfO6 gpRfO7 gpRfO8 gpRfO0 gpRfO1 gpRfO2 gpRfO9
  refine cond_intro (fun k => ?_) fun k1 => cond_intro (fun k => ?_) fun k2 => cond_intro (fun k => ?_) fun k3 => cond_intro (fun k => ?_) fun k4 => ?_
  · have h2 : setE most [] n at_ = 2 := setE_bad (.inl (ltI_t _ _ ▸ k))
    refine .inl ⟨(), by rw [h2]; decide, ?_, h2.symm, trivial⟩
    (repeat' (first | exact trivial | exact rfl | exact oR_ok _ _ _ | exact r2_ok _ rfl | refine oB_ok ?_ | refine oB1_ok ?_ | assumption | apply And.intro))
  · have h2 : setE most [] n at_ = 2 := setE_bad (.inr (.inl (ltI_t _ _ ▸ k)))
    refine .inl ⟨(), by rw [h2]; decide, ?_, h2.symm, trivial⟩
    (repeat' (first | exact trivial | exact rfl | exact oR_ok _ _ _ | exact r2_ok _ rfl | refine oB_ok ?_ | refine oB1_ok ?_ | assumption | apply And.intro))
  · have h2 : setE most [] n at_ = 2 := setE_bad (.inr (.inr (ltI_t _ _ ▸ k)))
    refine .inl ⟨(), by rw [h2]; decide, ?_, h2.symm, trivial⟩
    (repeat' (first | exact trivial | exact rfl | exact oR_ok _ _ _ | exact r2_ok _ rfl | refine oB_ok ?_ | refine oB1_ok ?_ | assumption | apply And.intro))
  · have h2 : setE most [] n at_ = 9 := setE_full k1 k2 k3 k
    refine .inl ⟨(), by rw [h2]; decide, ?_, h2.symm, trivial⟩
    (repeat' (first | exact trivial | exact rfl | exact oR_ok _ _ _ | exact r2_ok _ rfl | refine oB_ok ?_ | refine oB1_ok ?_ | assumption | apply And.intro))
  · have hE : setE most [] n at_ = 0 := setE_room k1 k2 k3 k4
    (repeat' (first | exact trivial | exact rfl | exact oR_ok _ _ _ | exact r2_ok _ rfl | refine oB_ok ?_ | refine oB1_ok ?_ | assumption | exact .inr ⟨(), hE, by (repeat' (first | exact trivial | exact rfl | exact oR_ok _ _ _ | exact r2_ok _ rfl | refine oB_ok ?_ | refine oB1_ok ?_ | assumption | apply And.intro))⟩ | apply And.intro))
theorem seD_vc (n at_ most : Int) (off adv eq er : Nat) (row : TL) : vSeD n at_ most off adv eq er row := by
  rw [vSeD_eq]
  delta gpRfO3 gpRfO4 gpRfO5 gpRfO6 gpRfO7 gpRfO8 gpRfO0 gpRfO1 gpRfO2 gpRfO9
  refine cond_intro (fun k => ?_) fun k1 => cond_intro (fun k => ?_) fun k2 => cond_intro (fun k => ?_) fun k3 => cond_intro (fun k => ?_) fun k4 => ?_
  · have h2 : setE most [] n at_ = 2 := setE_bad (.inl (ltI_t _ _ ▸ k))
    refine .inl ⟨(), by rw [h2]; decide, ?_, h2.symm, trivial⟩
    (repeat' (first | exact trivial | exact rfl | exact oR_ok _ _ _ | exact r2_ok _ rfl | refine oB_ok ?_ | refine oB1_ok ?_ | assumption | apply And.intro))
  · have h2 : setE most [] n at_ = 2 := setE_bad (.inr (.inl (ltI_t _ _ ▸ k)))
    refine .inl ⟨(), by rw [h2]; decide, ?_, h2.symm, trivial⟩
    (repeat' (first | exact trivial | exact rfl | exact oR_ok _ _ _ | exact r2_ok _ rfl | refine oB_ok ?_ | refine oB1_ok ?_ | assumption | apply And.intro))
  · have h2 : setE most [] n at_ = 2 := setE_bad (.inr (.inr (ltI_t _ _ ▸ k)))
    refine .inl ⟨(), by rw [h2]; decide, ?_, h2.symm, trivial⟩
    (repeat' (first | exact trivial | exact rfl | exact oR_ok _ _ _ | exact r2_ok _ rfl | refine oB_ok ?_ | refine oB1_ok ?_ | assumption | apply And.intro))
  · have h2 : setE most [] n at_ = 9 := setE_full k1 k2 k3 k
    refine .inl ⟨(), by rw [h2]; decide, ?_, h2.symm, trivial⟩
    (repeat' (first | exact trivial | exact rfl | exact oR_ok _ _ _ | exact r2_ok _ rfl | refine oB_ok ?_ | refine oB1_ok ?_ | assumption | apply And.intro))
  · have hE : setE most [] n at_ = 0 := setE_room k1 k2 k3 k4
    (repeat' (first | exact trivial | exact rfl | exact oR_ok _ _ _ | exact r2_ok _ rfl | refine oB_ok ?_ | refine oB1_ok ?_ | assumption | exact .inr ⟨(), hE, by (repeat' (first | exact trivial | exact rfl | exact oR_ok _ _ _ | exact r2_ok _ rfl | refine oB_ok ?_ | refine oB1_ok ?_ | assumption | apply And.intro))⟩ | apply And.intro))
theorem up0 (N i : Nat) : upN [] 0 N i = N + i := by unfold upN; rw [if_neg (Nat.not_lt_zero _), Nat.sub_zero]
theorem eNwT_ok : EntryOk Try.prog 35 eNwT := by
  intro args H sr hs K hk
  unfold eNwT at hs
  split at hs
  · rename_i most
    cases hs
    obtain ⟨hm, hk2⟩ := hk
    refine SC.owns (σ := []) (H := H) (args0 := [.int .i64 most]) (SC.ofF (V := VR0) names0 mixed0 noS_ok noO_ok (nwT_vc most)) List.nodup_nil rfl (fun i b s hi => by simp at hi) fun v0 H0' ho => ?_
    obtain ⟨o, ho, x, hx, rfl, rfl⟩ := ho
    simp only [List.mem_cons, List.mem_nil_iff, or_false] at ho
    rcases ho with rfl | rfl
    · refine ⟨[], _, rfl, rfl, fun k hk => ?_, some (H ++ [.map [] false, .cells [.int .i64 most, .nilsl, .map H.length] 0 false]), ?_, ?_⟩
      · simp only [List.nil_append, List.mem_cons, List.mem_nil_iff, or_false] at hk
        rcases hk with rfl | rfl <;> exact .inl rfl
      · have e : AV.ren (upN [] 0 H.length) (.tuple [.ptr 1 0, .int .i64 0]) = .tuple [.ptr (H.length + 1) 0, .int .i64 0] := by
          show AV.tuple [.ptr (upN [] 0 H.length 1) 0, .int .i64 0] = _
          rw [up0]
        show K (AV.ren (upN [] 0 H.length) (.tuple [.ptr 1 0, .int .i64 0])) _
        rw [e]; exact hk2
      · show H ++ [.map [] false, .cells [.int .i64 most, .nilsl, .map (upN [] 0 H.length 0)] 0 false] = _
        rw [up0]; rfl
    · exact absurd hm hx
  · cases hs
theorem eNwR_ok : EntryOk Try.prog 45 eNwR := by
  intro args H sr hs K hk
  unfold eNwR at hs
  split at hs
  · rename_i most
    cases hs
    obtain ⟨hm, hk2⟩ := hk
    refine SC.owns (σ := []) (H := H) (args0 := [.int .i64 most]) (SC.ofF (V := VR0) names0 mixed0 noS_ok noO_ok (nwR_vc most)) List.nodup_nil rfl (fun i b s hi => by simp at hi) fun v0 H0' ho => ?_
    obtain ⟨o, ho, x, hx, rfl, rfl⟩ := ho
    simp only [List.mem_cons, List.mem_nil_iff, or_false] at ho
    rcases ho with rfl | rfl
    · refine ⟨[], _, rfl, rfl, fun k hk => ?_, some (H ++ [.cells [.int .i64 most, .nilsl] 0 false]), ?_, rfl⟩
      · simp only [List.nil_append, List.mem_cons, List.mem_nil_iff, or_false] at hk
        rcases hk with rfl; exact .inl rfl
      · have e : AV.ren (upN [] 0 H.length) (.tuple [.ptr 0 0, .int .i64 0]) = .tuple [.ptr H.length 0, .int .i64 0] := by
          show AV.tuple [.ptr (upN [] 0 H.length 0) 0, .int .i64 0] = _
          rw [up0]; rfl
        show K (AV.ren (upN [] 0 H.length) (.tuple [.ptr 0 0, .int .i64 0])) _
        rw [e]; exact hk2
    · exact absurd hm hx
  · cases hs
theorem eNwTB_ok : EntryOk Try.prog 35 eNwB := by
  intro args H sr hs K hk
  unfold eNwB at hs
  split at hs
  · rename_i most
    cases hs
    obtain ⟨hm, hk2⟩ := hk
    refine SC.owns (σ := []) (H := H) (args0 := [.int .i64 most]) (SC.ofF (V := VR0) names0 mixed0 noS_ok noO_ok (nwT_vc most)) List.nodup_nil rfl (fun i b s hi => by simp at hi) fun v0 H0' ho => ?_
    obtain ⟨o, ho, x, hx, rfl, rfl⟩ := ho
    simp only [List.mem_cons, List.mem_nil_iff, or_false] at ho
    rcases ho with rfl | rfl
    · exact absurd hx hm
    · exact ⟨[], [], rfl, rfl, fun k hk => by simp at hk, none, hk2, List.append_nil _⟩
  · cases hs
theorem eNwRB_ok : EntryOk Try.prog 45 eNwB := by
  intro args H sr hs K hk
  unfold eNwB at hs
  split at hs
  · rename_i most
    cases hs
    obtain ⟨hm, hk2⟩ := hk
    refine SC.owns (σ := []) (H := H) (args0 := [.int .i64 most]) (SC.ofF (V := VR0) names0 mixed0 noS_ok noO_ok (nwR_vc most)) List.nodup_nil rfl (fun i b s hi => by simp at hi) fun v0 H0' ho => ?_
    obtain ⟨o, ho, x, hx, rfl, rfl⟩ := ho
    simp only [List.mem_cons, List.mem_nil_iff, or_false] at ho
    rcases ho with rfl | rfl
    · exact absurd hx hm
    · exact ⟨[], [], rfl, rfl, fun k hk => by simp at hk, none, hk2, List.append_nil _⟩
  · cases hs
end Go.Proofs.Ytainjcpocodehaa

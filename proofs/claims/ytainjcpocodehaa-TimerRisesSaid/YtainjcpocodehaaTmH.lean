/- The law TimerRises: what is said of the calls and of the order, with no program in sight. -/
import Derived.Test.YtainjcpocodehaaTmG
set_option linter.unusedSimpArgs false
set_option linter.unusedVariables false
namespace Go.Proofs.Ytainjcpocodehaa
open Go Go.Ve
theorem ers_len (n : Int) (l : TL) : (ers n l).length ≤ l.length := List.length_filter_le _ _
theorem ins_len (t : Tm) (l : TL) : (ins t l).length = l.length + 1 := (ins_perm t l).length_eq
theorem stp_len (s : TL) (a : Int × Int × Int) : (stp s a).length ≤ s.length + 1 := by
  unfold stp
  split
  · exact Nat.le_succ_of_le (ers_len _ _)
  · split
    · rw [ins_len]; exact Nat.succ_le_succ (ers_len _ _)
    · exact Nat.le_succ _
theorem Sa_len (l : AL) : ∀ i, (Sa l i).length ≤ i
  | 0 => Nat.le_refl _
  | i + 1 => Nat.le_trans (stp_len _ _) (Nat.succ_le_succ (Sa_len l i))
theorem Sa_set {l : AL} {i : Nat} (hk : ¬ pickN (ak l i).1 4 = 3) (h : setE 100 (Sa l i) (ak l i).2.1 (ak l i).2.2 = 0) : Sa l (i + 1) = ins ((ak l i).2.1, (ak l i).2.2) (ers (ak l i).2.1 (Sa l i)) := by
  show stp (Sa l i) (ak l i) = _
  unfold stp
  rw [if_neg hk, if_pos h]
theorem Sa_not {l : AL} {i : Nat} (hk : ¬ pickN (ak l i).1 4 = 3) (h : ¬ setE 100 (Sa l i) (ak l i).2.1 (ak l i).2.2 = 0) : Sa l (i + 1) = Sa l i := by
  show stp (Sa l i) (ak l i) = _
  unfold stp
  rw [if_neg hk, if_neg h]
theorem Sa_can {l : AL} {i : Nat} (hk : pickN (ak l i).1 4 = 3) : Sa l (i + 1) = ers (ak l i).2.1 (Sa l i) := by
  show stp (Sa l i) (ak l i) = _
  unfold stp
  rw [if_pos hk]
theorem ers_no {n : Int} {l : TL} (h : (tmOf n l).isSome = false) : ers n l = l := by
  refine ers_none fun t ht e => ?_
  unfold tmOf at h
  cases hf : l.find? (fun t => decide (t.1 = n)) with
  | none =>
    have := List.find?_eq_none.1 hf t ht
    simp [e] at this
  | some t => rw [hf] at h; cases h
theorem Sa_can0 {l : AL} {i : Nat} (hk : pickN (ak l i).1 4 = 3) (h : (tmOf (ak l i).2.1 (Sa l i)).isSome = false) : Sa l (i + 1) = Sa l i := by
  rw [Sa_can hk, ers_no h]
theorem at_pk {h : TL} {m : MP} (v : Inv h m) {i : Nat} (hi : i < (srt h).length) : atE (pk (srt h) i).1 (srt h) = 0 ∧ atV (pk (srt h) i).1 (srt h) = (pk (srt h) i).2 := by
  have h1 := tmOf_some (srt_dn v.dn) (pk_mem hi)
  unfold atE atV
  rw [h1]
  exact ⟨rfl, rfl⟩
theorem pk_first {h : TL} {m : MP} (v : Inv h m) {i : Nat} (hi : i < (srt h).length) : ltI (pk (srt h) i).2 (-1) = false ∧ eqI (pk (srt h) i).2 (-1) = false := by
  have h1 := (v.tm _ (srt_mem.1 (pk_mem hi))).1
  rw [ltI_f, eqI_f]
  omega
theorem pk_rise {h : TL} {m : MP} (v : Inv h m) {i : Nat} (h1 : 1 ≤ i) (hi : i < (srt h).length) : ltI (pk (srt h) i).2 (pk (srt h) (i - 1)).2 = false ∧ (eqI (pk (srt h) i).2 (pk (srt h) (i - 1)).2 = true → leI (pk (srt h) i).1 (pk (srt h) (i - 1)).1 = false) := by
  have h2 : tle (pk (srt h) (i - 1)) (pk (srt h) i) := by
    rw [pk_get hi, pk_get (show i - 1 < (srt h).length by omega)]
    exact List.pairwise_iff_getElem.1 (srt_srt h) (i - 1) i _ _ (by omega)
  have h3 : (pk (srt h) (i - 1)).1 ≠ (pk (srt h) i).1 := fun e => by
    have := (srt_dn v.dn).inj (show i - 1 < (srt h).length by omega) hi e
    omega
  rw [tle_iff] at h2
  refine ⟨by rw [ltI_f]; omega, fun e => ?_⟩
  rw [eqI_t] at e
  rw [leI_f]
  omega
theorem nC_take {l : TL} {i : Nat} (h : i < l.length) : nC (l.take (i + 1)) = nC (l.take i) ++ [.int .i64 (pk l i).1] := by
  rw [List.take_succ_eq_append_getElem h, pk_get h]
  unfold nC
  rw [List.map_append]
  rfl
theorem nC_takelen {l : TL} {i : Nat} (h : i ≤ l.length) : (nC (l.take i)).length = i := by
  rw [nC_len, List.length_take]; omega
theorem actC_get0 : ∀ (l : AL) (i : Nat), i < l.length → (actC l)[i * 3 + 0]? = some (.int .i64 (ak l i).1)
  | [], i, h => by simp at h
  | t :: r, 0, _ => rfl
  | t :: r, i + 1, h => by
    have := actC_get0 r i (by simpa using h)
    show (.int .i64 t.1 :: .int .i64 t.2.1 :: .int .i64 t.2.2 :: actC r)[(i + 1) * 3 + 0]? = _
    rw [show (i + 1) * 3 + 0 = i * 3 + 0 + 1 + 1 + 1 by omega, List.getElem?_cons_succ, List.getElem?_cons_succ, List.getElem?_cons_succ]
    exact this
theorem act0 (l r : AL) (i : Nat) (h : i < l.length) : (actC (l ++ r))[0 + i * 3 + 0]? = some (.int .i64 (ak l i).1) := by
  rw [Nat.zero_add, actC_get0 _ _ (by rw [List.length_append]; omega), ak_app h]
theorem TRi_ok : SpecOk Try.prog (tabS TRi noS) := by
  refine tabS_ok (fun p hp => ?_) noS_ok
  simp only [TRi, List.mem_cons, List.mem_nil_iff, or_false] at hp
  rcases hp with rfl | rfl | rfl | rfl | rfl | rfl | rfl | rfl | rfl | rfl
  · exact eLv_ok
  · exact eSet_ok
  · exact eCan_ok
  · exact eAt_ok
  · exact eDue_ok
  · exact eLen_ok
  · exact gPickN_ok
  · exact eSm_ok
  · exact eCol_ok
  · exact eSortF_ok
end Go.Proofs.Ytainjcpocodehaa

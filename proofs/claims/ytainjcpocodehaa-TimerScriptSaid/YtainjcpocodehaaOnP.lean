/- The law TimerOnce: what the map says, with no program in sight. -/
import Derived.Test.YtainjcpocodehaaTmN0
import Derived.Test.YtainjcpocodehaaTmE
import Derived.Test.YtainjcpocodehaaTmL
set_option linter.unusedSimpArgs false
set_option linter.unusedVariables false
namespace Go.Proofs.Ytainjcpocodehaa
open Go Go.Ve
set_option maxRecDepth 20000
theorem mget_tm (n : Int) : ∀ m : MP, mget n m = tmOf n m
  | [] => rfl
  | p :: r => by
    unfold tmOf
    rw [mget]
    by_cases h : p.1 = n
    · rw [if_pos h, List.find?_cons_of_pos (by simp [h])]; rfl
    · rw [if_neg h, List.find?_cons_of_neg (by simp [h]), mget_tm n r]; rfl
theorem mdel_ers (n : Int) : ∀ {m : MP}, mnd m → mdel n m = ers n m
  | [], _ => rfl
  | p :: r, h => by
    have h' : p.1 ∉ r.map (·.1) ∧ (r.map (·.1)).Nodup := List.nodup_cons.1 h
    rw [mdel]
    unfold ers
    by_cases hp : p.1 = n
    · rw [if_pos hp, List.filter_cons_of_neg (by simp [hp])]
      refine (List.filter_eq_self.2 fun x hx => ?_).symm
      have : x.1 ≠ n := fun e => h'.1 (by rw [hp, ← e]; exact List.mem_map.2 ⟨x, hx, rfl⟩)
      simp [this]
    · rw [if_neg hp, List.filter_cons_of_pos (by simp [hp]), mdel_ers n h'.2]; rfl
theorem mput_perm (n v : Int) : ∀ {m : MP}, mnd m → (mput n v m).Perm ((n, v) :: ers n m)
  | [], _ => .refl _
  | p :: r, h => by
    have h' : p.1 ∉ r.map (·.1) ∧ (r.map (·.1)).Nodup := List.nodup_cons.1 h
    rw [mput]
    unfold ers
    by_cases hp : p.1 = n
    · rw [if_pos hp, List.filter_cons_of_neg (by simp [hp])]
      refine (List.Perm.of_eq ?_).cons _
      refine (List.filter_eq_self.2 fun x hx => ?_).symm
      have : x.1 ≠ n := fun e => h'.1 (by rw [hp, ← e]; exact List.mem_map.2 ⟨x, hx, rfl⟩)
      simp [this]
    · rw [if_neg hp, List.filter_cons_of_pos (by simp [hp])]
      exact ((mput_perm n v h'.2).cons p).trans (.swap _ _ _)
structure AtR (s : TL) (a : MP) : Prop where
  p : a.Perm s
  d : Dn s
theorem Dn.pm {a b : TL} (h : a.Perm b) (d : Dn b) : Dn a := d.perm h
theorem tmOf_perm {a b : TL} (h : a.Perm b) (d : Dn b) (n : Int) : tmOf n a = tmOf n b := by
  by_cases hx : ∃ t ∈ b, t.1 = n
  · obtain ⟨t, ht, rfl⟩ := hx
    rw [tmOf_some d ht, tmOf_some (Dn.pm h d) (h.mem_iff.2 ht)]
  · rw [tmOf_none fun t ht e => hx ⟨t, ht, e⟩, tmOf_none fun t ht e => hx ⟨t, h.mem_iff.1 ht, e⟩]
theorem AtR.nil : AtR [] [] := ⟨.refl _, List.nodup_nil⟩
theorem AtR.get {s : TL} {a : MP} (h : AtR s a) (n : Int) : mget n a = tmOf n s := by rw [mget_tm, tmOf_perm h.p h.d]
theorem AtR.len {s : TL} {a : MP} (h : AtR s a) : a.length = s.length := h.p.length_eq
theorem AtR.nd {s : TL} {a : MP} (h : AtR s a) : mnd a := Dn.pm h.p h.d
theorem ers_dn (n : Int) {s : TL} (d : Dn s) : Dn (ers n s) := List.Nodup.sublist (List.filter_sublist.map _) d
theorem ers_no2 (n : Int) (s : TL) : ∀ t ∈ ers n s, t.1 ≠ n := fun t ht => by
  have := (List.mem_filter.1 ht).2
  simpa using this
theorem AtR.del {s : TL} {a : MP} (h : AtR s a) (n : Int) : AtR (ers n s) (mdel n a) := by
  rw [mdel_ers n h.nd]
  exact ⟨ers_perm n h.p, ers_dn n h.d⟩
theorem AtR.put {s : TL} {a : MP} (h : AtR s a) (n v : Int) : AtR (ins (n, v) (ers n s)) (mput n v a) := by
  refine ⟨(mput_perm n v h.nd).trans (((ers_perm n h.p).cons _).trans (ins_perm _ _).symm), Dn.pm (ins_perm _ _) ?_⟩
  show (List.map _ _).Nodup
  rw [List.map_cons, List.nodup_cons]
  refine ⟨fun hm => ?_, ers_dn n h.d⟩
  obtain ⟨t, ht, e⟩ := List.mem_map.1 hm
  exact ers_no2 n s t ht e
theorem drop_pk {s : TL} {k : Nat} (h : k < s.length) : s.drop k = pk s k :: s.drop (k + 1) := by rw [List.drop_eq_getElem_cons h, pk_get h]
theorem AtR.step {s : TL} {a : MP} {k : Nat} (h : AtR (s.drop k) a) (hk : k < s.length) : AtR (s.drop (k + 1)) (mdel (pk s k).1 a) := by
  have h2 := h.del (pk s k).1
  rw [drop_pk hk] at h h2
  have hd : (pk s k).1 ∉ (s.drop (k + 1)).map (·.1) ∧ ((s.drop (k + 1)).map (·.1)).Nodup := by
    have := h.d
    unfold Dn at this
    rw [List.map_cons, List.nodup_cons] at this
    exact this
  have e : ers (pk s k).1 (pk s k :: s.drop (k + 1)) = s.drop (k + 1) := by
    unfold ers
    rw [List.filter_cons_of_neg (by simp)]
    refine List.filter_eq_self.2 fun x hx => ?_
    have : x.1 ≠ (pk s k).1 := fun e => hd.1 (by rw [← e]; exact List.mem_map.2 ⟨x, hx, rfl⟩)
    simp [this]
  rw [e] at h2
  exact h2
theorem AtR.here {s : TL} {a : MP} {k : Nat} (h : AtR (s.drop k) a) (hk : k < s.length) : mget (pk s k).1 a = some (pk s k).2 := by
  rw [h.get]
  rw [drop_pk hk] at h ⊢
  exact tmOf_some h.d (List.mem_cons_self ..)
end Go.Proofs.Ytainjcpocodehaa

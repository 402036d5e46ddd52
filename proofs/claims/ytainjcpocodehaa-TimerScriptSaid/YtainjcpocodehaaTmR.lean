/- What Set, Cancel, At, Next and Due do to timers in a heap: plain facts. -/
import Derived.Test.YtainjcpocodehaaTmQ
set_option linter.unusedSimpArgs false
set_option linter.unusedVariables false
namespace Go.Proofs.Ytainjcpocodehaa
open Go Go.Ve
set_option maxRecDepth 20000

def tmOf (n : Int) (l : TL) : Option Int := (l.find? fun t => decide (t.1 = n)).map (·.2)
def setE (most : Int) (l : TL) (n at_ : Int) : Int := if n < 0 ∨ at_ < 0 ∨ 253402300799 < at_ then 2 else if (tmOf n l).isSome = true then 0 else if most ≤ (l.length : Int) then 9 else 0
def setIn (h : TL) (m : MP) (n : Int) (c : Nat) : Bool := (mget n m).isSome || decide (h.length < c)
def atV (n : Int) (l : TL) : Int := (tmOf n l).getD 0
def atE (n : Int) (l : TL) : Int := if (tmOf n l).isSome = true then 0 else 5
def nxN : TL → Int | [] => -1 | t :: _ => t.1
def nxT : TL → Int | [] => 0 | t :: _ => t.2
def nxE : TL → Int | [] => 5 | _ :: _ => 0
def dueL (now : Int) (l : TL) : TL := l.takeWhile fun t => decide (t.2 ≤ now)
def dueR (now : Int) (l : TL) : TL := l.dropWhile fun t => decide (t.2 ≤ now)
def nC (l : TL) : List AV := l.map fun t => .int .i64 t.1
structure RmPre (h : TL) (m : MP) (i : Nat) : Prop where
  inv : Inv h m
  lt : i < h.length
structure SetMid (h : TL) (m : MP) (n : Int) (most : Int) (c : Nat) (h1 g1 : TL) (m1 : MP) : Prop where
  inv : Inv h1 m1
  fresh : ∀ t ∈ h1, t.1 ≠ n
  len : h1.length + g1.length = c
  srt : srt h1 = ers n (srt h)
  most : (h1.length : Int) < most
  in_ : setIn h m n c = true ↔ h1.length < c
structure SetPost (h : TL) (n at_ : Int) (h' : TL) (m' : MP) : Prop where
  inv : Inv h' m'
  srt : srt h' = ins (n, at_) (ers n (srt h))
structure CanPost (h : TL) (n : Int) (h' : TL) (m' : MP) : Prop where
  inv : Inv h' m'
  srt : srt h' = ers n (srt h)
structure DuePost (h : TL) (now : Int) (h' : TL) (m' : MP) : Prop where
  inv : Inv h' m'
  srt : srt h' = dueR now (srt h)
structure DueI (h : TL) (c : Nat) (now : Int) (h1 g1 : TL) (m1 : MP) (out : TL) : Prop where
  inv : Inv h1 m1
  len : h1.length + g1.length = c
  srt : srt h = out ++ srt h1
  due : ∀ t ∈ out, t.2 ≤ now
  ne : out ≠ []

theorem tmOf_some : ∀ {l : TL} {t : Tm}, Dn l → t ∈ l → tmOf t.1 l = some t.2
  | [], t, _, h => by cases h
  | x :: r, t, hd, h => by
    have hd' : x.1 ∉ r.map (·.1) ∧ Dn r := by
      unfold Dn at hd ⊢
      simpa only [List.map_cons, List.nodup_cons] using hd
    unfold tmOf
    by_cases he : x.1 = t.1
    · rw [List.find?_cons_of_pos (by simp [he])]
      rcases List.mem_cons.1 h with rfl | h
      · rfl
      · exact absurd (List.mem_map.2 ⟨t, h, he.symm⟩) hd'.1
    · rw [List.find?_cons_of_neg (by simp [he])]
      rcases List.mem_cons.1 h with rfl | h
      · exact absurd rfl he
      · exact tmOf_some hd'.2 h
theorem tmOf_none {l : TL} {n : Int} (h : ∀ t ∈ l, t.1 ≠ n) : tmOf n l = none := by
  unfold tmOf
  rw [List.find?_eq_none.2 (fun t ht => by simp [h t ht])]; rfl
theorem srt_dn {h : TL} (hd : Dn h) : Dn (srt h) := hd.perm (srt_perm h)
theorem tm_at {h : TL} {m : MP} {n i : Int} (v : Inv h m) (e : mget n m = some i) : 0 ≤ i ∧ i.toNat < h.length ∧ (pk h i.toNat).1 = n ∧ tmOf n (srt h) = some (pk h i.toNat).2 := by
  obtain ⟨j, rfl, hj, hn⟩ := (v.pl.at_ _ _).1 e
  refine ⟨by omega, hj, hn, ?_⟩
  have := tmOf_some (srt_dn v.dn) ((srt_perm h).mem_iff.2 (pk_mem hj))
  rw [hn] at this
  exact this
theorem tm_no {h : TL} {m : MP} {n : Int} (v : Inv h m) (e : mget n m = none) : (∀ t ∈ h, t.1 ≠ n) ∧ tmOf n (srt h) = none := by
  have k : ∀ t ∈ h, t.1 ≠ n := fun t ht hn => by
    obtain ⟨j, hj, rfl⟩ := mem_pk ht
    have := (v.pl.at_ n j).2 ⟨j, rfl, hj, hn⟩
    rw [e] at this; cases this
  exact ⟨k, tmOf_none fun t ht => k t ((srt_perm h).mem_iff.1 ht)⟩
theorem srt_len (h : TL) : (srt h).length = h.length := (srt_perm h).length_eq
theorem rm_fresh {h : TL} {m : MP} {i : Nat} (v : Inv h m) (hi : i < h.length) : ∀ t ∈ h.eraseIdx i, t.1 ≠ (pk h i).1 := by
  intro t ht
  rw [← ers_idx v.dn hi] at ht
  have := (List.mem_filter.1 ht).2
  simpa using this
theorem rm_len {h : TL} {i : Nat} {h' : TL} {m' : MP} (hi : i < h.length) (r : RmPost h i h' m') : h'.length = h.length - 1 := by
  rw [r.perm.length_eq, List.length_eraseIdx, if_pos hi]
theorem mid_rm {h g : TL} {m : MP} {n most : Int} {c : Nat} (v : Inv h m) {i : Int} (e : mget n m = some i) (hc : h.length + g.length = c) (hm : (h.length : Int) ≤ most) {h' : TL} {m' : MP} (r : RmPost h i.toNat h' m') :
    SetMid h m n most c h' (pk h (h.length - 1) :: g) m' := by
  obtain ⟨h0, h1, h2, h3⟩ := tm_at v e
  have hl := rm_len h1 r
  refine ⟨r.inv, fun t ht => ?_, by rw [hl, List.length_cons]; omega, ?_, by omega, ?_⟩
  · have := rm_fresh v h1 t (r.perm.mem_iff.1 ht)
    rwa [h2] at this
  · have := srt_ers v.dn h1 r.perm
    rwa [h2] at this
  · unfold setIn
    rw [e]
    simp only [Option.isSome_some, Bool.true_or, true_iff]
    omega
theorem mid_keep {h g : TL} {m : MP} {n most : Int} {c : Nat} (v : Inv h m) (e : mget n m = none) (hc : h.length + g.length = c) (hm : (h.length : Int) < most) : SetMid h m n most c h g m := by
  obtain ⟨h1, _⟩ := tm_no v e
  refine ⟨v, h1, hc, (ers_none fun t ht => h1 t ((srt_perm h).mem_iff.1 ht)).symm, hm, ?_⟩
  unfold setIn
  rw [e]
  simp
theorem mid_up {h h1 g1 : TL} {m m1 : MP} {n at_ most : Int} {c : Nat} (s : SetMid h m n most c h1 g1 m1) (hm : most ≤ 1048576) : UpPre (h1 ++ [(n, at_)]) m1 h1.length := by
  have hl : (h1 ++ [(n, at_)]).length = h1.length + 1 := by simp
  have p : ∀ j, j < h1.length → pk (h1 ++ [(n, at_)]) j = pk h1 j := fun j hj => pk_app hj
  have pl : pk (h1 ++ [(n, at_)]) h1.length = (n, at_) := by
    unfold pk
    rw [List.getD_eq_getElem?_getD, List.getElem?_append_right (Nat.le_refl _), Nat.sub_self]; rfl
  refine ⟨by rw [hl]; omega, by rw [hl]; have := s.most; omega, ⟨fun j h0 hj h2 h3 => ?_, fun q h0 hq h2 h3 => ?_⟩, ?_, ?_⟩
  · rw [hl] at hj
    rw [p _ (by omega), p _ (by omega)]
    exact s.inv.heap j h0 (by omega)
  · rw [hl] at hq
    omega
  · unfold Dn
    rw [List.map_append, List.nodup_append]
    refine ⟨s.inv.dn, by simp, fun a ha b hb => ?_⟩
    obtain ⟨t, ht, rfl⟩ := List.mem_map.1 ha
    simp only [List.map_cons, List.map_nil, List.mem_singleton] at hb
    rw [hb]; exact s.fresh t ht
  · rw [pl]
    refine ⟨s.inv.pl.nd, fun k i hk => ?_⟩
    rw [s.inv.pl.at_]
    constructor
    · rintro ⟨j, rfl, hj, e⟩
      exact ⟨j, rfl, by rw [hl]; omega, by rw [p j hj]; exact e⟩
    · rintro ⟨j, rfl, hj, e⟩
      rw [hl] at hj
      rcases Nat.lt_or_ge j h1.length with h2 | h2
      · exact ⟨j, rfl, h2, by rw [p j h2] at e; exact e⟩
      · have : j = h1.length := by omega
        subst this
        rw [pl] at e
        exact absurd e.symm hk
theorem mid_post {h h1 g1 : TL} {m m1 : MP} {n at_ most : Int} {c : Nat} (s : SetMid h m n most c h1 g1 m1) (hm : most ≤ 1048576) (ha : 0 ≤ at_ ∧ at_ ≤ 253402300799) {h' : TL} {m' : MP} {p : Nat} (u : UpPost (h1 ++ [(n, at_)]) h1.length h' m' p) : SetPost h n at_ h' m' := by
  have up := mid_up (at_ := at_) s hm
  have hl : (h1 ++ [(n, at_)]).length = h1.length + 1 := by simp
  refine ⟨⟨Heap.of u.he u.uu (u.dd fun q h0 hq h2 => ?_), u.pl, up.dn.perm u.perm, by rw [u.perm.length_eq]; exact up.sz, fun t ht => ?_⟩, ?_⟩
  · rw [hl] at hq; omega
  · rcases List.mem_append.1 (u.perm.mem_iff.1 ht) with h2 | h2
    · exact s.inv.tm t h2
    · rw [List.mem_singleton] at h2; subst h2; exact ha
  · rw [← s.srt]
    have : srt h' = srt ((n, at_) :: h1) := srt_congr (u.perm.trans (List.perm_append_comm (l₂ := [(n, at_)])))
    exact this
theorem can_post {h : TL} {m : MP} {n i : Int} (v : Inv h m) (e : mget n m = some i) {h' : TL} {m' : MP} (r : RmPost h i.toNat h' m') : CanPost h n h' m' := by
  obtain ⟨h0, h1, h2, h3⟩ := tm_at v e
  have := srt_ers v.dn h1 r.perm
  rw [h2] at this
  exact ⟨r.inv, this⟩
theorem due_first {h g : TL} {m : MP} {c : Nat} {now : Int} (v : Inv h m) (hc : h.length + g.length = c) (h0 : 0 < h.length) (hd : (pk h 0).2 ≤ now) {h' : TL} {m' : MP} (r : RmPost h 0 h' m') : DueI h c now h' (pk h (h.length - 1) :: g) m' [pk h 0] := by
  have hl := rm_len h0 r
  refine ⟨r.inv, by rw [hl, List.length_cons]; omega, ?_, fun t ht => ?_, by simp⟩
  · rw [srt_head v.heap h0, srt_congr r.perm]; rfl
  · rw [List.mem_singleton] at ht; subst ht; exact hd
theorem due_step {h h1 g1 : TL} {m1 : MP} {c : Nat} {now : Int} {out : TL} (d : DueI h c now h1 g1 m1 out) (h0 : 0 < h1.length) (hd : (pk h1 0).2 ≤ now) {h' : TL} {m' : MP} (r : RmPost h1 0 h' m') : DueI h c now h' (pk h1 (h1.length - 1) :: g1) m' (out ++ [pk h1 0]) := by
  have hl := rm_len h0 r
  refine ⟨r.inv, by rw [hl, List.length_cons]; have := d.len; omega, ?_, fun t ht => ?_, by simp⟩
  · rw [d.srt, srt_head d.inv.heap h0, srt_congr r.perm]; simp
  · rcases List.mem_append.1 ht with h2 | h2
    · exact d.due t h2
    · rw [List.mem_singleton] at h2; subst h2; exact hd
theorem due_split {now : Int} {out r : TL} (h1 : ∀ t ∈ out, t.2 ≤ now) (h2 : r = [] ∨ ∃ t s, r = t :: s ∧ now < t.2) : dueL now (out ++ r) = out ∧ dueR now (out ++ r) = r := by
  have e : dueL now r = [] ∧ dueR now r = r := by
    rcases h2 with rfl | ⟨t, s, rfl, h⟩
    · exact ⟨rfl, rfl⟩
    · have : decide (t.2 ≤ now) = false := decide_eq_false (by omega)
      unfold dueL dueR
      rw [List.takeWhile_cons_of_neg (by simpa using this), List.dropWhile_cons_of_neg (by simpa using this)]
      exact ⟨rfl, rfl⟩
  induction out with
  | nil => exact e
  | cons t s ih =>
    have h := h1 t (by simp)
    obtain ⟨i1, i2⟩ := ih fun x hx => h1 x (by simp [hx])
    unfold dueL at i1
    unfold dueR at i2
    unfold dueL dueR
    rw [List.cons_append, List.takeWhile_cons_of_pos (by simpa using h), List.dropWhile_cons_of_pos (by simpa using h), i1, i2]
    exact ⟨rfl, rfl⟩
theorem due_rest {h1 : TL} {m1 : MP} {now : Int} (v : Inv h1 m1) (hs : h1.length = 0 ∨ now < (pk h1 0).2) : srt h1 = [] ∨ ∃ t s, srt h1 = t :: s ∧ now < t.2 := by
  rcases Nat.eq_zero_or_pos h1.length with h0 | h0
  · rw [List.length_eq_zero_iff.1 h0]; exact .inl rfl
  · rcases hs with hs | hs
    · omega
    · exact .inr ⟨_, _, srt_head v.heap h0, hs⟩
theorem nC_len (l : TL) : (nC l).length = l.length := by simp [nC]
theorem nC_flat (l : TL) : AV.flats (nC l) = true := flats_map _ _ fun _ => rfl
theorem inv_nil : Inv [] [] := ⟨fun j _ h => by simp at h, ⟨List.nodup_nil, fun n i => ⟨(fun h => by cases h), (fun ⟨j, _, h, _⟩ => by simp at h)⟩⟩, List.nodup_nil, by simp, fun t h => by cases h⟩
end Go.Proofs.Ytainjcpocodehaa

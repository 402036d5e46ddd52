/- Timers in a heap, and the place of each: plain facts. -/
import Derived.Test.YtainjcpocodehaaSc
set_option linter.unusedSimpArgs false
set_option linter.unusedVariables false
namespace Go.Proofs.Ytainjcpocodehaa
open Go Go.Ve
set_option maxRecDepth 20000

abbrev Tm := Int × Int
abbrev TL := List Tm
abbrev MP := List (Int × Int)
def tlt (a b : Tm) : Bool := decide (a.2 < b.2) || (decide (a.2 = b.2) && decide (a.1 < b.1))
def ordV (a b : Tm) : Int := if a.2 < b.2 then -1 else if b.2 < a.2 then 1 else if a.1 < b.1 then -1 else if b.1 < a.1 then 1 else 0
def tle (a b : Tm) : Prop := tlt b a = false
theorem tlt_iff (a b : Tm) : tlt a b = true ↔ a.2 < b.2 ∨ (a.2 = b.2 ∧ a.1 < b.1) := by simp [tlt]
theorem tle_iff (a b : Tm) : tle a b ↔ a.2 < b.2 ∨ (a.2 = b.2 ∧ a.1 ≤ b.1) := by
  unfold tle
  rw [← Bool.not_eq_true, tlt_iff]
  omega
theorem tle_refl (a : Tm) : tle a a := by rw [tle_iff]; omega
theorem tle_trans {a b c : Tm} (h : tle a b) (k : tle b c) : tle a c := by rw [tle_iff] at *; omega
theorem tle_of_lt {a b : Tm} (h : tlt a b = true) : tle a b := by rw [tle_iff]; rw [tlt_iff] at h; omega
theorem tle_anti {a b : Tm} (h : tle a b) (k : tle b a) : a = b := by
  rw [tle_iff] at *
  exact Prod.ext (by omega) (by omega)
theorem tle_total (a b : Tm) : tle a b ∨ tle b a := by simp only [tle_iff]; omega
theorem ord_neg (a b : Tm) : ordV a b < 0 ↔ tlt a b = true := by
  rw [tlt_iff]
  unfold ordV
  repeat' split
  all_goals omega
theorem ord_nonneg (a b : Tm) : 0 ≤ ordV a b ↔ tle b a := by
  rw [tle_iff]
  unfold ordV
  repeat' split
  all_goals omega

def pk (h : TL) (i : Nat) : Tm := h.getD i (0, 0)
theorem pk_get {h : TL} {i : Nat} (hi : i < h.length) : pk h i = h[i] := by unfold pk; rw [List.getD_eq_getElem?_getD, List.getElem?_eq_getElem hi]; rfl
theorem pk_set (h : TL) {i : Nat} (hi : i < h.length) (x : Tm) (j : Nat) : pk (h.set i x) j = if i = j then x else pk h j := by
  unfold pk
  rw [List.getD_eq_getElem?_getD, List.getD_eq_getElem?_getD, List.getElem?_set]
  by_cases hj : i = j
  · subst hj; rw [if_pos rfl, if_pos hi, if_pos rfl]; rfl
  · rw [if_neg hj, if_neg hj]
theorem pk_app {h g : TL} {i : Nat} (hi : i < h.length) : pk (h ++ g) i = pk h i := by
  unfold pk
  rw [List.getD_eq_getElem?_getD, List.getD_eq_getElem?_getD, List.getElem?_append_left hi]
theorem pk_take {h : TL} {i m : Nat} (hi : i < m) : pk (h.take m) i = pk h i := by
  unfold pk
  rw [List.getD_eq_getElem?_getD, List.getD_eq_getElem?_getD, List.getElem?_take_of_lt hi]
theorem pk_mem {h : TL} {i : Nat} (hi : i < h.length) : pk h i ∈ h := by rw [pk_get hi]; exact List.getElem_mem hi
theorem mem_pk {h : TL} {t : Tm} (ht : t ∈ h) : ∃ i, i < h.length ∧ pk h i = t := by
  obtain ⟨i, hi, rfl⟩ := List.getElem_of_mem ht
  exact ⟨i, hi, pk_get hi⟩
theorem erase_perm : ∀ {l : TL} {i : Nat}, i < l.length → (pk l i :: l.eraseIdx i).Perm l
  | [], i, h => by simp at h
  | t :: r, 0, _ => .refl _
  | t :: r, i + 1, h => by
    have := erase_perm (l := r) (i := i) (by simpa using h)
    exact (List.Perm.swap t (pk r i) (r.eraseIdx i)).trans (this.cons t)
theorem set_perm : ∀ {l : TL} {i : Nat}, i < l.length → ∀ x : Tm, (l.set i x).Perm (x :: l.eraseIdx i)
  | [], i, h, _ => by simp at h
  | t :: r, 0, _, x => .refl _
  | t :: r, i + 1, h, x => by
    have := set_perm (l := r) (i := i) (by simpa using h) x
    exact (this.cons t).trans (List.Perm.swap x t (r.eraseIdx i))
def swp (a : TL) (i p : Nat) : TL := (a.set i (pk a p)).set p (pk a i)
theorem swp_len (a : TL) (i p : Nat) : (swp a i p).length = a.length := by simp [swp]
theorem pk_swp {a : TL} {i p : Nat} (hi : i < a.length) (hp : p < a.length) (j : Nat) : pk (swp a i p) j = if p = j then pk a i else if i = j then pk a p else pk a j := by
  unfold swp
  rw [pk_set _ (by simpa using hp), pk_set _ hi]
theorem swp_perm {a : TL} {i p : Nat} (hi : i < a.length) (hp : p < a.length) (hne : i ≠ p) : (swp a i p).Perm a := by
  have h1 : (a.set i (pk a p)).Perm (pk a p :: a.eraseIdx i) := set_perm hi _
  have hp' : p < (a.set i (pk a p)).length := by simpa using hp
  have h2 : (swp a i p).Perm (pk a i :: (a.set i (pk a p)).eraseIdx p) := set_perm hp' _
  have h3 := erase_perm hp'
  have e : pk (a.set i (pk a p)) p = pk a p := by rw [pk_set _ hi, if_neg hne]
  rw [e] at h3
  have h4 := (h3.trans h1).cons_inv
  have h5 := erase_perm hi
  exact h2.trans ((h4.cons _).trans h5)

def Heap (h : TL) : Prop := ∀ j, 0 < j → j < h.length → tle (pk h ((j - 1) / 2)) (pk h j)
structure HE (h : TL) (i : Nat) : Prop where
  far : ∀ j, 0 < j → j < h.length → j ≠ i → (j - 1) / 2 ≠ i → tle (pk h ((j - 1) / 2)) (pk h j)
  near : ∀ c, 0 < c → c < h.length → (c - 1) / 2 = i → 0 < i → tle (pk h ((i - 1) / 2)) (pk h c)
def UU (h : TL) (i : Nat) : Prop := 0 < i → tle (pk h ((i - 1) / 2)) (pk h i)
def DD (h : TL) (i : Nat) : Prop := ∀ c, 0 < c → c < h.length → (c - 1) / 2 = i → tle (pk h i) (pk h c)
theorem Heap.of {h : TL} {i : Nat} (he : HE h i) (hu : UU h i) (hd : DD h i) : Heap h := by
  intro j h0 hj
  by_cases h1 : j = i
  · subst h1; exact hu h0
  · by_cases h2 : (j - 1) / 2 = i
    · rw [h2]; exact hd j h0 hj h2
    · exact he.far j h0 hj h1 h2
theorem up_step {a : TL} {i : Nat} (he : HE a i) (h0 : 0 < i) (hi : i < a.length) (hl : tlt (pk a i) (pk a ((i - 1) / 2)) = true) : HE (swp a i ((i - 1) / 2)) ((i - 1) / 2) ∧ DD (swp a i ((i - 1) / 2)) ((i - 1) / 2) := by
  obtain ⟨p, hp⟩ : ∃ p, (i - 1) / 2 = p := ⟨_, rfl⟩
  rw [hp] at hl ⊢
  have hpi : p < i := by omega
  have hpl : p < a.length := by omega
  have key : ∀ c, 0 < c → c < a.length → (c - 1) / 2 = p → c ≠ i → tle (pk a p) (pk a c) := fun c h1 h2 h3 h4 => by
    have := he.far c h1 h2 h4 (by omega)
    rwa [h3] at this
  refine ⟨⟨fun j h1 h2 h3 h4 => ?_, fun c h1 h2 h3 h4 => ?_⟩, fun c h1 h2 h3 => ?_⟩
  · rw [swp_len] at h2
    rw [pk_swp hi hpl, pk_swp hi hpl, if_neg (Ne.symm h4), if_neg (Ne.symm h3)]
    have hji : j ≠ i := fun h => by subst h; exact h4 hp
    rw [if_neg (Ne.symm hji)]
    split
    · rename_i h5
      have := he.near j h1 h2 h5.symm h0
      rwa [hp] at this
    · rename_i h5
      exact he.far j h1 h2 hji (Ne.symm h5)
  · rw [swp_len] at h2
    have hpp : (p - 1) / 2 < p := by omega
    have hq := he.far p h4 hpl (by omega) (by omega)
    rw [pk_swp hi hpl, pk_swp hi hpl, if_neg (by omega), if_neg (by omega), if_neg (by omega)]
    split
    · exact hq
    · rename_i h5
      exact tle_trans hq (key c h1 h2 h3 (Ne.symm h5))
  · rw [swp_len] at h2
    rw [pk_swp hi hpl, pk_swp hi hpl, if_pos rfl, if_neg (by omega)]
    split
    · exact tle_of_lt hl
    · rename_i h5
      exact tle_trans (tle_of_lt hl) (key c h1 h2 h3 (Ne.symm h5))
theorem down_step {a : TL} {i k : Nat} (he : HE a i) (hk : k < a.length) (h0 : 0 < k) (hc : (k - 1) / 2 = i) (hm : ∀ c, 0 < c → c < a.length → (c - 1) / 2 = i → tle (pk a k) (pk a c)) (hl : tlt (pk a k) (pk a i) = true) : HE (swp a i k) k ∧ UU (swp a i k) k := by
  have hik : i < k := by omega
  have hi : i < a.length := by omega
  refine ⟨⟨fun j h1 h2 h3 h4 => ?_, fun c h1 h2 h3 h4 => ?_⟩, fun h1 => ?_⟩
  · rw [swp_len] at h2
    rw [pk_swp hi hk, pk_swp hi hk, if_neg (Ne.symm h4), if_neg (Ne.symm h3)]
    by_cases hji : j = i
    · subst hji
      rw [if_neg (by omega), if_pos rfl]
      exact he.near k h0 hk hc h1
    · rw [if_neg (Ne.symm hji)]
      split
      · rename_i h5
        exact hm j h1 h2 h5.symm
      · rename_i h5
        exact he.far j h1 h2 hji (Ne.symm h5)
  · rw [swp_len] at h2
    rw [pk_swp hi hk, pk_swp hi hk, hc, if_neg (by omega), if_pos rfl, if_neg (by omega), if_neg (by omega)]
    have := he.far c h1 h2 (by omega) (by omega)
    rwa [h3] at this
  · rw [pk_swp hi hk, pk_swp hi hk, hc, if_neg (by omega), if_pos rfl, if_pos rfl]
    exact tle_of_lt hl
theorem heap_head {h : TL} (hh : Heap h) : ∀ j, j < h.length → tle (pk h 0) (pk h j) := by
  intro j
  induction j using Nat.strongRecOn with
  | _ j ih =>
    intro hj
    by_cases h0 : j = 0
    · subst h0; exact tle_refl _
    · exact tle_trans (ih ((j - 1) / 2) (by omega) (by omega)) (hh j (by omega) hj)

def mget (n : Int) : MP → Option Int
  | [] => none
  | p :: r => if p.1 = n then some p.2 else mget n r
def mput (n v : Int) : MP → MP
  | [] => [(n, v)]
  | p :: r => if p.1 = n then (n, v) :: r else p :: mput n v r
def mdel (n : Int) : MP → MP
  | [] => []
  | p :: r => if p.1 = n then r else p :: mdel n r
def mnd (m : MP) : Prop := (m.map (·.1)).Nodup
theorem mget_none {n : Int} : ∀ {m : MP}, n ∉ m.map (·.1) → mget n m = none
  | [], _ => rfl
  | p :: r, h => by
    simp only [List.map_cons, List.mem_cons, not_or] at h
    rw [mget, if_neg (Ne.symm h.1), mget_none h.2]
theorem mget_put (n v k : Int) : ∀ m : MP, mget k (mput n v m) = if k = n then some v else mget k m
  | [] => by
    simp only [mput, mget]
    by_cases h : n = k
    · rw [if_pos h, if_pos h.symm]
    · rw [if_neg h, if_neg (Ne.symm h)]
  | p :: r => by
    simp only [mput]
    by_cases h : p.1 = n
    · rw [if_pos h]
      simp only [mget]
      by_cases h2 : n = k
      · rw [if_pos h2, if_pos h2.symm]
      · rw [if_neg h2, if_neg (Ne.symm h2), if_neg (fun e => h2 (h.symm.trans e))]
    · rw [if_neg h]
      simp only [mget]
      rw [mget_put n v k r]
      by_cases h2 : p.1 = k
      · rw [if_pos h2, if_pos h2, if_neg (fun e => h (h2.trans e))]
      · rw [if_neg h2, if_neg h2]
theorem mput_keys (n v : Int) : ∀ (m : MP) (k : Int), k ∈ (mput n v m).map (·.1) ↔ k = n ∨ k ∈ m.map (·.1)
  | [], k => by simp [mput]
  | p :: r, k => by
    simp only [mput]
    split
    · rename_i h
      simp only [List.map_cons, List.mem_cons]
      constructor
      · rintro (h2 | h2)
        · exact .inl h2
        · exact .inr (.inr h2)
      · rintro (h2 | h2 | h2)
        · exact .inl h2
        · exact .inl (h2.trans h)
        · exact .inr h2
    · simp only [List.map_cons, List.mem_cons, mput_keys n v r k]
      constructor
      · rintro (h2 | h2 | h2)
        · exact .inr (.inl h2)
        · exact .inl h2
        · exact .inr (.inr h2)
      · rintro (h2 | h2 | h2)
        · exact .inr (.inl h2)
        · exact .inl h2
        · exact .inr (.inr h2)
theorem mput_nd (n v : Int) : ∀ {m : MP}, mnd m → mnd (mput n v m)
  | [], _ => by simp [mput, mnd]
  | p :: r, h => by
    unfold mnd at h ⊢
    simp only [List.map_cons, List.nodup_cons] at h
    simp only [mput]
    split
    · rename_i hp
      simp only [List.map_cons, List.nodup_cons]
      rw [← hp]
      exact h
    · rename_i hp
      simp only [List.map_cons, List.nodup_cons]
      refine ⟨fun hm => ?_, mput_nd n v h.2⟩
      rcases (mput_keys n v r p.1).1 hm with h2 | h2
      · exact hp h2
      · exact h.1 h2
theorem mdel_sub (n : Int) : ∀ m : MP, (mdel n m).Sublist m
  | [] => .slnil
  | p :: r => by
    simp only [mdel]
    split
    · exact List.sublist_cons_self _ _
    · exact (mdel_sub n r).cons_cons _
theorem mdel_nd (n : Int) {m : MP} (h : mnd m) : mnd (mdel n m) := List.Nodup.sublist ((mdel_sub n m).map _) h
theorem mget_del (n k : Int) : ∀ {m : MP}, mnd m → mget k (mdel n m) = if k = n then none else mget k m
  | [], _ => by simp [mdel, mget]
  | p :: r, h => by
    unfold mnd at h
    simp only [List.map_cons, List.nodup_cons] at h
    simp only [mdel]
    by_cases hp : p.1 = n
    · rw [if_pos hp]
      by_cases hk : k = n
      · rw [if_pos hk, hk, ← hp, mget_none h.1]
      · rw [if_neg hk, mget, if_neg (fun e => hk (e.symm.trans hp))]
    · rw [if_neg hp]
      simp only [mget]
      rw [mget_del n k h.2]
      by_cases hk : p.1 = k
      · rw [if_pos hk, if_pos hk, if_neg (fun e => hp (hk.trans e))]
      · rw [if_neg hk, if_neg hk]
structure PlX (m : MP) (a : TL) (n0 : Int) : Prop where
  nd : mnd m
  at_ : ∀ n i, n ≠ n0 → (mget n m = some i ↔ ∃ j : Nat, i = j ∧ j < a.length ∧ (pk a j).1 = n)
structure Pl (m : MP) (a : TL) : Prop where
  nd : mnd m
  at_ : ∀ n i, mget n m = some i ↔ ∃ j : Nat, i = j ∧ j < a.length ∧ (pk a j).1 = n
theorem Pl.x {m : MP} {a : TL} (h : Pl m a) (n : Int) : PlX m a n := ⟨h.nd, fun k i _ => h.at_ k i⟩
def Dn (a : TL) : Prop := (a.map (·.1)).Nodup
theorem Dn.inj {a : TL} (h : Dn a) {i j : Nat} (hi : i < a.length) (hj : j < a.length) (he : (pk a i).1 = (pk a j).1) : i = j := by
  rw [pk_get hi, pk_get hj] at he
  have hi' : i < (a.map (·.1)).length := by simpa using hi
  refine (List.getElem?_inj hi' h).1 ?_
  rw [List.getElem?_map, List.getElem?_map, List.getElem?_eq_getElem hi, List.getElem?_eq_getElem hj]
  exact congrArg some he
theorem Dn.perm {a b : TL} (h : Dn a) (p : b.Perm a) : Dn b := (List.Perm.nodup_iff (p.map (fun t : Tm => t.1))).2 h
theorem PlX.swp {m : MP} {a : TL} {i p : Nat} (h : PlX m a (pk a i).1) (hd : Dn a) (hi : i < a.length) (hp : p < a.length) (hne : i ≠ p) : PlX (mput (pk a p).1 i m) (swp a i p) (pk a i).1 := by
  refine ⟨mput_nd _ _ h.nd, fun n v hn => ?_⟩
  rw [mget_put]
  by_cases h1 : n = (pk a p).1
  · subst h1
    rw [if_pos rfl]
    constructor
    · intro e
      cases e
      refine ⟨i, rfl, by rw [swp_len]; exact hi, ?_⟩
      rw [pk_swp hi hp, if_neg (Ne.symm hne), if_pos rfl]
    · rintro ⟨j, rfl, hj, e⟩
      rw [swp_len] at hj
      rw [pk_swp hi hp] at e
      split at e
      · exact absurd e.symm hn
      · split at e
        · rename_i h2; rw [h2]
        · rename_i h2 h3
          exact absurd (hd.inj hj hp e).symm h2
  · rw [if_neg h1, h.at_ n v hn]
    constructor
    · rintro ⟨j, rfl, hj, e⟩
      refine ⟨j, rfl, by rw [swp_len]; exact hj, ?_⟩
      rw [pk_swp hi hp]
      rw [if_neg (fun h2 => h1 (by rw [← e, h2])), if_neg (fun h2 => hn (by rw [← e, h2]))]
      exact e
    · rintro ⟨j, rfl, hj, e⟩
      rw [swp_len] at hj
      rw [pk_swp hi hp] at e
      split at e
      · exact absurd e.symm hn
      · split at e
        · exact absurd e.symm h1
        · exact ⟨j, rfl, hj, e⟩
theorem PlX.fin {m : MP} {a : TL} {i : Nat} (h : PlX m a (pk a i).1) (hd : Dn a) (hi : i < a.length) : Pl (mput (pk a i).1 i m) a := by
  refine ⟨mput_nd _ _ h.nd, fun n v => ?_⟩
  rw [mget_put]
  by_cases h1 : n = (pk a i).1
  · subst h1
    rw [if_pos rfl]
    constructor
    · intro e; cases e; exact ⟨i, rfl, hi, rfl⟩
    · rintro ⟨j, rfl, hj, e⟩
      rw [hd.inj hj hi e]
  · rw [if_neg h1]; exact h.at_ n v h1

def Srt (l : TL) : Prop := l.Pairwise tle
def ins (t : Tm) : TL → TL
  | [] => [t]
  | x :: r => if tlt t x then t :: x :: r else x :: ins t r
def srt : TL → TL
  | [] => []
  | t :: r => ins t (srt r)
theorem ins_perm (t : Tm) : ∀ l : TL, (ins t l).Perm (t :: l)
  | [] => .refl _
  | x :: r => by
    simp only [ins]
    split
    · exact .refl _
    · exact ((ins_perm t r).cons x).trans (.swap _ _ _)
theorem ins_srt (t : Tm) : ∀ {l : TL}, Srt l → Srt (ins t l)
  | [], _ => List.pairwise_singleton _ _
  | x :: r, h => by
    simp only [ins]
    have h' := List.pairwise_cons.1 h
    split
    · rename_i ht
      refine List.pairwise_cons.2 ⟨fun y hy => ?_, h⟩
      rcases List.mem_cons.1 hy with rfl | hy
      · exact tle_of_lt ht
      · exact tle_trans (tle_of_lt ht) (h'.1 y hy)
    · rename_i ht
      refine List.pairwise_cons.2 ⟨fun y hy => ?_, ins_srt t h'.2⟩
      rcases List.mem_cons.1 ((ins_perm t r).mem_iff.1 hy) with rfl | hy
      · exact (by simpa using ht : tlt y x = false)
      · exact h'.1 y hy
theorem srt_perm : ∀ l : TL, (srt l).Perm l
  | [] => .refl _
  | t :: r => (ins_perm t _).trans ((srt_perm r).cons t)
theorem srt_srt : ∀ l : TL, Srt (srt l)
  | [] => .nil
  | t :: r => ins_srt t (srt_srt r)
theorem srt_uniq {a b : TL} (ha : Srt a) (hb : Srt b) (h : a.Perm b) : a = b := List.Perm.eq_of_pairwise (fun _ _ _ _ => tle_anti) ha hb h
theorem srt_congr {a b : TL} (h : a.Perm b) : srt a = srt b := srt_uniq (srt_srt _) (srt_srt _) ((srt_perm a).trans (h.trans (srt_perm b).symm))
def ers (n : Int) (l : TL) : TL := l.filter fun t => !(decide (t.1 = n))
theorem ers_srt (n : Int) {l : TL} (h : Srt l) : Srt (ers n l) := List.Pairwise.sublist List.filter_sublist h
theorem ers_perm (n : Int) {a b : TL} (h : a.Perm b) : (ers n a).Perm (ers n b) := h.filter _
theorem ers_idx {a : TL} (hd : Dn a) {i : Nat} (hi : i < a.length) : ers (pk a i).1 a = a.eraseIdx i := by
  induction a generalizing i with
  | nil => simp at hi
  | cons t r ih =>
    have hd' : t.1 ∉ r.map (·.1) ∧ Dn r := by
      unfold Dn at hd ⊢
      simpa only [List.map_cons, List.nodup_cons] using hd
    cases i with
    | zero =>
      show ers t.1 (t :: r) = r
      unfold ers
      rw [List.filter_cons_of_neg (by simp)]
      refine List.filter_eq_self.2 fun x hx => ?_
      have : ¬ x.1 = t.1 := fun e => hd'.1 (List.mem_map.2 ⟨x, hx, e⟩)
      simp [this]
    | succ i =>
      have hi' : i < r.length := by simpa using hi
      show ers (pk r i).1 (t :: r) = t :: r.eraseIdx i
      have hne : ¬ t.1 = (pk r i).1 := fun e => hd'.1 (List.mem_map.2 ⟨_, pk_mem hi', e.symm⟩)
      have h2 := ih hd'.2 hi'
      unfold ers at h2 ⊢
      rw [List.filter_cons_of_pos (by simp [hne]), h2]
theorem srt_ers {a : TL} (hd : Dn a) {i : Nat} (hi : i < a.length) {b : TL} (hb : b.Perm (a.eraseIdx i)) : srt b = ers (pk a i).1 (srt a) := by
  refine srt_uniq (srt_srt _) (ers_srt _ (srt_srt _)) ((srt_perm b).trans (hb.trans ?_))
  rw [← ers_idx hd hi]
  exact ers_perm _ (srt_perm a).symm
theorem ers_none {n : Int} {l : TL} (h : ∀ t ∈ l, t.1 ≠ n) : ers n l = l := List.filter_eq_self.2 fun x hx => by simp [h x hx]
theorem srt_head {h : TL} (hh : Heap h) (h0 : 0 < h.length) : srt h = pk h 0 :: srt (h.eraseIdx 0) := by
  refine srt_uniq (srt_srt _) (List.pairwise_cons.2 ⟨fun t ht => ?_, srt_srt _⟩) ?_
  · have := (srt_perm _).mem_iff.1 ht
    obtain ⟨j, hj, rfl⟩ := mem_pk (List.mem_of_mem_eraseIdx this)
    exact heap_head hh j hj
  · have := erase_perm h0
    exact (srt_perm h).trans (this.symm.trans ((srt_perm _).symm.cons _))
end Go.Proofs.Ytainjcpocodehaa

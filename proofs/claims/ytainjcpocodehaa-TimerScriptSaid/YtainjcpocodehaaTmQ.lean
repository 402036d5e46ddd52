/- Timers as cells, places as a map's entries: plain facts. -/
import Derived.Test.YtainjcpocodehaaTmP
set_option linter.unusedSimpArgs false
set_option linter.unusedVariables false
namespace Go.Proofs.Ytainjcpocodehaa
open Go Go.Ve
set_option maxRecDepth 20000

def tm2 (t : Tm) : List AV := [.int .i64 t.1, .int .i64 t.2]
def tmA (t : Tm) : AV := .agg (tm2 t)
def tC (l : TL) : List AV := l.flatMap tm2
def getT : List AV → TL
  | .int .i64 a :: .int .i64 b :: r => (a, b) :: getT r
  | _ => []
theorem tC_cons (t : Tm) (l : TL) : tC (t :: l) = .int .i64 t.1 :: .int .i64 t.2 :: tC l := rfl
theorem tC_app (a b : TL) : tC (a ++ b) = tC a ++ tC b := List.flatMap_append
theorem getT_tC : ∀ l : TL, getT (tC l) = l
  | [] => rfl
  | t :: r => by rw [tC_cons, getT, getT_tC r]
theorem tC_len : ∀ l : TL, (tC l).length = 2 * l.length
  | [] => rfl
  | t :: r => by rw [tC_cons, List.length_cons, List.length_cons, tC_len r, List.length_cons]; omega
theorem tC_flat : ∀ l : TL, AV.flats (tC l) = true
  | [] => rfl
  | t :: r => by
    rw [tC_cons]
    simp only [AV.flats, tC_flat r, AV.flat, Bool.and_true]
theorem tC_drop : ∀ (l : TL) (i : Nat), i < l.length → ((tC l).drop (i * 2)).take 2 = tm2 (pk l i)
  | [], i, h => by simp at h
  | t :: r, 0, _ => rfl
  | t :: r, i + 1, h => by
    have := tC_drop r i (by simpa using h)
    rw [tC_cons, show (i + 1) * 2 = i * 2 + 1 + 1 by omega, List.drop_succ_cons, List.drop_succ_cons, this]
    rfl
theorem tC_get0 : ∀ (l : TL) (i : Nat), i < l.length → (tC l)[i * 2]? = some (.int .i64 (pk l i).1)
  | [], i, h => by simp at h
  | t :: r, 0, _ => rfl
  | t :: r, i + 1, h => by
    have := tC_get0 r i (by simpa using h)
    rw [tC_cons, show (i + 1) * 2 = i * 2 + 1 + 1 by omega, List.getElem?_cons_succ, List.getElem?_cons_succ, this]
    rfl
theorem tC_get1 : ∀ (l : TL) (i : Nat), i < l.length → (tC l)[i * 2 + 1]? = some (.int .i64 (pk l i).2)
  | [], i, h => by simp at h
  | t :: r, 0, _ => rfl
  | t :: r, i + 1, h => by
    have := tC_get1 r i (by simpa using h)
    rw [tC_cons, show (i + 1) * 2 + 1 = i * 2 + 1 + 1 + 1 by omega, List.getElem?_cons_succ, List.getElem?_cons_succ, this]
    rfl
theorem tC_set' : ∀ (l : TL) (i : Nat) (t : Tm), i < l.length → (tC l).take (i * 2) ++ (tm2 t ++ (tC l).drop (i * 2 + 2)) = tC (l.set i t)
  | [], i, _, h => by simp at h
  | x :: r, 0, t, _ => rfl
  | x :: r, i + 1, t, h => by
    have := tC_set' r i t (by simpa using h)
    rw [tC_cons, show (i + 1) * 2 = i * 2 + 1 + 1 by omega, show i * 2 + 1 + 1 + 2 = i * 2 + 2 + 1 + 1 by omega, List.take_succ_cons, List.take_succ_cons, List.drop_succ_cons, List.drop_succ_cons, List.cons_append, List.cons_append, this]
    rfl
theorem tC_set (l : TL) (i : Nat) (t : Tm) (h : i < l.length) : setManyF (tC l) (i * 2) (tm2 t) = tC (l.set i t) := by
  have e : setManyF (tC l) (i * 2) (tm2 t) = if i * 2 + 2 ≤ (tC l).length then (tC l).take (i * 2) ++ (tm2 t ++ (tC l).drop (i * 2 + 2)) else setMany (tC l) (i * 2) (tm2 t) := rfl
  rw [e, if_pos (by rw [tC_len]; omega), tC_set' l i t h]
def hOf (cs : List AV) (k : Nat) : TL := (getT cs).take k
def gOf (cs : List AV) (k : Nat) : TL := (getT cs).drop k
theorem hOf_tC (h g : TL) : hOf (tC (h ++ g)) h.length = h := by unfold hOf; rw [getT_tC, List.take_left]
theorem gOf_tC (h g : TL) : gOf (tC (h ++ g)) h.length = g := by unfold gOf; rw [getT_tC, List.drop_left]

def emap (m : MP) : List (AV × AV) := m.map fun p => (.int .i64 p.1, .int .i64 p.2)
def getM : List (AV × AV) → MP
  | (.int .i64 a, .int .i64 b) :: r => (a, b) :: getM r
  | _ => []
theorem getM_emap : ∀ m : MP, getM (emap m) = m
  | [] => rfl
  | p :: r => by
    show getM ((.int .i64 p.1, .int .i64 p.2) :: emap r) = _
    rw [getM, getM_emap r]
theorem emap_keys (m : MP) (n : Int) : keysK (.int .i64 n) (emap m) := by
  intro e he
  obtain ⟨p, _, rfl⟩ := List.mem_map.1 he
  rfl
theorem emap_ints (m : MP) : intsK .i64 (emap m) := by
  intro e he
  obtain ⟨p, _, rfl⟩ := List.mem_map.1 he
  exact ⟨_, rfl⟩
theorem findK_shift (k : AV) : ∀ (es : List (AV × AV)) (i : Nat), findK k es (i + 1) = (findK k es i).map fun r => (r.1 + 1, r.2)
  | [], _ => rfl
  | e :: es, i => by
    simp only [findK]
    cases eqK k e.1 with
    | true => rfl
    | false => exact findK_shift k es (i + 1)
theorem eqK_int (a b : Int) : eqK (.int .i64 a) (.int .i64 b) = decide (a = b) := rfl
theorem emap_cons (p : Int × Int) (r : MP) : emap (p :: r) = (.int .i64 p.1, .int .i64 p.2) :: emap r := rfl
theorem find_mget (n : Int) : ∀ m : MP, (findK (.int .i64 n) (emap m) 0).map (·.2) = (mget n m).map (.int .i64)
  | [] => rfl
  | p :: r => by
    rw [emap_cons]
    simp only [findK, eqK_int, mget]
    by_cases h : n = p.1
    · rw [decide_eq_true h, if_pos h.symm]; rfl
    · rw [decide_eq_false h, if_neg (Ne.symm h)]
      simp only [cond_false]
      rw [findK_shift, Option.map_map, ← find_mget n r]
      cases findK (.int .i64 n) (emap r) 0 <;> rfl
theorem has_mget (n : Int) (m : MP) : hasK (.int .i64 n) (emap m) = (mget n m).isSome := by
  have := find_mget n m
  unfold hasK
  cases hf : findK (.int .i64 n) (emap m) 0 <;> cases hg : mget n m <;> rw [hf, hg] at this <;> first | rfl | (cases this)
theorem val_mget (n : Int) (m : MP) : valK (.int .i64 n) (emap m) = (mget n m).getD 0 := by
  have := find_mget n m
  unfold valK
  cases hf : findK (.int .i64 n) (emap m) 0 with
  | none =>
    cases hg : mget n m
    · rfl
    · rw [hf, hg] at this; cases this
  | some r =>
    cases hg : mget n m with
    | none => rw [hf, hg] at this; cases this
    | some v =>
      rw [hf, hg] at this
      obtain ⟨i, a⟩ := r
      have e : a = .int .i64 v := Option.some.inj this
      subst e; rfl
theorem put_mput (n v : Int) : ∀ m : MP, putK (.int .i64 n) (.int .i64 v) (emap m) = emap (mput n v m)
  | [] => rfl
  | p :: r => by
    have ih := put_mput n v r
    unfold putK at ih ⊢
    rw [emap_cons]
    simp only [findK, eqK_int, mput]
    by_cases h : n = p.1
    · rw [decide_eq_true h, if_pos h.symm]; rfl
    · rw [decide_eq_false h, if_neg (Ne.symm h)]
      simp only [cond_false]
      rw [findK_shift, emap_cons, ← ih]
      cases findK (.int .i64 n) (emap r) 0 <;> rfl
theorem del_mdel (n : Int) : ∀ m : MP, delK (.int .i64 n) (emap m) = emap (mdel n m)
  | [] => rfl
  | p :: r => by
    have ih := del_mdel n r
    unfold delK at ih ⊢
    rw [emap_cons]
    simp only [findK, eqK_int, mdel]
    by_cases h : n = p.1
    · rw [decide_eq_true h, if_pos h.symm]; rfl
    · rw [decide_eq_false h, if_neg (Ne.symm h)]
      simp only [cond_false]
      rw [findK_shift, emap_cons, ← ih]
      cases findK (.int .i64 n) (emap r) 0 <;> rfl
theorem half {i : Nat} (h : 0 < i) : (Int.tdiv ((i : Int) - 1) 2) = (((i - 1) / 2 : Nat) : Int) := by
  rw [Int.tdiv_eq_ediv_of_nonneg (by omega)]; omega

structure UpPre (h : TL) (m : MP) (i : Nat) : Prop where
  lt : i < h.length
  sz : h.length ≤ 1048576
  he : HE h i
  dn : Dn h
  pl : PlX m h (pk h i).1
structure UpPost (h : TL) (i : Nat) (h' : TL) (m' : MP) (p : Nat) : Prop where
  lt : p < h.length
  perm : h'.Perm h
  he : HE h' p
  uu : UU h' p
  dd : DD h i → DD h' p
  at_ : pk h' p = pk h i
  pl : Pl m' h'
structure UpI (h : TL) (i : Nat) (d : Tm) (x : TL × MP × Nat) : Prop where
  len : x.1.length = h.length
  lt : x.2.2 < h.length
  perm : (x.1.set x.2.2 d).Perm h
  he : HE (x.1.set x.2.2 d) x.2.2
  dd : DD h i → DD (x.1.set x.2.2 d) x.2.2
  pl : PlX x.2.1 (x.1.set x.2.2 d) d.1
theorem set_pk {h : TL} {i : Nat} (hi : i < h.length) : h.set i (pk h i) = h := by
  rw [pk_get hi]; exact List.set_getElem_self hi
theorem UpI.init {h : TL} {m : MP} {i : Nat} (p : UpPre h m i) : UpI h i (pk h i) (h, m, i) := by
  have e := set_pk p.lt
  refine ⟨rfl, p.lt, ?_, ?_, ?_, ?_⟩ <;> dsimp only <;> rw [e]
  · exact p.he
  · exact id
  · exact p.pl
theorem swp_of {h : TL} {i p : Nat} {d : Tm} (hi : i < h.length) (hp : p < h.length) (hne : i ≠ p) : swp (h.set i d) i p = (h.set i (pk h p)).set p d := by
  unfold swp
  rw [pk_set _ hi, pk_set _ hi, if_pos rfl, if_neg hne, List.set_set]
theorem UpI.step {h : TL} {i : Nat} {d : Tm} {x : TL × MP × Nat} (hd : Dn h) (u : UpI h i d x) (h0 : 0 < x.2.2) (hl : tlt d (pk x.1 ((x.2.2 - 1) / 2)) = true) :
    UpI h i d (x.1.set x.2.2 (pk x.1 ((x.2.2 - 1) / 2)), mput (pk x.1 ((x.2.2 - 1) / 2)).1 x.2.2 x.2.1, (x.2.2 - 1) / 2) := by
  obtain ⟨h1, m1, i1⟩ := x
  obtain ⟨len, lt, perm, he, dd, pl⟩ := u
  dsimp only at *
  obtain ⟨p, hp⟩ : ∃ p, (i1 - 1) / 2 = p := ⟨_, rfl⟩
  have hlt : p < i1 := by omega
  have hi1 : i1 < h1.length := by omega
  have hp1 : p < h1.length := by omega
  have e := swp_of (d := d) hi1 hp1 (by omega)
  have ea : pk (h1.set i1 d) i1 = d := by rw [pk_set _ hi1, if_pos rfl]
  have eb : pk (h1.set i1 d) p = pk h1 p := by rw [pk_set _ hi1, if_neg (by omega)]
  have hs := up_step he h0 (by simpa using hi1) (by rw [hp, ea, eb, ← hp]; exact hl)
  rw [hp] at hs ⊢
  have hq := swp_perm (a := h1.set i1 d) (i := i1) (p := p) (by simpa using hi1) (by simpa using hp1) (by omega)
  have pl' := (show PlX m1 (h1.set i1 d) (pk (h1.set i1 d) i1).1 by rw [ea]; exact pl).swp (hd.perm perm) (i := i1) (p := p) (by simpa using hi1) (by simpa using hp1) (by omega)
  rw [e] at hs hq pl'
  rw [ea, eb] at pl'
  exact ⟨by simpa using len, by dsimp only; omega, hq.trans perm, hs.1, fun _ => hs.2, pl'⟩
theorem UpI.done {h : TL} {i : Nat} {d : Tm} {x : TL × MP × Nat} (hd : Dn h) (e : d = pk h i) (u : UpI h i d x) (hc : x.2.2 = 0 ∨ tlt d (pk x.1 ((x.2.2 - 1) / 2)) = false) :
    UpPost h i (x.1.set x.2.2 d) (mput d.1 x.2.2 x.2.1) x.2.2 := by
  obtain ⟨h1, m1, i1⟩ := x
  obtain ⟨len, lt, perm, he, dd, pl⟩ := u
  dsimp only at *
  have hi1 : i1 < h1.length := by omega
  have ea : pk (h1.set i1 d) i1 = d := by rw [pk_set _ hi1, if_pos rfl]
  refine ⟨lt, perm, he, fun h0 => ?_, dd, by rw [ea, e], ?_⟩
  · rw [ea, pk_set _ hi1, if_neg (by omega)]
    rcases hc with hc | hc
    · omega
    · exact hc
  · have := (show PlX m1 (h1.set i1 d) (pk (h1.set i1 d) i1).1 by rw [ea]; exact pl).fin (hd.perm perm) (by simpa using hi1)
    rwa [ea] at this
structure DownPre (h : TL) (m : MP) (i : Nat) : Prop where
  lt : i < h.length
  sz : h.length ≤ 1048576
  he : HE h i
  uu : UU h i
  dn : Dn h
  pl : PlX m h (pk h i).1
structure DownPost (h : TL) (h' : TL) (m' : MP) : Prop where
  perm : h'.Perm h
  heap : Heap h'
  pl : Pl m' h'
structure DownI (h : TL) (d : Tm) (x : TL × MP × Nat) : Prop where
  len : x.1.length = h.length
  lt : x.2.2 < h.length
  perm : (x.1.set x.2.2 d).Perm h
  he : HE (x.1.set x.2.2 d) x.2.2
  uu : UU (x.1.set x.2.2 d) x.2.2
  pl : PlX x.2.1 (x.1.set x.2.2 d) d.1
structure DownK (h1 : TL) (i1 k : Nat) : Prop where
  or : k = 2 * i1 + 1 ∨ (k = 2 * i1 + 2 ∧ k < h1.length)
  min : k < h1.length → ∀ c, 0 < c → c < h1.length → (c - 1) / 2 = i1 → tle (pk h1 k) (pk h1 c)
theorem DownI.init {h : TL} {m : MP} {i : Nat} (p : DownPre h m i) : DownI h (pk h i) (h, m, i) := by
  have e := set_pk p.lt
  refine ⟨rfl, p.lt, ?_, ?_, ?_, ?_⟩ <;> dsimp only <;> rw [e]
  · exact p.he
  · exact p.uu
  · exact p.pl
theorem DownK.left {h1 : TL} {i1 : Nat} (h : ¬ 2 * i1 + 2 < h1.length ∨ tlt (pk h1 (2 * i1 + 2)) (pk h1 (2 * i1 + 1)) = false) : DownK h1 i1 (2 * i1 + 1) := by
  refine ⟨.inl rfl, fun hk c h0 hc hp => ?_⟩
  have : c = 2 * i1 + 1 ∨ c = 2 * i1 + 2 := by omega
  rcases this with rfl | rfl
  · exact tle_refl _
  · rcases h with h | h
    · exact absurd hc h
    · exact h
theorem DownK.right {h1 : TL} {i1 : Nat} (h0 : 2 * i1 + 2 < h1.length) (h : tlt (pk h1 (2 * i1 + 2)) (pk h1 (2 * i1 + 1)) = true) : DownK h1 i1 (2 * i1 + 2) := by
  refine ⟨.inr ⟨rfl, h0⟩, fun hk c h0 hc hp => ?_⟩
  have : c = 2 * i1 + 1 ∨ c = 2 * i1 + 2 := by omega
  rcases this with rfl | rfl
  · exact tle_of_lt h
  · exact tle_refl _
theorem DownI.step {h : TL} {d : Tm} {x : TL × MP × Nat} {k : Nat} (hd : Dn h) (u : DownI h d x) (c : DownK x.1 x.2.2 k) (hk : k < x.1.length) (hl : tlt (pk x.1 k) d = true) :
    DownI h d (x.1.set x.2.2 (pk x.1 k), mput (pk x.1 k).1 x.2.2 x.2.1, k) := by
  obtain ⟨h1, m1, i1⟩ := x
  obtain ⟨len, lt, perm, he, uu, pl⟩ := u
  dsimp only at *
  have hki : i1 < k ∧ (k - 1) / 2 = i1 ∧ 0 < k := by rcases c.or with h | h <;> omega
  have hi1 : i1 < h1.length := by omega
  have e := swp_of (d := d) hi1 hk (by omega)
  have ea : pk (h1.set i1 d) i1 = d := by rw [pk_set _ hi1, if_pos rfl]
  have eb : ∀ j, i1 < j → pk (h1.set i1 d) j = pk h1 j := fun j hj => by rw [pk_set _ hi1, if_neg (by omega)]
  have hs := down_step he (k := k) (by simpa using hk) hki.2.2 hki.2.1 (fun q h0 hq hp => by
    rw [eb k hki.1, eb q (by omega)]
    exact c.min hk q h0 (by simpa using hq) hp) (by rw [ea, eb k hki.1]; exact hl)
  have hq := swp_perm (a := h1.set i1 d) (i := i1) (p := k) (by simpa using hi1) (by simpa using hk) (by omega)
  have pl' := (show PlX m1 (h1.set i1 d) (pk (h1.set i1 d) i1).1 by rw [ea]; exact pl).swp (hd.perm perm) (i := i1) (p := k) (by simpa using hi1) (by simpa using hk) (by omega)
  rw [e] at hs hq pl'
  rw [ea, eb k hki.1] at pl'
  exact ⟨by simpa using len, by dsimp only; omega, hq.trans perm, hs.1, hs.2, pl'⟩
theorem DownI.done {h : TL} {d : Tm} {x : TL × MP × Nat} {k : Nat} (hd : Dn h) (u : DownI h d x) (c : DownK x.1 x.2.2 k) (hc : x.1.length ≤ k ∨ tlt (pk x.1 k) d = false) :
    DownPost h (x.1.set x.2.2 d) (mput d.1 x.2.2 x.2.1) := by
  obtain ⟨h1, m1, i1⟩ := x
  obtain ⟨len, lt, perm, he, uu, pl⟩ := u
  dsimp only at *
  have hi1 : i1 < h1.length := by omega
  have ea : pk (h1.set i1 d) i1 = d := by rw [pk_set _ hi1, if_pos rfl]
  refine ⟨perm, Heap.of he uu fun q h0 hq hp => ?_, ?_⟩
  · rw [ea, pk_set _ hi1, if_neg (by omega)]
    have hq' : q < h1.length := by simpa using hq
    rcases hc with hc | hc
    · have : k = 2 * i1 + 1 := by rcases c.or with h | h <;> omega
      omega
    · by_cases hk : k < h1.length
      · exact tle_trans hc (c.min hk q h0 hq' hp)
      · have : k = 2 * i1 + 1 := by rcases c.or with h | h <;> omega
        omega
  · have := (show PlX m1 (h1.set i1 d) (pk (h1.set i1 d) i1).1 by rw [ea]; exact pl).fin (hd.perm perm) (by simpa using hi1)
    rwa [ea] at this
structure Inv (h : TL) (m : MP) : Prop where
  heap : Heap h
  pl : Pl m h
  dn : Dn h
  sz : h.length ≤ 1048576
  tm : ∀ t ∈ h, 0 ≤ t.2 ∧ t.2 ≤ 253402300799
structure RmPost (h : TL) (i : Nat) (h' : TL) (m' : MP) : Prop where
  inv : Inv h' m'
  perm : h'.Perm (h.eraseIdx i)
theorem rm_mid {h : TL} {m : MP} {i : Nat} (v : Inv h m) (hi : i < h.length - 1) :
    UpPre ((h.take (h.length - 1)).set i (pk h (h.length - 1))) (mput (pk h (h.length - 1)).1 i (mdel (pk h i).1 m)) i := by
  obtain ⟨l, hl⟩ : ∃ l, h.length - 1 = l := ⟨_, rfl⟩
  rw [hl] at hi ⊢
  have hlen : (h.take l).length = l := by rw [List.length_take]; omega
  have hil : i < (h.take l).length := by omega
  have g : ∀ j, j < l → pk ((h.take l).set i (pk h l)) j = if i = j then pk h l else pk h j := fun j hj => by rw [pk_set _ hil, pk_take hj]
  have inj : ∀ {a b : Nat}, a < h.length → b < h.length → (pk h a).1 = (pk h b).1 → a = b := fun ha hb e => v.dn.inj ha hb e
  refine ⟨by simpa using hil, by simp; have := v.sz; omega, ⟨fun j h0 hj h1 h2 => ?_, fun c h0 hc h1 h2 => ?_⟩, ?_, ?_⟩
  · have hj : j < l := by simpa [hlen] using hj
    rw [g _ (by omega), g _ hj, if_neg (Ne.symm h1), if_neg (Ne.symm h2)]
    exact v.heap j h0 (by omega)
  · have hc : c < l := by simpa [hlen] using hc
    rw [g _ (by omega), g _ hc, if_neg (by omega), if_neg (by omega)]
    have := v.heap c h0 (by omega)
    rw [h1] at this
    exact tle_trans (v.heap i h2 (by omega)) this
  · have p1 : ((h.take l).set i (pk h l)).Perm (pk h l :: (h.take l).eraseIdx i) := set_perm hil _
    have p2 : (h.take l ++ [pk h l]) = h := by
      have hll : l < h.length := by omega
      rw [pk_get hll, ← List.take_succ_eq_append_getElem hll, show l + 1 = h.length by omega, List.take_length]
    have d := v.dn
    rw [← p2] at d
    refine Dn.perm (List.Nodup.sublist (List.Sublist.map _ ?_) (d.perm (List.perm_append_comm (l₁ := [pk h l])))) p1
    exact (List.eraseIdx_sublist (h.take l) i).cons_cons _
  · refine ⟨mput_nd _ _ (mdel_nd _ v.pl.nd), fun n w _ => ?_⟩
    rw [mget_put, mget_del _ _ v.pl.nd]
    by_cases h1 : n = (pk h l).1
    · rw [if_pos h1]
      constructor
      · intro e; cases e
        exact ⟨i, rfl, by simpa using hil, by rw [g _ (by omega), if_pos rfl, h1]⟩
      · rintro ⟨j, rfl, hj, e⟩
        have hj : j < l := by simpa [hlen] using hj
        rw [g _ hj] at e
        split at e
        · rename_i h2; rw [h2]
        · have := inj (by omega) (by omega) (e.trans h1)
          omega
    · rw [if_neg h1]
      by_cases h2 : n = (pk h i).1
      · rw [if_pos h2]
        constructor
        · intro e; cases e
        · rintro ⟨j, rfl, hj, e⟩
          have hj : j < l := by simpa [hlen] using hj
          rw [g _ hj] at e
          split at e
          · exact absurd e.symm h1
          · rename_i h3
            exact absurd (inj (by omega) (by omega) (h2.symm.trans e.symm)) h3
      · rw [if_neg h2, v.pl.at_]
        constructor
        · rintro ⟨j, rfl, hj, e⟩
          have hjl : j < l := by
            refine Nat.lt_of_le_of_ne (by omega) fun h3 => ?_
            subst h3; exact h1 e.symm
          refine ⟨j, rfl, by simpa [hlen] using hjl, ?_⟩
          rw [g _ hjl, if_neg (fun h3 => h2 (by rw [← e, h3]))]
          exact e
        · rintro ⟨j, rfl, hj, e⟩
          have hj : j < l := by simpa [hlen] using hj
          rw [g _ hj] at e
          split at e
          · exact absurd e.symm h1
          · exact ⟨j, rfl, by omega, e⟩
theorem rm_perm {h : TL} {i : Nat} (hi : i < h.length - 1) : ((h.take (h.length - 1)).set i (pk h (h.length - 1))).Perm (h.eraseIdx i) := by
  obtain ⟨l, hl⟩ : ∃ l, h.length - 1 = l := ⟨_, rfl⟩
  rw [hl] at hi ⊢
  have hlen : (h.take l).length = l := by rw [List.length_take]; omega
  have hil : i < (h.take l).length := by omega
  have p2 : h.take l ++ [pk h l] = h := by
    have hll : l < h.length := by omega
    rw [pk_get hll, ← List.take_succ_eq_append_getElem hll, show l + 1 = h.length by omega, List.take_length]
  have p3 : h.eraseIdx i = (h.take l).eraseIdx i ++ [pk h l] := by
    have : (h.take l ++ [pk h l]).eraseIdx i = _ := List.eraseIdx_append_of_lt_length hil _
    rw [p2] at this; exact this
  rw [p3]
  exact (set_perm hil _).trans (List.perm_append_comm (l₁ := [pk h l]))
theorem RmPost.mk' {h : TL} {m : MP} {i : Nat} (v : Inv h m) {h' : TL} {m' : MP} (hp : h'.Perm (h.eraseIdx i)) (hh : Heap h') (pl : Pl m' h') : RmPost h i h' m' := by
  refine ⟨⟨hh, pl, ?_, ?_, fun t ht => ?_⟩, hp⟩
  · exact Dn.perm (List.Nodup.sublist (List.Sublist.map _ (List.eraseIdx_sublist h i)) v.dn) hp
  · have := hp.length_eq
    have := (List.eraseIdx_sublist h i).length_le
    have := v.sz
    omega
  · exact v.tm t (List.mem_of_mem_eraseIdx (hp.mem_iff.1 ht))
theorem rm_last {h : TL} {m : MP} {i : Nat} (v : Inv h m) (hi : i + 1 = h.length) : RmPost h i (h.take i) (mdel (pk h i).1 m) := by
  have hlen : (h.take i).length = i := by rw [List.length_take]; omega
  refine RmPost.mk' v ?_ (fun j h0 hj => ?_) ⟨mdel_nd _ v.pl.nd, fun n w => ?_⟩
  · have p2 : h.take i ++ [pk h i] = h := by
      have hll : i < h.length := by omega
      rw [pk_get hll, ← List.take_succ_eq_append_getElem hll, hi, List.take_length]
    have : (h.take i ++ [pk h i]).eraseIdx i = h.take i ++ [pk h i].eraseIdx (i - (h.take i).length) := List.eraseIdx_append_of_length_le (by omega) _
    rw [p2, hlen, Nat.sub_self] at this
    rw [this]
    simp
  · rw [pk_take (by omega), pk_take (by omega)]
    exact v.heap j h0 (by omega)
  · rw [mget_del _ _ v.pl.nd]
    by_cases h2 : n = (pk h i).1
    · rw [if_pos h2]
      constructor
      · intro e; cases e
      · rintro ⟨j, rfl, hj, e⟩
        rw [pk_take (by omega)] at e
        have := v.dn.inj (by omega) (by omega) (e.trans h2)
        omega
    · rw [if_neg h2, v.pl.at_]
      constructor
      · rintro ⟨j, rfl, hj, e⟩
        have : j < i := by
          refine Nat.lt_of_le_of_ne (by omega) fun h3 => ?_
          subst h3; exact h2 e.symm
        exact ⟨j, rfl, by omega, by rw [pk_take this]; exact e⟩
      · rintro ⟨j, rfl, hj, e⟩
        rw [pk_take (by omega)] at e
        exact ⟨j, rfl, by omega, e⟩
end Go.Proofs.Ytainjcpocodehaa

/- Of lists of calls and queues told: its walk. -/
import Derived.Test.YtainjcpocodehaaTmD
set_option linter.unusedSimpArgs false
set_option linter.unusedVariables false
namespace Go.Proofs.Ytainjcpocodehaa
open Go Go.Ve
set_option maxRecDepth 20000
abbrev AL := List (Int × Int × Int)
def actC (l : AL) : List AV := l.flatMap fun a => [.int .i64 a.1, .int .i64 a.2.1, .int .i64 a.2.2]
def ak (l : AL) (i : Nat) : Int × Int × Int := l.getD i (0, 0, 0)
def gLv (args : List AV) : Option (Bool × AV) := match args with | [] => some (true, .bool true) | _ => none
noncomputable def TNx : List (Nat × SpecE) := [(34, flatE gLv), (36, eSet), (37, eNx), (40, eAt), (39, eDue)]
noncomputable def faNx (f : FuncId) : Option FA := match Nat.beq f 35 with | true => some ⟨[], [], []⟩ | false => match Nat.beq f 38 with | true => some ⟨[], [], []⟩ | false => match Nat.beq f 37 with | true => some ⟨[], [], []⟩ | false => match Nat.beq f 39 with | true => some ⟨[], [], []⟩ | false => none
noncomputable def VNx : VE := ⟨Try.prog, tabS TNx noS, noO, faNx⟩
def MX : Int := 253402300799
def cntN (n : Int) (d : TL) (j : Nat) : Nat := ((d.take j).filter fun t => decide (t.1 = n)).length
def nilB : ABlk := .cells [.int .i64 100, .nilsl, .map 1] 0 false
structure Mid18 (h : TL) (again : Int) (c : Nat) (h1 g1 : TL) (m1 : MP) (code : Int) : Prop where
  q : QI 100 c h1 g1 m1
  tm : tmOf (nxN (srt h)) (srt h1) = some (if code = 0 then again else nxT (srt h))
noncomputable def aNx (l : AL) (again : Int) : Anns := [
  (9, [
    .mk Nat (fun i => [(7, .int .i64 i)]) (fun _ => some [keepB, .map [] false, nilB]) (fun i => i ≤ l.length) (fun i => l.length - i) (some [999997, 2]) (some [999997, 2]) (fun i => [(44, .int .i64 (ak l i).2.1), (49, .int .i64 (ak l i).2.2)]) (fun _ => []),
    .mk (Nat × Nat × TL × TL × MP) (fun x => [(7, .int .i64 x.1)]) (fun x => some [keepB, .map (emap x.2.2.2.2) false, qB 100 3 x.2.2.1.length x.2.1 1 0, .cells (tC (x.2.2.1 ++ x.2.2.2.1)) eD false]) (fun x => x.1 ≤ l.length ∧ QI 100 x.2.1 x.2.2.1 x.2.2.2.1 x.2.2.2.2) (fun x => l.length - x.1) (some [999997, 2]) (some [999997, 2]) (fun x => [(44, .int .i64 (ak l x.1).2.1), (49, .int .i64 (ak l x.1).2.2)]) (fun _ => [])]),
  (7000012, [
    .mk Unit (fun _ => []) (fun _ => some [keepB, .map [] false, nilB]) (fun _ => True) (fun _ => 0) (some [999997, 2]) (some [999997, 2]) (fun _ => []) (fun _ => []),
    .mk (Nat × TL × TL × MP) (fun _ => []) (fun x => some [keepB, .map (emap x.2.2.2) false, qB 100 3 x.2.1.length x.1 1 0, .cells (tC (x.2.1 ++ x.2.2.1)) eD false]) (fun x => QI 100 x.1 x.2.1 x.2.2.1 x.2.2.2) (fun _ => 0) (some [999997, 2]) (some [999997, 2]) (fun _ => [])
      (fun x => [(7000018, [.mk (Nat × TL × TL × MP × Int) (fun y => [(11, .int .i64 y.2.2.2.2)]) (fun y => some [keepB, .map (emap y.2.2.2.1) false, qB 100 3 y.2.1.length y.1 1 0, .cells (tC (y.2.1 ++ y.2.2.1)) eD false]) (fun y => Mid18 x.2.1 again y.1 y.2.1 y.2.2.1 y.2.2.2.1 y.2.2.2.2) (fun _ => 0) (some [999997, 2]) (some [999997, 2]) (fun _ => [])
        (fun y => [(25, [.mk Nat (fun j => [(17, .int .i64 j), (16, .int .i64 (cntN (nxN (srt x.2.1)) (dueL MX (srt y.2.1)) j))]) (fun _ => none) (fun j => j ≤ (dueL MX (srt y.2.1)).length) (fun j => (dueL MX (srt y.2.1)).length - j) gcB gcB (fun j => [(111, .int .i64 (pk (dueL MX (srt y.2.1)) j).1)]) (fun _ => [])])])])])])]
theorem eLv_ok : EntryOk Try.prog 34 (flatE gLv) := by
  refine flatE_ok fun args b v hg hb => ?_
  unfold gLv at hg
  split at hg
  · cases hg
    exact ⟨rfl, rfl, gLiv_sc⟩
  · cases hg
theorem TNx_ok : SpecOk Try.prog (tabS TNx noS) := by
  refine tabS_ok (fun p hp => ?_) noS_ok
  simp only [TNx, List.mem_cons, List.mem_nil_iff, or_false] at hp
  rcases hp with rfl | rfl | rfl | rfl | rfl
  · exact eLv_ok
  · exact eSet_ok
  · exact eNx_ok
  · exact eAt_ok
  · exact eDue_ok
structure HoldsN (p : Prop) : Prop where
  h : p
theorem eD_eq : 2 = eD := by kernel_rfl
theorem sameB_self (b : Bool) : sameB b b = true := by cases b <;> rfl
theorem actC_flat (l : AL) : AV.flats (actC l) = true := by
  induction l with
  | nil => rfl
  | cons a r ih =>
    show AV.flats (.int .i64 a.1 :: .int .i64 a.2.1 :: .int .i64 a.2.2 :: actC r) = true
    simp only [AV.flats, ih, AV.flat, Bool.and_true]
theorem actC_get1 : ∀ (l : AL) (i : Nat), i < l.length → (actC l)[i * 3 + 1]? = some (.int .i64 (ak l i).2.1)
  | [], i, h => by simp at h
  | t :: r, 0, _ => rfl
  | t :: r, i + 1, h => by
    have := actC_get1 r i (by simpa using h)
    show (.int .i64 t.1 :: .int .i64 t.2.1 :: .int .i64 t.2.2 :: actC r)[(i + 1) * 3 + 1]? = _
    rw [show (i + 1) * 3 + 1 = i * 3 + 1 + 1 + 1 + 1 by omega, List.getElem?_cons_succ, List.getElem?_cons_succ, List.getElem?_cons_succ, this]
    rfl
theorem actC_get2 : ∀ (l : AL) (i : Nat), i < l.length → (actC l)[i * 3 + 2]? = some (.int .i64 (ak l i).2.2)
  | [], i, h => by simp at h
  | t :: r, 0, _ => rfl
  | t :: r, i + 1, h => by
    have := actC_get2 r i (by simpa using h)
    show (.int .i64 t.1 :: .int .i64 t.2.1 :: .int .i64 t.2.2 :: actC r)[(i + 1) * 3 + 2]? = _
    rw [show (i + 1) * 3 + 2 = i * 3 + 2 + 1 + 1 + 1 by omega, List.getElem?_cons_succ, List.getElem?_cons_succ, List.getElem?_cons_succ, this]
    rfl
theorem ak_app {l r : AL} {i : Nat} (h : i < l.length) : ak (l ++ r) i = ak l i := by
  unfold ak
  rw [List.getD_eq_getElem?_getD, List.getD_eq_getElem?_getD, List.getElem?_append_left h]
theorem act1 (l r : AL) (i : Nat) (h : i < l.length) : (actC (l ++ r))[0 + i * 3 + 1]? = some (.int .i64 (ak l i).2.1) := by
  rw [Nat.zero_add, actC_get1 _ _ (by rw [List.length_append]; omega), ak_app h]
theorem act2 (l r : AL) (i : Nat) (h : i < l.length) : (actC (l ++ r))[0 + i * 3 + 2]? = some (.int .i64 (ak l i).2.2) := by
  rw [Nat.zero_add, actC_get2 _ _ (by rw [List.length_append]; omega), ak_app h]
theorem T_ok (σ : Nat → Nat) (l : AL) (e : Nat) (ro : Bool) : (bif e.beq e && sameB ro ro then cellsP σ (actC l) (actC l) ∧ True else False) := by
  rw [Nat.beq_refl, sameB_self]
  exact ⟨cellsP_flat (actC_flat _) rfl, trivial⟩
theorem b_ok (n c : Nat) : (100 : Int) = 100 ∧ ((0 : Nat) = 0 ∧ n = n ∧ c = c ∧ false = false) ∧ True ∧ True := ⟨rfl, ⟨rfl, rfl, rfl, rfl⟩, trivial, trivial⟩
theorem n_ok : ((100 : Int) = 100 ∧ True ∧ True ∧ True) ∧ True := ⟨⟨rfl, trivial, trivial, trivial⟩, trivial⟩
theorem QP.of {most : Int} {c : Nat} {h g : TL} {m : MP} {hb mb eq : Nat} (q : QI most c h g m) (eh : Nat) (he : eh = eD) : QP ⟨most, hb, h.length, c, mb, eq, tC (h ++ g), eh, emap m⟩ := ⟨QR.mk' rfl, by dsimp only; rw [hOf_tC, gOf_tC, getM_emap]; exact q, he⟩
theorem need_else {b : Bool} {p q : Prop} (hb : b = false) (h : q) : cond b p q := by subst hb; exact h
theorem need_end {b : Bool} {p q : Prop} (hb : b = true) (h : p) : cond b p q := by subst hb; exact h
theorem srt_mem {h : TL} {t : Tm} : t ∈ srt h ↔ t ∈ h := (srt_perm h).mem_iff
theorem due_all {h : TL} {m : MP} (v : Inv h m) : dueL 253402300799 (srt h) = srt h := by
  have := (due_split (now := 253402300799) (out := srt h) (r := []) (fun t ht => (v.tm t (srt_mem.1 ht)).2) (.inl rfl)).1
  rwa [List.append_nil] at this
theorem dueR_all {h : TL} {m : MP} (v : Inv h m) : dueR 253402300799 (srt h) = [] := by
  have := (due_split (now := 253402300799) (out := srt h) (r := []) (fun t ht => (v.tm t (srt_mem.1 ht)).2) (.inl rfl)).2
  rwa [List.append_nil] at this
theorem tm_some {n a : Int} {l : TL} (h : tmOf n l = some a) : ∃ t : Tm, t ∈ l ∧ t.1 = n := by
  unfold tmOf at h
  cases hf : l.find? (fun t => decide (t.1 = n)) with
  | none => rw [hf] at h; cases h
  | some t => exact ⟨t, List.mem_of_find?_eq_some hf, by simpa using List.find?_some hf⟩
theorem tm_ins {h : TL} {n a : Int} {l : TL} (hd : Dn h) (hs : srt h = ins (n, a) l) (b : Int) : tmOf n (srt h) = some (if (0 : Int) = 0 then a else b) := by
  rw [if_pos rfl]
  exact tmOf_some (t := (n, a)) (srt_dn hd) (by rw [hs]; exact (ins_perm _ _).mem_iff.2 (by simp))
theorem nC_get {l : TL} {j : Nat} (h : j < l.length) : (nC l)[0 + j * 1]? = some (.int .i64 (pk l j).1) := by
  unfold nC
  rw [Nat.zero_add, Nat.mul_one, List.getElem?_map, List.getElem?_eq_getElem h, pk_get h]; rfl
theorem cntN_step {n : Int} {d : TL} {j : Nat} (h : j < d.length) : cntN n d (j + 1) = cntN n d j + if (pk d j).1 = n then 1 else 0 := by
  unfold cntN
  rw [List.take_succ_eq_append_getElem h, List.filter_append, List.length_append, pk_get h]
  congr 1
  by_cases e : d[j].1 = n
  · rw [List.filter_cons_of_pos (by simpa using e), if_pos e]; rfl
  · rw [List.filter_cons_of_neg (by simpa using e), if_neg e]; rfl
theorem cntN_le (n : Int) (d : TL) (j : Nat) : cntN n d j ≤ d.length := by
  unfold cntN
  exact Nat.le_trans (List.length_filter_le _ _) (List.length_take_le' _ _)
theorem cntN_one {n : Int} {d : TL} (hd : Dn d) {t : Tm} (hm : t ∈ d ∧ t.1 = n) : cntN n d d.length = 1 := by
  unfold cntN
  rw [List.take_length]
  obtain ⟨h1, rfl⟩ := hm
  induction d with
  | nil => cases h1
  | cons x r ih =>
    have hd' : x.1 ∉ r.map (·.1) ∧ Dn r := by
      unfold Dn at hd ⊢
      simpa only [List.map_cons, List.nodup_cons] using hd
    by_cases e : x.1 = t.1
    · rw [List.filter_cons_of_pos (by simpa using e), List.filter_eq_nil_iff.2]
      · rfl
      · intro y hy
        have : ¬ y.1 = t.1 := fun e2 => hd'.1 (List.mem_map.2 ⟨y, hy, e2.trans e.symm⟩)
        simpa using this
    · rw [List.filter_cons_of_neg (by simpa using e)]
      rcases List.mem_cons.1 h1 with rfl | h1
      · exact absurd rfl e
      · exact ih hd'.2 h1
theorem SC.ofN {V : VE} (hP : V.P.funcs.all (fun fn => !(fn.name == "runtime.NumGoroutine")) = true) (hm : V.P.follows .mixedOrders = true) (hS : SpecOk V.P V.sp) (hO : CallOk V.P V.orc) {md : List (Nat × DMode)} {k : Nat} {A : Anns} {hs : List (Nat × AV)} {f : FuncId} {args : List AV} {H : AH} {L : List Out} (h : HoldsN (vcF V md k A hs f args H L)) : SC V.P f args H (outE L) := SC.ofF hP hm hS hO h.h
end Go.Proofs.Ytainjcpocodehaa

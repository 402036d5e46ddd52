/- Package unsafe: pointers as unsafe.Pointer, strings over rows of bytes; new memory without zeros; a pointer and itself. -/
import Derived.Test.YtkgkbpfjdlnoeaaDoorVe8
import Derived.Lib.UnsafeStr
import Derived.Lib.Builder
import Derived.Lib.MakeNoZero
namespace Go.Ve
open Go Go.RowKit

section
variable {P : Program} {w0 : Base} {w : World} {φ : List Loc} {H : AH}

theorem own_shape (hr : Rel w0 φ H w) {b esz : Nat} {vs : List AV} {l : Loc} (hb : H[b]? = some (.cells vs esz false)) (hl : φ[b]? = some l) :
    ∃ e n, w.shape? l.blk = some (e, n) ∧ l.sh + vs.length ≤ n ∧ ∀ t, tyOf esz = some t → e = t ∧ l.sh % szOf esz = 0 := by
  obtain ⟨⟨_, c, e, fz, h2, h3, _, h6⟩, _⟩ := hr.blocks b _ l hb hl
  exact ⟨e, c.size, by simp [World.shape?, h2], by omega, h6⟩

theorem liesAt_row {e : TypeId} {s : Nat} (hs : s ≠ 0) (hc : P.cellsOf e = s) (count off n : Nat) (h0 : off % s = 0) (hn : off / s + n ≤ count) : liesAt P P.depth e count off e n = true := by
  have hd : P.depth = (2 * (P.types.size + Made.depth) + 1) + 1 := rfl
  rw [hd]
  simp only [liesAt, Bool.or_eq_true]
  left
  rw [hd]
  simp [rowAt, hc, hn, hs, h0, sameLayout]

def aptr (P : Program) (src dst : TypeId) (x : AV) (H : AH) : Option AV :=
  match P.underlying src, P.underlying dst, x with
  | some (.pointer _), some .unsafePointer, .nilptr => some .nilptr
  | some .unsafePointer, some (.pointer _), .nilptr => some .nilptr
  | some (.pointer t), some .unsafePointer, .ptr b off =>
    match P.info? t, H[b]? with
    | some j, some (.cells vs _ false) => if j.size ≠ 0 ∧ off < vs.length then some (.ptr b off) else none
    | _, _ => none
  | some .unsafePointer, some (.pointer u), .ptr b off =>
    match P.info? u, H[b]? with
    | some j, some (.cells vs esz false) => if tyOf esz = some u ∧ szOf esz = j.size ∧ j.size ≠ 0 ∧ off % j.size = 0 ∧ off + j.size ≤ vs.length then some (.ptr b off) else none
    | _, _ => none
  | _, _, _ => none
theorem aptr_ok (hr : Rel w0 φ H w) {src dst : TypeId} {x v : AV} {xu : Value} (h : aptr P src dst x H = some v) (hx : VR φ x xu) : ∃ u, VR φ v u ∧ (convert src dst xu).run P w = .ok u w := by
  unfold aptr at h
  split at h
  · rename_i t hs hd
    cases h; cases hx
    refine ⟨_, .nilptr, ?_⟩
    simp [convert, run_underlying hs, run_underlying hd, Conv.unsafePointer]
  · rename_i t hs hd
    cases h; cases hx
    refine ⟨_, .nilptr, ?_⟩
    simp [convert, run_underlying hs, run_underlying hd, Conv.unsafePointer]
  · rename_i t b off hs hd
    split at h
    · rename_i j vs esz hj hb
      split at h
      · rename_i hc
        cases h
        cases hx with
        | ptr hl =>
          rename_i l
          obtain ⟨e, n, h1, h2, _⟩ := own_shape hr hb hl
          exact ⟨_, .ptr hl, Lib.run_to_unsafe w ⟨l.blk, l.sh + off, none⟩ hs hd hj hc.1 h1 (by simp; omega)⟩
      · cases h
    · cases h
  · rename_i u b off hs hd
    split at h
    · rename_i j vs esz hj hb
      split at h
      · rename_i hc
        obtain ⟨c1, c2, c3, c4, c5⟩ := hc
        cases h
        cases hx with
        | ptr hl =>
          rename_i l
          obtain ⟨e, n, h1, h2, h3⟩ := own_shape hr hb hl
          obtain ⟨h4, h5⟩ := h3 _ c1
          subst h4
          have hcell : P.cellsOf e = j.size := by simp [Program.cellsOf, hj]
          rw [c2] at h5
          refine ⟨_, .ptr hl, Lib.run_from_unsafe w ⟨l.blk, l.sh + off, none⟩ hs hd hj h1 ?_⟩
          refine liesAt_row c3 hcell _ _ _ ?_ ?_
          · show (l.sh + off) % j.size = 0
            rw [Nat.add_mod, h5, c4]; simp
          · show (l.sh + off) / j.size + 1 ≤ n / P.cellsOf e
            rw [hcell]
            have hpos : 0 < j.size := Nat.pos_of_ne_zero c3
            have : (l.sh + off + j.size) / j.size ≤ n / j.size := Nat.div_le_div_right (by omega)
            rwa [Nat.add_div_right _ hpos] at this
      · cases h
    · cases h
  · cases h

theorem run_loadB : ∀ (ns : List Int) (a : Addr) (s : List UInt8), (∀ j n, ns[j]? = some n → w.cell? (a.add j) = some (.int .u8 n)) →
    (loadBytes a ⟨⟨s⟩⟩ ns.length).run P w = .ok ⟨⟨s ++ ns.map fun n => UInt8.ofNat n.toNat⟩⟩ w
  | [], a, s, _ => by simp [loadBytes]
  | n :: ns, a, s, h => by
    have h0 : w.cell? a = some (.int .u8 n) := by
      have := h 0 n rfl
      simpa [Addr.add] using this
    have ih := run_loadB ns (a.add 1) (s ++ [UInt8.ofNat n.toNat]) (fun j y hy => by
      have := h (j + 1) y (by simpa using hy)
      have e : (a.add 1).add j = a.add (j + 1) := by
        unfold Addr.add
        by_cases hj : j = 0
        · subst hj; simp
        · simp [hj]; omega
      rw [e]; exact this)
    have hp : ByteArray.push (⟨⟨s⟩⟩ : ByteArray) n.toNat.toUInt8 = ⟨⟨s ++ [UInt8.ofNat n.toNat]⟩⟩ := congrArg ByteArray.mk (by apply Array.toList_inj.1; simp)
    simp only [List.length_cons, loadBytes, Sem.run_bind, run_load, h0, Result.andThen, hp]
    rw [ih]
    simp

/-- Freezing: the block is given up. -/
theorem Rel.freeze (hr : Rel w0 φ H w) {b esz : Nat} {vs : List AV} {l : Loc} (hb : H[b]? = some (.cells vs esz false)) (hl : φ[b]? = some l) (off n : Nat) : Rel w0 φ (H.set b .dead) (w.freeze ⟨l.blk, off, none⟩ n) := by
  refine hr.upd (k := .cells vs esz false) hb rfl hl ?_ ?_ ?_ ?_ ?_ trivial
  all_goals unfold World.freeze
  · split <;> rfl
  · split <;> rfl
  · split <;> rfl
  · split
    · exact Nat.le_refl _
    · simp
  · intro j hj _
    split
    · rfl
    · simp only [Array.getElem?_modify]
      rw [if_neg (Ne.symm hj)]

def aunsafe (P : Program) (b : Builtin) (ts : List TypeId) (xs : List AV) (H : AH) : Option (AV × Option (AH × Nat)) :=
  match b, ts, xs with
  | .unsafeSliceData, [_], [.nilsl] => some (.nilptr, none)
  | .unsafeSliceData, [_], [.sl b off _ cap _] => if cap ≠ 0 then some (.ptr b off, none) else none
  | .unsafeString, [_, _], [.nilptr, .int .i64 n] => if n = 0 then some (.str [], none) else none
  | .unsafeString, [pt, _], [.ptr b off, .int .i64 n] =>
    if n = 0 then some (.str [], none)
    else
      match P.underlying pt, H[b]? with
      | some (.pointer e), some (.cells vs esz false) =>
        if 0 < n ∧ n ≤ 9223372036854775807 ∧ tyOf esz = some e ∧ P.cellsOf e = 1 ∧ off + n.toNat ≤ vs.length then
          match abytes ((vs.drop off).take n.toNat) with
          | some s => some (.str s, some (H.set b .dead, b))
          | none => none
        else none
      | _, _ => none
  | _, _, _ => none
theorem aunsafe_ok (hr : Rel w0 φ H w) {b : Builtin} {ts : List TypeId} {type : TypeId} {consts : Array Bool} {xs : List AV} {us : List Value} {v : AV} {ch : Option (AH × Nat)} (h : aunsafe P b ts xs H = some (v, ch)) (hx : VRs φ xs us) :
    ∃ u w' φ', (builtin b ts.toArray type consts us.toArray).run P w = .ok (.value u) w' ∧ Ext φ φ' ∧ VR φ' v u ∧ ChOk w0 w φ H φ' w' ch := by
  unfold aunsafe at h
  split at h
  · cases h
    cases hx with
    | cons hx hn =>
      cases hn; cases hx
      exact ⟨_, w, φ, by simp [builtin, Lib.run_unsafeSliceData_nil], Ext.refl _, .nilptr, rfl, rfl⟩
  · rename_i b off len cap ex
    split at h
    · rename_i hc
      cases h
      cases hx with
      | cons hx hn =>
        cases hn
        cases hx with
        | sl hl =>
          refine ⟨_, w, φ, ?_, Ext.refl _, .ptr hl, rfl, rfl⟩
          have := fun ts ty a n => Lib.run_unsafeSliceData_row (P := P) w ts ty a n (cap + if ex = true then 0 else (Loc.slk ‹Loc›)) (by omega)
          simp [builtin, this]
    · cases h
  · rename_i pt it n
    split at h
    · rename_i h0
      cases h; subst h0
      cases hx with
      | cons hx hn =>
        cases hn with
        | cons hi hn =>
          cases hn; cases hx; cases hi
          exact ⟨_, w, φ, by simp [builtin, Lib.run_unsafeString_none]; rfl, Ext.refl _, .str [], rfl, rfl⟩
    · cases h
  · rename_i pt it b off n
    cases hx with
    | cons hx hn =>
      cases hn with
      | cons hi hn =>
        cases hn; cases hi
        cases hx with
        | ptr hl =>
          rename_i l
          split at h
          · rename_i h0
            cases h; subst h0
            exact ⟨_, w, φ, by simp [builtin, Lib.run_unsafeString_none]; rfl, Ext.refl _, .str [], rfl, rfl⟩
          · rename_i h0
            split at h
            · rename_i e vs esz hp hb
              split at h
              · rename_i hc
                obtain ⟨c1, c2, c3, c4, c5⟩ := hc
                split at h
                · rename_i s hs
                  cases h
                  obtain ⟨e', m, g1, g2, g3⟩ := own_shape hr hb hl
                  obtain ⟨g4, g5⟩ := g3 _ c3
                  subst g4
                  obtain ⟨vals, h1, h2, h3⟩ := ((hr.blocks b _ l hb hl).cellsR).get off _ c5
                  obtain ⟨ns, h4, h5⟩ := abytes_ok hs h2
                  subst h4
                  have hlen : ns.length = n.toNat := by simpa using h1
                  have hload := run_loadB (P := P) (w := w) ns ⟨l.blk, l.sh + off, none⟩ [] (fun j x hj => by
                    rw [add_mk]
                    exact h3 j _ (by simp [hj]))
                  rw [hlen] at hload
                  have hlies : liesAt P P.depth e' (m / P.cellsOf e') (l.sh + off) e' n.toNat = true := liesAt_row (by decide) c4 _ _ _ (Nat.mod_one _) (by rw [c4]; simp; omega)
                  refine ⟨.string ⟨⟨s⟩⟩, w.freeze ⟨l.blk, l.sh + off, none⟩ n.toNat, φ, ?_, Ext.refl _, .str s, hr.freeze hb hl _ _, Keeps.set _ _ _⟩
                  have hdef : Builtin.unsafeString_ #[pt, it] type #[.pointer (some ⟨l.blk, l.sh + off, none⟩), .int .i64 n] =
                      (do
                        let n ← asInt (.int .i64 n)
                        if n < 0 then runtimePanic (.error "unsafe.String: len out of range")
                        if n > IntKind.i64.max then unsupported (.unsafePointer "String: a length above the largest int")
                        if n = 0 then pure (.string .empty)
                        else if ← variablesAt ⟨l.blk, l.sh + off, none⟩ (← elemOf pt) n.toNat then do
                          let s ← loadBytes ⟨l.blk, l.sh + off, none⟩ .empty n.toNat
                          freeze ⟨l.blk, l.sh + off, none⟩ n.toNat
                          pure (.string s)
                        else unsupported (.unsafePointer "String: not so many bytes at ptr")) := rfl
                  have hmax : IntKind.i64.max = 9223372036854775807 := rfl
                  have hneg : ¬ n < 0 := by omega
                  have h63 : ¬ (9223372036854775807 : Int) < n := by omega
                  have hemp : (ByteArray.empty) = (⟨⟨[]⟩⟩ : ByteArray) := rfl
                  have hfin : (Builtin.unsafeString_ #[pt, it] type #[.pointer (some ⟨l.blk, l.sh + off, none⟩), .int .i64 n]).run P w = .ok (.string ⟨⟨s⟩⟩) (w.freeze ⟨l.blk, l.sh + off, none⟩ n.toNat) := by
                    rw [hdef, hemp]
                    simp [asInt, asIntOf, hmax, h63, hneg, h0, variablesAt, g1, elemOf, run_underlying hp, hlies, hload, h5]
                  simp [builtin, hfin]
                · cases h
              · cases h
            · cases h
  · cases h
theorem aunsafe_keeps {b : Builtin} {ts : List TypeId} {xs : List AV} {v : AV} {H' : AH} {lo : Nat} (h : aunsafe P b ts xs H = some (v, some (H', lo))) : Keeps lo H H' := by
  unfold aunsafe at h
  (repeat' split at h) <;> first | (cases h; done) | (cases h; exact Keeps.set _ _ _)

/-! ### New memory of whatever bytes -/
def anoz (P : Program) (fn : Func) (args : List AV) (H : AH) : Option (AV × AH) :=
  if fn.body.isNone && fn.origin == "" && fn.name == "internal/bytealg.MakeNoZero" then
    match fn.resultTypes.toList, args with
    | [t], [.int .i64 n] =>
      match P.underlying t with
      | some (.slice e) => if 0 ≤ n ∧ n ≤ 281474976710656 then some (.sl H.length 0 n.toNat n.toNat false, H ++ [.cells (List.replicate n.toNat .bad) (btag P e 1) false]) else none
      | _ => none
    | _, _ => none
  else none
theorem nextNoneZ : Extern.allNextRows.lookup "internal/bytealg.MakeNoZero" = none := by kernel_rfl
theorem nextNoneE : Extern.allNextRows.lookup "" = none := by kernel_rfl
theorem genZ : Extern.allGenericRows.lookup "internal/bytealg.MakeNoZero" = none := by kernel_rfl
theorem typZ : Extern.allTypedRows.lookup "internal/bytealg.MakeNoZero" = some Extern.BytealgMakeNoZero.makeNoZero := by kernel_rfl
theorem anoz_ok (hr : Rel w0 φ H w) {f : FuncId} {fn : Func} (hf : P.funcs[f]? = some fn) {args : List AV} {us : List Value} {v : AV} {H' : AH} (h : anoz P fn args H = some (v, H')) (hv : VRs φ args us) :
    ∃ u w' φ', (callFunc f us.toArray).run P w = .ok (.value u) w' ∧ Ext φ φ' ∧ VR φ' v u ∧ Rel w0 φ' H' w' := by
  unfold anoz at h
  split at h
  · rename_i hb
    simp only [Bool.and_eq_true, beq_iff_eq] at hb
    obtain ⟨⟨hb1, hb2⟩, hb3⟩ := hb
    split at h
    · rename_i t n ht
      split at h
      · rename_i e hu
        split at h
        · rename_i hn
          cases h
          cases hv with
          | cons h1 h2 =>
            cases h1; cases h2
            obtain ⟨m, rfl⟩ : ∃ m : Nat, n = (m : Int) := ⟨n.toNat, by omega⟩
            have hrt : fn.resultTypes = #[t] := by apply Array.toList_inj.1; rw [ht]
            obtain ⟨cs, g1, g2, _⟩ := Lib.run_makeNoZero (P := P) w fn.params t e hu m (by omega)
            have hsp : cs = (cs.toList.take m).toArray ++ (cs.toList.drop m).toArray := by apply Array.toList_inj.1; simp
            have hlen : cs.toList.length = cs.size := by simp
            have hd : Rel w0 φ H w.drew.drew := (hr.drew').drew'
            have hall : VRs φ (List.replicate m AV.bad) ((cs.toList.take m).toArray).toList := by
              refine VRs.of_get (by simp; omega) (fun j v u hj _ => ?_)
              have := List.mem_of_getElem? hj
              rw [(List.mem_replicate.1 this).2]
              exact .bad u
            have hnew := hd.newCells e hall (btag P e 1) (cs.size - m) (cs.toList.drop m).toArray (by rw [szOf_btag (by omega)]; simp) (fun t h => (tyOf_btag (by omega) h).1)
            rw [← hsp] at hnew
            have hsl := newSl (φ := φ) (H := H) hr.len ⟨w.heap.size, 0, cs.size - m⟩ m m
            simp only at hsl
            rw [show m + (cs.size - m) = cs.size by omega] at hsl
            refine ⟨_, _, φ ++ [⟨w.heap.size, 0, cs.size - m⟩], ?_, Ext.snoc _ _, by simpa using hsl, by simpa using hnew⟩
            have hg := g1
            rw [← hrt] at hg
            simp [callFunc, hf, hb2, hb3, Option.isNone_iff_eq_none.1 hb1, Extern.findNext, Extern.find, nextNoneZ, nextNoneE, genZ, typZ, hg]
            rfl
        · cases h
      · cases h
    · cases h
  · cases h
theorem anoz_keeps {fn : Func} {args : List AV} {v : AV} {H' : AH} (h : anoz P fn args H = some (v, H')) : Keeps H.length H H' := by
  unfold anoz at h
  (repeat' split at h) <;> first | (cases h; done) | (cases h; exact Keeps.append _ _ _)

/-! ### A pointer and itself -/
def aptrEq (P : Program) (op : BinOp) (t : TypeId) (x y : AV) : Option Bool :=
  match P.underlying t, x, y with
  | some (.pointer e), .ptr b off, .ptr b' off' =>
    if b = b' ∧ off = off' ∧ (P.info? e).isSome = true then
      match op with
      | .eql => some true
      | .neq => some false
      | _ => none
    else none
  | _, _, _ => none
theorem aptrEq_ok {op : BinOp} {t : TypeId} {xo yo : Operand} {x y : AV} {xu yu : Value} {r : Bool} (h : aptrEq P op t x y = some r) (hx : VR φ x xu) (hy : VR φ y yu) :
    ((do eqGuard op t xo yo xu yu; binOp op t xu yu : Sem Value)).run P w = .ok (.bool r) w := by
  unfold aptrEq at h
  split at h
  · rename_i e b off b' off' hu
    split at h
    · rename_i hc
      obtain ⟨rfl, rfl, hi⟩ := hc
      obtain ⟨j, hj⟩ := Option.isSome_iff_exists.1 hi
      cases hx with
      | ptr h1 =>
        rename_i l
        cases hy with
        | ptr h2 =>
          rw [h1] at h2; cases h2
          have heq : ∀ d : Nat, (Op.equalIn (d + 1) t (.pointer (some ⟨l.blk, l.sh + off, none⟩)) (.pointer (some ⟨l.blk, l.sh + off, none⟩))).run P w = .ok true w := fun d => by
            simp [Op.equalIn, run_underlying hu, sizeOf, typeInfo, hj, run_sameAddr_same]
          split at h
          · cases h
            have hg : (eqGuard .eql t xo yo (.pointer (some ⟨l.blk, l.sh + off, none⟩)) (.pointer (some ⟨l.blk, l.sh + off, none⟩))).run P w = .ok () w := rfl
            simp only [Sem.run_bind, hg, Result.andThen_ok]
            simp only [binOp]
            simp [Op.equal, Op.maxDepth, heq 9999]
          · cases h
            have hg : (eqGuard .neq t xo yo (.pointer (some ⟨l.blk, l.sh + off, none⟩)) (.pointer (some ⟨l.blk, l.sh + off, none⟩))).run P w = .ok () w := rfl
            simp only [Sem.run_bind, hg, Result.andThen_ok]
            simp only [binOp]
            simp [Op.equal, Op.maxDepth, heq 9999]
          · cases h
    · cases h
  · cases h
end
end Go.Ve

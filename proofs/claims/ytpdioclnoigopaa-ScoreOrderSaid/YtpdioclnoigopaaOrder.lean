/- The law of order: the paths joined. -/
import Derived.Test.YtpdioclnoigopaaWalk1
import Derived.Test.YtpdioclnoigopaaWalk2
import Derived.Test.YtpdioclnoigopaaWalk3
import Derived.Test.YtpdioclnoigopaaWalk4
namespace Go.Proofs.Ytpdioclnoigopaa
open Go Go.Ve

theorem cmpv_le {x y : Int} : cmpv x y ≤ 0 ↔ x ≤ y := by
  unfold cmpv; split
  · omega
  · split <;> omega
theorem cmpv_lt {x y : Int} : cmpv x y < 0 ↔ x < y := by
  unfold cmpv; split
  · omega
  · split <;> omega
theorem cmpv_ge {x y : Int} : cmpv x y ≥ 0 ↔ y ≤ x := by
  unfold cmpv; split
  · omega
  · split <;> omega
theorem cmpv_eq {x y : Int} : cmpv x y = 0 ↔ x = y := by
  unfold cmpv; split
  · omega
  · split <;> omega
theorem wrap_cmpv (x y : Int) : IntKind.i64.wrap (0 - cmpv x y) = cmpv y x := by
  unfold cmpv
  rcases Int.lt_trichotomy x y with h | h | h
  · rw [if_pos h, if_neg (by omega), if_pos h]; decide
  · subst h; rw [if_neg (by omega), if_neg (by omega)]; decide
  · rw [if_neg (by omega), if_pos h, if_pos h]; decide
theorem rk_inj {a b : Nat} (ha : a < 2 ^ 64) (hb : b < 2 ^ 64) : rk a = rk b ↔ (a : Int) = (b : Int) := by
  unfold rk; split <;> split <;> omega
theorem rk_mb {b : Nat} (hb : b < 2 ^ 64) : rk (mb b) = 2 ^ 64 - 1 - rk b := by
  unfold rk mb; split <;> split <;> omega
theorem cmpv_mb {a b : Nat} (ha : a < 2 ^ 64) (hb : b < 2 ^ 64) : cmpv (rk (mb a)) (rk (mb b)) = cmpv (rk b) (rk a) := by
  rw [rk_mb ha, rk_mb hb]
  unfold cmpv
  rcases Int.lt_trichotomy (rk b) (rk a) with h | h | h
  · rw [if_pos (by omega), if_pos h]
  · rw [if_neg (by omega), if_neg (by omega), if_neg (by omega), if_neg (by omega)]
  · rw [if_neg (by omega), if_pos (by omega), if_neg (by omega), if_pos h]
theorem bne_false_of {α : Type} [BEq α] [LawfulBEq α] {x y : α} (h : x = y) : (x != y) = false := by subst h; simp

theorem order_law (a b c : Nat) (ha : a < 2 ^ 64) (hb : b < 2 ^ 64) (hc : c < 2 ^ 64) : CW env 3 [.float .f64 a, .float .f64 b, .float .f64 c] [] fun v ch => v = .bool true ∧ ch = none := by
  have f1 : ((cmpv (rk a) (rk b)) != IntKind.i64.wrap (0 - cmpv (rk b) (rk a))) = false := bne_false_of (wrap_cmpv _ _).symm
  have f2 : (((cmpv (rk a) (rk b)) == 0) != ((a : Int) == (b : Int))) = false := bne_false_of (by
    rw [Bool.eq_iff_iff, beq_iff_eq, beq_iff_eq, cmpv_eq]
    exact rk_inj ha hb)
  have f9 : (cmpv (rk (mb a)) (rk (mb b)) == IntKind.i64.wrap (0 - (cmpv (rk a) (rk b)))) = true := by rw [wrap_cmpv, cmpv_mb ha hb]; simp
  have xyz : decide ((cmpv (rk a) (rk b)) ≤ 0) = false ∨ (decide ((cmpv (rk a) (rk b)) ≤ 0) = true ∧ decide ((cmpv (rk b) (rk c)) ≤ 0) = false) ∨ (decide ((cmpv (rk a) (rk b)) ≤ 0) = true ∧ decide ((cmpv (rk b) (rk c)) ≤ 0) = true ∧ decide ((cmpv (rk a) (rk c)) > 0) = false) := by
    by_cases h1 : (cmpv (rk a) (rk b)) ≤ 0
    · by_cases h2 : (cmpv (rk b) (rk c)) ≤ 0
      · refine .inr (.inr ⟨decide_eq_true h1, decide_eq_true h2, decide_eq_false ?_⟩)
        have h1 := cmpv_le.1 h1
        have h2 := cmpv_le.1 h2
        have := (cmpv_le (x := rk a) (y := rk c)).2 (by omega)
        omega
      · exact .inr (.inl ⟨decide_eq_true h1, decide_eq_false h2⟩)
    · exact .inl (decide_eq_false h1)
  have sa := self_eq ha
  have sb := self_eq hb
  have bne (x y : Nat) (o : Option Ordering) : (Ieee.double.order x y != o) = !(Ieee.double.order x y == o) := rfl
  cases na : isN a
  · rw [na] at sa
    have a1 : (Ieee.double.order a a == some .eq) = true := sa
    have a2 : (Ieee.double.order a a != some .eq) = false := by rw [bne, a1]; rfl
    cases nb : isN b
    · rw [nb] at sb
      have b1 : (Ieee.double.order b b == some .eq) = true := sb
      have za := zero_ne ha na
      have zb := zero_ne hb nb
      by_cases h1 : rung a = 0
      · have a3 : (Ieee.double.order a 0 != some .eq) = false := by rw [za, h1]; rfl
        rcases xyz with x1 | ⟨x1, y1⟩ | ⟨x1, y1, z1⟩
        · exact walk_za0 a b c ha hb hc f1 f2 f9 x1 a1 a2 b1 a3
        · exact walk_za1 a b c ha hb hc f1 f2 f9 x1 y1 a1 a2 b1 a3
        · exact walk_za2 a b c ha hb hc f1 f2 f9 x1 y1 z1 a1 a2 b1 a3
      · have a3 : (Ieee.double.order a 0 != some .eq) = true := by rw [za]; exact decide_eq_true h1
        by_cases h2 : rung b = 0
        · have b3 : (Ieee.double.order b 0 != some .eq) = false := by rw [zb, h2]; rfl
          rcases xyz with x1 | ⟨x1, y1⟩ | ⟨x1, y1, z1⟩
          · exact walk_zb0 a b c ha hb hc f1 f2 f9 x1 a1 a2 b1 a3 b3
          · exact walk_zb1 a b c ha hb hc f1 f2 f9 x1 y1 a1 a2 b1 a3 b3
          · exact walk_zb2 a b c ha hb hc f1 f2 f9 x1 y1 z1 a1 a2 b1 a3 b3
        · have b3 : (Ieee.double.order b 0 != some .eq) = true := by rw [zb]; exact decide_eq_true h2
          have l1 : (decide ((cmpv (rk a) (rk b)) < 0) != (Ieee.double.order a b == some .lt)) = false := bne_false_of (by
            rw [lss_rk ha hb na nb h1 h2, decide_eq_decide]
            exact cmpv_lt)
          rcases xyz with x1 | ⟨x1, y1⟩ | ⟨x1, y1, z1⟩
          · exact walk_nn0 a b c ha hb hc f1 f2 f9 x1 a1 a2 b1 a3 b3 l1
          · exact walk_nn1 a b c ha hb hc f1 f2 f9 x1 y1 a1 a2 b1 a3 b3 l1
          · exact walk_nn2 a b c ha hb hc f1 f2 f9 x1 y1 z1 a1 a2 b1 a3 b3 l1
    · rw [nb] at sb
      have b1 : (Ieee.double.order b b == some .eq) = false := sb
      rcases xyz with x1 | ⟨x1, y1⟩ | ⟨x1, y1, z1⟩
      · exact walk_nb0 a b c ha hb hc f1 f2 f9 x1 a1 a2 b1
      · exact walk_nb1 a b c ha hb hc f1 f2 f9 x1 y1 a1 a2 b1
      · exact walk_nb2 a b c ha hb hc f1 f2 f9 x1 y1 z1 a1 a2 b1
  · rw [na] at sa
    have a1 : (Ieee.double.order a a == some .eq) = false := sa
    have a2 : (Ieee.double.order a a != some .eq) = true := by rw [bne, a1]; rfl
    have na' := of_decide_eq_true na
    unfold rung at na'
    rcases Nat.lt_or_ge a (2 ^ 63) with hs | hs
    · rw [if_pos hs] at na'
      cases nb : isN b
      · rw [nb] at sb
        have b1 : (Ieee.double.order b b == some .eq) = true := sb
        have nb' := of_decide_eq_false nb
        unfold rung at nb'
        have x1 : decide ((cmpv (rk a) (rk b)) ≤ 0) = false := decide_eq_false fun h => by
          have h := cmpv_le.1 h
          unfold rk at h
          rw [if_pos hs] at h
          split at h
          · rename_i h2
            rw [if_pos h2] at nb'
            omega
          · omega
        exact walk_pp0 a b c ha hb hc hs f1 f2 f9 x1 a1 a2 b1
      · rw [nb] at sb
        have b1 : (Ieee.double.order b b == some .eq) = false := sb
        rcases xyz with x1 | ⟨x1, y1⟩ | ⟨x1, y1, z1⟩
        · exact walk_pn0 a b c ha hb hc hs f1 f2 f9 x1 a1 a2 b1
        · exact walk_pn1 a b c ha hb hc hs f1 f2 f9 x1 y1 a1 a2 b1
        · exact walk_pn2 a b c ha hb hc hs f1 f2 f9 x1 y1 z1 a1 a2 b1
    · rw [if_neg (by omega)] at na'
      cases nb : isN b
      · rw [nb] at sb
        have b1 : (Ieee.double.order b b == some .eq) = true := sb
        have nb' := of_decide_eq_false nb
        unfold rung at nb'
        have xg : decide ((cmpv (rk a) (rk b)) ≥ 0) = false := decide_eq_false fun h => by
          have h := cmpv_ge.1 h
          unfold rk at h
          rw [if_neg (show ¬ a < 2 ^ 63 by omega)] at h
          split at h
          · omega
          · rename_i h2
            rw [if_neg h2] at nb'
            omega
        rcases xyz with x1 | ⟨x1, y1⟩ | ⟨x1, y1, z1⟩
        · exact walk_qp0 a b c ha hb hc hs f1 f2 f9 x1 a1 a2 b1 xg
        · exact walk_qp1 a b c ha hb hc hs f1 f2 f9 x1 y1 a1 a2 b1 xg
        · exact walk_qp2 a b c ha hb hc hs f1 f2 f9 x1 y1 z1 a1 a2 b1 xg
      · rw [nb] at sb
        have b1 : (Ieee.double.order b b == some .eq) = false := sb
        rcases xyz with x1 | ⟨x1, y1⟩ | ⟨x1, y1, z1⟩
        · exact walk_qn0 a b c ha hb hc hs f1 f2 f9 x1 a1 a2 b1
        · exact walk_qn1 a b c ha hb hc hs f1 f2 f9 x1 y1 a1 a2 b1
        · exact walk_qn2 a b c ha hb hc hs f1 f2 f9 x1 y1 z1 a1 a2 b1
end Go.Proofs.Ytpdioclnoigopaa

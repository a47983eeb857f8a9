/-
  PROVED HERE: what the text of the law FnExactPlaceInsets does: it returns true and turns nothing that was there. Conditions: the walk's own.
-/
import Derived.Test.YtoeaaoceicjmdaaInsetC
import Derived.Test.YtoeaaoceicjmdaaInsetO
import Derived.Test.YtoeaaoceicjmdaaIntO
import Derived.Test.YtoeaaoceicjmdaaToInt
import Derived.Test.YtoeaaoceicjmdaaRows2
import Derived.Test.YtoeaaoceicjmdaaPlaceP
namespace Go.Proofs.Ytoeaaoceicjmdaa
open Go.RowKit

theorem blk_apart {vY vX : Value} {a b c d : Nat} (hY : ∀ k, vY.ownBlock = some k → a ≤ k ∧ k < b) (hX : ∀ k, vX.ownBlock = some k → c ≤ k ∧ k < d) (h : b ≤ c ∨ d ≤ a) : vY.ownBlock = none ∨ vY.ownBlock ≠ vX.ownBlock := by
  cases e : vY.ownBlock with
  | none => exact .inl rfl
  | some k =>
    right
    intro e2
    have h1 := hY k e
    have h2 := hX k e2.symm
    omega

set_option maxHeartbeats 8000000 in
theorem fnExactPlaceInsets_walk (w : World) (a : Option Addr) (n cap : Nat) (xs : List DInset) (hl : xs.length = n) (h : SRow 2 encInset w (.slice a n cap) xs) (a' : Option Addr) (n' cap' : Nat) (rs : List Int) (hl' : rs.length = n') (hr : IRow w (.slice a' n' cap') rs) :
    Calls Try.prog 5 #[.slice a n cap, .slice a' n' cap'] w (Ret (.bool true) w) := by
  subst hl hl'
  have hlen := h.len
  have hrlen : rs.length ≤ 9223372036854775807 := by obtain ⟨_, _, _, h, _⟩ := hr; exact h
  by_cases hbr : rs.length ≤ 1048576
  · by_cases hbig : xs.length ≤ 1048576
    · obtain ⟨ys, hys⟩ : ∃ ys, ys = placeXs xs rs := ⟨_, rfl⟩
      obtain ⟨bt, hbt⟩ : ∃ b, b = placeB xs rs := ⟨_, rfl⟩
      have S1 := fun v u w (h : SRow 2 encInset w v xs) (hr : IRow w u rs) (hn : NilOk u) => (hys ▸ hbt ▸ specPlace_any v u xs rs w h hr hn hbr : Calls Try.prog 17 #[v, u] w (PlacePost ys bt w))
      have S2 := fun v u w (h : SRow 2 encInset w v xs) (hr : IRow w u rs) => (hys ▸ hbt ▸ implPlace_any v u xs rs w h hr : Calls Try.prog 19 #[v, u] w (PlacePost ys bt w))
      have hyl : ys.length ≤ 1048576 := by rw [hys]; exact Nat.le_trans (placeXs_len xs rs) (by omega)
      have HSP := Lib.hid S1
      have HIM := Lib.hid S2
      clear hys hbt S1 S2
      go_enter Try.func5, Try.ntmps5
      go_wp2_with fail
      refine (szInsetS_any _ _ _ _ _ hlen (by omega) (by omega)).mono ?_
      rintro e w' ⟨rfl, rfl⟩
      rw [if_neg (by omega)]
      have B0 : Below w.heap.size w w := Below.refl _ _
      have p_a0 := h
      have p_a1 := hr
      go_wp2_with fail
      refine (toInsetS_any (.slice a xs.length cap) xs w p_a0 (by omega)).mono ?_
      rintro e w1 ⟨vc0, rfl, o_c0_1, b1⟩
      have K_c0 := o_c0_1.lt
      have S1 : w.heap.size ≤ w1.heap.size := b1.size
      have B1 := below_next B0 b1 (Nat.le_refl _)
      have r_a0_1 := p_a0.below b1
      have r_a1_1 := p_a1.below b1
      clear b1 B0 
      have r_c0_1 := SRow.of_owns (xs := xs) encInset_len rfl o_c0_1
      go_wp2_with fail
      refine (toIntS_any (.slice a' rs.length cap') rs w1 r_a1_1 (by omega)).mono ?_
      rintro e w2 ⟨vc1, rfl, o_c1_2, b2⟩
      have K_c1 := o_c1_2.lt
      have S2 : w1.heap.size ≤ w2.heap.size := b2.size
      have B2 := below_next B1 b2 (Nat.le_refl _)
      have r_a0_2 := r_a0_1.below b2
      have r_a1_2 := r_a1_1.below b2
      have r_c0_2 := r_c0_1.below b2
      have o_c0_2 := owns_below o_c0_1 b2
      clear b2 B1 r_a0_1 r_a1_1 r_c0_1 o_c0_1
      have r_c1_2 := IRow.of_owns (xs := rs) (n := rs.length) o_c1_2
      go_wp2_with fail
      refine (HSP.out vc0 vc1 w2 r_c0_2 r_c1_2 (NilOk.of_owns o_c1_2)).mono ?_
      rintro e w3 ⟨vs, rfl, o_s_3, b3⟩
      have K_s := o_s_3.lt
      have S3 : w2.heap.size ≤ w3.heap.size := b3.size
      have B3 := below_next B2 b3 (Nat.le_refl _)
      have r_a0_3 := r_a0_2.below b3
      have r_a1_3 := r_a1_2.below b3
      have r_c0_3 := r_c0_2.below b3
      have o_c0_3 := owns_below o_c0_2 b3
      have r_c1_3 := r_c1_2.below b3
      have o_c1_3 := owns_below o_c1_2 b3
      clear b3 B2 r_a0_2 r_a1_2 r_c0_2 o_c0_2 r_c1_2 o_c1_2
      have r_s_3 := IRow.of_owns (xs := ys) (n := ys.length) o_s_3
      go_wp2_with fail
      refine (toInsetS_any (.slice a xs.length cap) xs w3 r_a0_3 (by omega)).mono ?_
      rintro e w4 ⟨vx0, rfl, o_x0_4, b4⟩
      have K_x0 := o_x0_4.lt
      have S4 : w3.heap.size ≤ w4.heap.size := b4.size
      have B4 := below_next B3 b4 (Nat.le_refl _)
      have r_a0_4 := r_a0_3.below b4
      have r_a1_4 := r_a1_3.below b4
      have r_c0_4 := r_c0_3.below b4
      have o_c0_4 := owns_below o_c0_3 b4
      have r_c1_4 := r_c1_3.below b4
      have o_c1_4 := owns_below o_c1_3 b4
      have r_s_4 := r_s_3.below b4
      have o_s_4 := owns_below o_s_3 b4
      clear b4 B3 r_a0_3 r_a1_3 r_c0_3 o_c0_3 r_c1_3 o_c1_3 r_s_3 o_s_3
      have r_x0_4 := SRow.of_owns (xs := xs) encInset_len rfl o_x0_4
      go_wp2_with fail
      refine (toIntS_any (.slice a' rs.length cap') rs w4 r_a1_4 (by omega)).mono ?_
      rintro e w5 ⟨vx1, rfl, o_x1_5, b5⟩
      have K_x1 := o_x1_5.lt
      have S5 : w4.heap.size ≤ w5.heap.size := b5.size
      have B5 := below_next B4 b5 (Nat.le_refl _)
      have r_a0_5 := r_a0_4.below b5
      have r_a1_5 := r_a1_4.below b5
      have r_c0_5 := r_c0_4.below b5
      have o_c0_5 := owns_below o_c0_4 b5
      have r_c1_5 := r_c1_4.below b5
      have o_c1_5 := owns_below o_c1_4 b5
      have r_s_5 := r_s_4.below b5
      have o_s_5 := owns_below o_s_4 b5
      have r_x0_5 := r_x0_4.below b5
      have o_x0_5 := owns_below o_x0_4 b5
      clear b5 B4 r_a0_4 r_a1_4 r_c0_4 o_c0_4 r_c1_4 o_c1_4 r_s_4 o_s_4 r_x0_4 o_x0_4
      have r_x1_5 := IRow.of_owns (xs := rs) (n := rs.length) o_x1_5
      go_wp2_with fail
      refine (HIM.out vx0 vx1 w5 r_x0_5 r_x1_5).mono ?_
      rintro e w6 ⟨vg, rfl, o_g_6, b6⟩
      have K_g := o_g_6.lt
      have S6 : w5.heap.size ≤ w6.heap.size := b6.size
      have B6 := below_next B5 b6 (Nat.le_refl _)
      have r_a0_6 := r_a0_5.below b6
      have r_a1_6 := r_a1_5.below b6
      have r_c0_6 := r_c0_5.below b6
      have o_c0_6 := owns_below o_c0_5 b6
      have r_c1_6 := r_c1_5.below b6
      have o_c1_6 := owns_below o_c1_5 b6
      have r_s_6 := r_s_5.below b6
      have o_s_6 := owns_below o_s_5 b6
      have r_x0_6 := r_x0_5.below b6
      have o_x0_6 := owns_below o_x0_5 b6
      have r_x1_6 := r_x1_5.below b6
      have o_x1_6 := owns_below o_x1_5 b6
      clear b6 B5 r_a0_5 r_a1_5 r_c0_5 o_c0_5 r_c1_5 o_c1_5 r_s_5 o_s_5 r_x0_5 o_x0_5 r_x1_5 o_x1_5
      have r_g_6 := IRow.of_owns (xs := ys) (n := ys.length) o_g_6
      go_wp2_with fail
      refine (eqIntS_any vg vs ys w6 r_g_6 r_s_6).mono ?_
      rintro e w7 ⟨rfl, b7⟩
      have S7 : w6.heap.size ≤ w7.heap.size := b7.size
      have B7 := below_next B6 b7 (Nat.le_refl _)
      have r_a0_7 := r_a0_6.below b7
      have r_a1_7 := r_a1_6.below b7
      have r_c0_7 := r_c0_6.below b7
      have o_c0_7 := owns_below o_c0_6 b7
      have r_c1_7 := r_c1_6.below b7
      have o_c1_7 := owns_below o_c1_6 b7
      have r_s_7 := r_s_6.below b7
      have o_s_7 := owns_below o_s_6 b7
      have r_x0_7 := r_x0_6.below b7
      have o_x0_7 := owns_below o_x0_6 b7
      have r_x1_7 := r_x1_6.below b7
      have o_x1_7 := owns_below o_x1_6 b7
      have r_g_7 := r_g_6.below b7
      have o_g_7 := owns_below o_g_6 b7
      clear b7 B6 r_a0_6 r_a1_6 r_c0_6 o_c0_6 r_c1_6 o_c1_6 r_s_6 o_s_6 r_x0_6 o_x0_6 r_x1_6 o_x1_6 r_g_6 o_g_6
      go_wp2_with fail
      refine (toInsetS_any (.slice a xs.length cap) xs w7 r_a0_7 (by omega)).mono ?_
      rintro e w8 ⟨vd0, rfl, o_d0_8, b8⟩
      have K_d0 := o_d0_8.lt
      have S8 : w7.heap.size ≤ w8.heap.size := b8.size
      have B8 := below_next B7 b8 (Nat.le_refl _)
      have r_a0_8 := r_a0_7.below b8
      have r_a1_8 := r_a1_7.below b8
      have r_c0_8 := r_c0_7.below b8
      have o_c0_8 := owns_below o_c0_7 b8
      have r_c1_8 := r_c1_7.below b8
      have o_c1_8 := owns_below o_c1_7 b8
      have r_s_8 := r_s_7.below b8
      have o_s_8 := owns_below o_s_7 b8
      have r_x0_8 := r_x0_7.below b8
      have o_x0_8 := owns_below o_x0_7 b8
      have r_x1_8 := r_x1_7.below b8
      have o_x1_8 := owns_below o_x1_7 b8
      have r_g_8 := r_g_7.below b8
      have o_g_8 := owns_below o_g_7 b8
      clear b8 B7 r_a0_7 r_a1_7 r_c0_7 o_c0_7 r_c1_7 o_c1_7 r_s_7 o_s_7 r_x0_7 o_x0_7 r_x1_7 o_x1_7 r_g_7 o_g_7
      have r_d0_8 := SRow.of_owns (xs := xs) encInset_len rfl o_d0_8
      go_wp2_with fail
      refine (eqInsetS_any vx0 vd0 xs w8 r_x0_8 r_d0_8).mono ?_
      rintro e w9 ⟨rfl, b9⟩
      have S9 : w8.heap.size ≤ w9.heap.size := b9.size
      have B9 := below_next B8 b9 (Nat.le_refl _)
      have r_a0_9 := r_a0_8.below b9
      have r_a1_9 := r_a1_8.below b9
      have r_c0_9 := r_c0_8.below b9
      have o_c0_9 := owns_below o_c0_8 b9
      have r_c1_9 := r_c1_8.below b9
      have o_c1_9 := owns_below o_c1_8 b9
      have r_s_9 := r_s_8.below b9
      have o_s_9 := owns_below o_s_8 b9
      have r_x0_9 := r_x0_8.below b9
      have o_x0_9 := owns_below o_x0_8 b9
      have r_x1_9 := r_x1_8.below b9
      have o_x1_9 := owns_below o_x1_8 b9
      have r_g_9 := r_g_8.below b9
      have o_g_9 := owns_below o_g_8 b9
      have r_d0_9 := r_d0_8.below b9
      have o_d0_9 := owns_below o_d0_8 b9
      clear b9 B8 r_a0_8 r_a1_8 r_c0_8 o_c0_8 r_c1_8 o_c1_8 r_s_8 o_s_8 r_x0_8 o_x0_8 r_x1_8 o_x1_8 r_g_8 o_g_8 r_d0_8 o_d0_8
      go_wp2_with fail
      refine (toIntS_any (.slice a' rs.length cap') rs w9 r_a1_9 (by omega)).mono ?_
      rintro e w10 ⟨vd1, rfl, o_d1_10, b10⟩
      have K_d1 := o_d1_10.lt
      have S10 : w9.heap.size ≤ w10.heap.size := b10.size
      have B10 := below_next B9 b10 (Nat.le_refl _)
      have r_a0_10 := r_a0_9.below b10
      have r_a1_10 := r_a1_9.below b10
      have r_c0_10 := r_c0_9.below b10
      have o_c0_10 := owns_below o_c0_9 b10
      have r_c1_10 := r_c1_9.below b10
      have o_c1_10 := owns_below o_c1_9 b10
      have r_s_10 := r_s_9.below b10
      have o_s_10 := owns_below o_s_9 b10
      have r_x0_10 := r_x0_9.below b10
      have o_x0_10 := owns_below o_x0_9 b10
      have r_x1_10 := r_x1_9.below b10
      have o_x1_10 := owns_below o_x1_9 b10
      have r_g_10 := r_g_9.below b10
      have o_g_10 := owns_below o_g_9 b10
      have r_d0_10 := r_d0_9.below b10
      have o_d0_10 := owns_below o_d0_9 b10
      clear b10 B9 r_a0_9 r_a1_9 r_c0_9 o_c0_9 r_c1_9 o_c1_9 r_s_9 o_s_9 r_x0_9 o_x0_9 r_x1_9 o_x1_9 r_g_9 o_g_9 r_d0_9 o_d0_9
      have r_d1_10 := IRow.of_owns (xs := rs) (n := rs.length) o_d1_10
      go_wp2_with fail
      refine (eqIntS_any vx1 vd1 rs w10 r_x1_10 r_d1_10).mono ?_
      rintro e w11 ⟨rfl, b11⟩
      have S11 : w10.heap.size ≤ w11.heap.size := b11.size
      have B11 := below_next B10 b11 (Nat.le_refl _)
      have r_a0_11 := r_a0_10.below b11
      have r_a1_11 := r_a1_10.below b11
      have r_c0_11 := r_c0_10.below b11
      have o_c0_11 := owns_below o_c0_10 b11
      have r_c1_11 := r_c1_10.below b11
      have o_c1_11 := owns_below o_c1_10 b11
      have r_s_11 := r_s_10.below b11
      have o_s_11 := owns_below o_s_10 b11
      have r_x0_11 := r_x0_10.below b11
      have o_x0_11 := owns_below o_x0_10 b11
      have r_x1_11 := r_x1_10.below b11
      have o_x1_11 := owns_below o_x1_10 b11
      have r_g_11 := r_g_10.below b11
      have o_g_11 := owns_below o_g_10 b11
      have r_d0_11 := r_d0_10.below b11
      have o_d0_11 := owns_below o_d0_10 b11
      have r_d1_11 := r_d1_10.below b11
      have o_d1_11 := owns_below o_d1_10 b11
      clear b11 B10 r_a0_10 r_a1_10 r_c0_10 o_c0_10 r_c1_10 o_c1_10 r_s_10 o_s_10 r_x0_10 o_x0_10 r_x1_10 o_x1_10 r_g_10 o_g_10 r_d0_10 o_d0_10 r_d1_10 o_d1_10
      go_wp2_with fail
      refine (markInsetS_any vx0 xs (1) _ w11 o_x0_11 (by omega) (by omega) (by omega)).mono ?_
      rintro e w12 ⟨rfl, o_x0_12, g12⟩
      have S12 : w11.heap.size ≤ w12.heap.size := g12.size
      have B12 := below_grown B11 g12 o_x0_11 (by omega) (Nat.le_refl _)
      have r_a0_12 := p_a0.below B12
      have r_a1_12 := p_a1.below B12
      have o_c0_12 := o_c0_11.kept g12 (blk_apart K_c0 K_x0 (by omega))
      have r_c0_12 := SRow.of_owns (xs := xs) encInset_len rfl o_c0_12
      have o_c1_12 := o_c1_11.kept g12 (blk_apart K_c1 K_x0 (by omega))
      have r_c1_12 := IRow.of_owns (xs := rs) (n := rs.length) o_c1_12
      have o_s_12 := o_s_11.kept g12 (blk_apart K_s K_x0 (by omega))
      have r_s_12 := IRow.of_owns (xs := ys) (n := ys.length) o_s_12
      have o_x1_12 := o_x1_11.kept g12 (blk_apart K_x1 K_x0 (by omega))
      have r_x1_12 := IRow.of_owns (xs := rs) (n := rs.length) o_x1_12
      have o_g_12 := o_g_11.kept g12 (blk_apart K_g K_x0 (by omega))
      have r_g_12 := IRow.of_owns (xs := ys) (n := ys.length) o_g_12
      have o_d0_12 := o_d0_11.kept g12 (blk_apart K_d0 K_x0 (by omega))
      have r_d0_12 := SRow.of_owns (xs := xs) encInset_len rfl o_d0_12
      have o_d1_12 := o_d1_11.kept g12 (blk_apart K_d1 K_x0 (by omega))
      have r_d1_12 := IRow.of_owns (xs := rs) (n := rs.length) o_d1_12
      have r_x0_12 := SRow.of_owns (xs := mkLInset (1) xs.length) encInset_len (mkLInset_len (1) xs.length) o_x0_12
      go_wp2_with fail
      refine (markIntS_any vx1 rs (1 + 2 * xs.length) _ w12 o_x1_12 (by omega) (by omega) (by omega)).mono ?_
      rintro e w13 ⟨rfl, o_x1_13, g13⟩
      have S13 : w12.heap.size ≤ w13.heap.size := g13.size
      have B13 := below_grown B12 g13 o_x1_12 (by omega) (Nat.le_refl _)
      have r_a0_13 := p_a0.below B13
      have r_a1_13 := p_a1.below B13
      have o_c0_13 := o_c0_12.kept g13 (blk_apart K_c0 K_x1 (by omega))
      have r_c0_13 := SRow.of_owns (xs := xs) encInset_len rfl o_c0_13
      have o_c1_13 := o_c1_12.kept g13 (blk_apart K_c1 K_x1 (by omega))
      have r_c1_13 := IRow.of_owns (xs := rs) (n := rs.length) o_c1_13
      have o_s_13 := o_s_12.kept g13 (blk_apart K_s K_x1 (by omega))
      have r_s_13 := IRow.of_owns (xs := ys) (n := ys.length) o_s_13
      have o_x0_13 := o_x0_12.kept g13 (blk_apart K_x0 K_x1 (by omega))
      have r_x0_13 := SRow.of_owns (xs := mkLInset (1) xs.length) encInset_len (mkLInset_len (1) xs.length) o_x0_13
      have o_g_13 := o_g_12.kept g13 (blk_apart K_g K_x1 (by omega))
      have r_g_13 := IRow.of_owns (xs := ys) (n := ys.length) o_g_13
      have o_d0_13 := o_d0_12.kept g13 (blk_apart K_d0 K_x1 (by omega))
      have r_d0_13 := SRow.of_owns (xs := xs) encInset_len rfl o_d0_13
      have o_d1_13 := o_d1_12.kept g13 (blk_apart K_d1 K_x1 (by omega))
      have r_d1_13 := IRow.of_owns (xs := rs) (n := rs.length) o_d1_13
      have r_x1_13 := IRow.of_owns (xs := iota (1 + 2 * xs.length) rs.length) (n := rs.length) o_x1_13
      go_wp2_with fail
      refine (eqIntS_any vg vs ys w13 r_g_13 r_s_13).mono ?_
      rintro e w14 ⟨rfl, b14⟩
      have S14 : w13.heap.size ≤ w14.heap.size := b14.size
      have B14 := below_next B13 b14 (Nat.le_refl _)
      have r_a0_14 := r_a0_13.below b14
      have r_a1_14 := r_a1_13.below b14
      have r_c0_14 := r_c0_13.below b14
      have o_c0_14 := owns_below o_c0_13 b14
      have r_c1_14 := r_c1_13.below b14
      have o_c1_14 := owns_below o_c1_13 b14
      have r_s_14 := r_s_13.below b14
      have o_s_14 := owns_below o_s_13 b14
      have r_x0_14 := r_x0_13.below b14
      have o_x0_14 := owns_below o_x0_13 b14
      have r_x1_14 := r_x1_13.below b14
      have o_x1_14 := owns_below o_x1_13 b14
      have r_g_14 := r_g_13.below b14
      have o_g_14 := owns_below o_g_13 b14
      have r_d0_14 := r_d0_13.below b14
      have o_d0_14 := owns_below o_d0_13 b14
      have r_d1_14 := r_d1_13.below b14
      have o_d1_14 := owns_below o_d1_13 b14
      clear b14 B13 r_a0_13 r_a1_13 r_c0_13 o_c0_13 r_c1_13 o_c1_13 r_s_13 o_s_13 r_x0_13 o_x0_13 r_x1_13 o_x1_13 r_g_13 o_g_13 r_d0_13 o_d0_13 r_d1_13 o_d1_13
      go_wp2_with fail
      refine (markIntS_any vg ys (1) _ w14 o_g_14 (by omega) (by omega) (by omega)).mono ?_
      rintro e w15 ⟨rfl, o_g_15, g15⟩
      have S15 : w14.heap.size ≤ w15.heap.size := g15.size
      have B15 := below_grown B14 g15 o_g_14 (by omega) (Nat.le_refl _)
      have r_a0_15 := p_a0.below B15
      have r_a1_15 := p_a1.below B15
      have o_c0_15 := o_c0_14.kept g15 (blk_apart K_c0 K_g (by omega))
      have r_c0_15 := SRow.of_owns (xs := xs) encInset_len rfl o_c0_15
      have o_c1_15 := o_c1_14.kept g15 (blk_apart K_c1 K_g (by omega))
      have r_c1_15 := IRow.of_owns (xs := rs) (n := rs.length) o_c1_15
      have o_s_15 := o_s_14.kept g15 (blk_apart K_s K_g (by omega))
      have r_s_15 := IRow.of_owns (xs := ys) (n := ys.length) o_s_15
      have o_x0_15 := o_x0_14.kept g15 (blk_apart K_x0 K_g (by omega))
      have r_x0_15 := SRow.of_owns (xs := mkLInset (1) xs.length) encInset_len (mkLInset_len (1) xs.length) o_x0_15
      have o_x1_15 := o_x1_14.kept g15 (blk_apart K_x1 K_g (by omega))
      have r_x1_15 := IRow.of_owns (xs := iota (1 + 2 * xs.length) rs.length) (n := rs.length) o_x1_15
      have o_d0_15 := o_d0_14.kept g15 (blk_apart K_d0 K_g (by omega))
      have r_d0_15 := SRow.of_owns (xs := xs) encInset_len rfl o_d0_15
      have o_d1_15 := o_d1_14.kept g15 (blk_apart K_d1 K_g (by omega))
      have r_d1_15 := IRow.of_owns (xs := rs) (n := rs.length) o_d1_15
      have r_g_15 := IRow.of_owns (xs := iota (1) ys.length) (n := ys.length) o_g_15
      go_wp2_with fail
      refine (heldIntS_any vg ys.length 1 w15 r_g_15 (by omega) (by omega) (by omega)).mono ?_
      rintro e w16 ⟨rfl, b16⟩
      have S16 : w15.heap.size ≤ w16.heap.size := b16.size
      have B16 := below_next B15 b16 (Nat.le_refl _)
      have r_a0_16 := r_a0_15.below b16
      have r_a1_16 := r_a1_15.below b16
      have r_c0_16 := r_c0_15.below b16
      have o_c0_16 := owns_below o_c0_15 b16
      have r_c1_16 := r_c1_15.below b16
      have o_c1_16 := owns_below o_c1_15 b16
      have r_s_16 := r_s_15.below b16
      have o_s_16 := owns_below o_s_15 b16
      have r_x0_16 := r_x0_15.below b16
      have o_x0_16 := owns_below o_x0_15 b16
      have r_x1_16 := r_x1_15.below b16
      have o_x1_16 := owns_below o_x1_15 b16
      have r_g_16 := r_g_15.below b16
      have o_g_16 := owns_below o_g_15 b16
      have r_d0_16 := r_d0_15.below b16
      have o_d0_16 := owns_below o_d0_15 b16
      have r_d1_16 := r_d1_15.below b16
      have o_d1_16 := owns_below o_d1_15 b16
      clear b16 B15 r_a0_15 r_a1_15 r_c0_15 o_c0_15 r_c1_15 o_c1_15 r_s_15 o_s_15 r_x0_15 o_x0_15 r_x1_15 o_x1_15 r_g_15 o_g_15 r_d0_15 o_d0_15 r_d1_15 o_d1_15
      go_wp2_with fail
      refine (toInsetS_any (.slice a xs.length cap) xs w16 r_a0_16 (by omega)).mono ?_
      rintro e w17 ⟨vh0, rfl, o_h0_17, b17⟩
      have K_h0 := o_h0_17.lt
      have S17 : w16.heap.size ≤ w17.heap.size := b17.size
      have B17 := below_next B16 b17 (Nat.le_refl _)
      have r_a0_17 := r_a0_16.below b17
      have r_a1_17 := r_a1_16.below b17
      have r_c0_17 := r_c0_16.below b17
      have o_c0_17 := owns_below o_c0_16 b17
      have r_c1_17 := r_c1_16.below b17
      have o_c1_17 := owns_below o_c1_16 b17
      have r_s_17 := r_s_16.below b17
      have o_s_17 := owns_below o_s_16 b17
      have r_x0_17 := r_x0_16.below b17
      have o_x0_17 := owns_below o_x0_16 b17
      have r_x1_17 := r_x1_16.below b17
      have o_x1_17 := owns_below o_x1_16 b17
      have r_g_17 := r_g_16.below b17
      have o_g_17 := owns_below o_g_16 b17
      have r_d0_17 := r_d0_16.below b17
      have o_d0_17 := owns_below o_d0_16 b17
      have r_d1_17 := r_d1_16.below b17
      have o_d1_17 := owns_below o_d1_16 b17
      clear b17 B16 r_a0_16 r_a1_16 r_c0_16 o_c0_16 r_c1_16 o_c1_16 r_s_16 o_s_16 r_x0_16 o_x0_16 r_x1_16 o_x1_16 r_g_16 o_g_16 r_d0_16 o_d0_16 r_d1_16 o_d1_16
      have r_h0_17 := SRow.of_owns (xs := xs) encInset_len rfl o_h0_17
      go_wp2_with fail
      refine (toIntS_any (.slice a' rs.length cap') rs w17 r_a1_17 (by omega)).mono ?_
      rintro e w18 ⟨vh1, rfl, o_h1_18, b18⟩
      have K_h1 := o_h1_18.lt
      have S18 : w17.heap.size ≤ w18.heap.size := b18.size
      have B18 := below_next B17 b18 (Nat.le_refl _)
      have r_a0_18 := r_a0_17.below b18
      have r_a1_18 := r_a1_17.below b18
      have r_c0_18 := r_c0_17.below b18
      have o_c0_18 := owns_below o_c0_17 b18
      have r_c1_18 := r_c1_17.below b18
      have o_c1_18 := owns_below o_c1_17 b18
      have r_s_18 := r_s_17.below b18
      have o_s_18 := owns_below o_s_17 b18
      have r_x0_18 := r_x0_17.below b18
      have o_x0_18 := owns_below o_x0_17 b18
      have r_x1_18 := r_x1_17.below b18
      have o_x1_18 := owns_below o_x1_17 b18
      have r_g_18 := r_g_17.below b18
      have o_g_18 := owns_below o_g_17 b18
      have r_d0_18 := r_d0_17.below b18
      have o_d0_18 := owns_below o_d0_17 b18
      have r_d1_18 := r_d1_17.below b18
      have o_d1_18 := owns_below o_d1_17 b18
      have r_h0_18 := r_h0_17.below b18
      have o_h0_18 := owns_below o_h0_17 b18
      clear b18 B17 r_a0_17 r_a1_17 r_c0_17 o_c0_17 r_c1_17 o_c1_17 r_s_17 o_s_17 r_x0_17 o_x0_17 r_x1_17 o_x1_17 r_g_17 o_g_17 r_d0_17 o_d0_17 r_d1_17 o_d1_17 r_h0_17 o_h0_17
      have r_h1_18 := IRow.of_owns (xs := rs) (n := rs.length) o_h1_18
      go_wp2_with fail
      refine (HIM.out vh0 vh1 w18 r_h0_18 r_h1_18).mono ?_
      rintro e w19 ⟨vk, rfl, o_k_19, b19⟩
      have K_k := o_k_19.lt
      have S19 : w18.heap.size ≤ w19.heap.size := b19.size
      have B19 := below_next B18 b19 (Nat.le_refl _)
      have r_a0_19 := r_a0_18.below b19
      have r_a1_19 := r_a1_18.below b19
      have r_c0_19 := r_c0_18.below b19
      have o_c0_19 := owns_below o_c0_18 b19
      have r_c1_19 := r_c1_18.below b19
      have o_c1_19 := owns_below o_c1_18 b19
      have r_s_19 := r_s_18.below b19
      have o_s_19 := owns_below o_s_18 b19
      have r_x0_19 := r_x0_18.below b19
      have o_x0_19 := owns_below o_x0_18 b19
      have r_x1_19 := r_x1_18.below b19
      have o_x1_19 := owns_below o_x1_18 b19
      have r_g_19 := r_g_18.below b19
      have o_g_19 := owns_below o_g_18 b19
      have r_d0_19 := r_d0_18.below b19
      have o_d0_19 := owns_below o_d0_18 b19
      have r_d1_19 := r_d1_18.below b19
      have o_d1_19 := owns_below o_d1_18 b19
      have r_h0_19 := r_h0_18.below b19
      have o_h0_19 := owns_below o_h0_18 b19
      have r_h1_19 := r_h1_18.below b19
      have o_h1_19 := owns_below o_h1_18 b19
      clear b19 B18 r_a0_18 r_a1_18 r_c0_18 o_c0_18 r_c1_18 o_c1_18 r_s_18 o_s_18 r_x0_18 o_x0_18 r_x1_18 o_x1_18 r_g_18 o_g_18 r_d0_18 o_d0_18 r_d1_18 o_d1_18 r_h0_18 o_h0_18 r_h1_18 o_h1_18
      have r_k_19 := IRow.of_owns (xs := ys) (n := ys.length) o_k_19
      go_wp2_with fail
      refine (eqIntS_any vk vs ys w19 r_k_19 r_s_19).mono ?_
      rintro e w20 ⟨rfl, b20⟩
      have S20 : w19.heap.size ≤ w20.heap.size := b20.size
      have B20 := below_next B19 b20 (Nat.le_refl _)
      have r_a0_20 := r_a0_19.below b20
      have r_a1_20 := r_a1_19.below b20
      have r_c0_20 := r_c0_19.below b20
      have o_c0_20 := owns_below o_c0_19 b20
      have r_c1_20 := r_c1_19.below b20
      have o_c1_20 := owns_below o_c1_19 b20
      have r_s_20 := r_s_19.below b20
      have o_s_20 := owns_below o_s_19 b20
      have r_x0_20 := r_x0_19.below b20
      have o_x0_20 := owns_below o_x0_19 b20
      have r_x1_20 := r_x1_19.below b20
      have o_x1_20 := owns_below o_x1_19 b20
      have r_g_20 := r_g_19.below b20
      have o_g_20 := owns_below o_g_19 b20
      have r_d0_20 := r_d0_19.below b20
      have o_d0_20 := owns_below o_d0_19 b20
      have r_d1_20 := r_d1_19.below b20
      have o_d1_20 := owns_below o_d1_19 b20
      have r_h0_20 := r_h0_19.below b20
      have o_h0_20 := owns_below o_h0_19 b20
      have r_h1_20 := r_h1_19.below b20
      have o_h1_20 := owns_below o_h1_19 b20
      have r_k_20 := r_k_19.below b20
      have o_k_20 := owns_below o_k_19 b20
      clear b20 B19 r_a0_19 r_a1_19 r_c0_19 o_c0_19 r_c1_19 o_c1_19 r_s_19 o_s_19 r_x0_19 o_x0_19 r_x1_19 o_x1_19 r_g_19 o_g_19 r_d0_19 o_d0_19 r_d1_19 o_d1_19 r_h0_19 o_h0_19 r_h1_19 o_h1_19 r_k_19 o_k_19
      go_wp2_with fail
      refine (heldIntS_any vg ys.length 1 w20 r_g_20 (by omega) (by omega) (by omega)).mono ?_
      rintro e w21 ⟨rfl, b21⟩
      have S21 : w20.heap.size ≤ w21.heap.size := b21.size
      have B21 := below_next B20 b21 (Nat.le_refl _)
      have r_a0_21 := r_a0_20.below b21
      have r_a1_21 := r_a1_20.below b21
      have r_c0_21 := r_c0_20.below b21
      have o_c0_21 := owns_below o_c0_20 b21
      have r_c1_21 := r_c1_20.below b21
      have o_c1_21 := owns_below o_c1_20 b21
      have r_s_21 := r_s_20.below b21
      have o_s_21 := owns_below o_s_20 b21
      have r_x0_21 := r_x0_20.below b21
      have o_x0_21 := owns_below o_x0_20 b21
      have r_x1_21 := r_x1_20.below b21
      have o_x1_21 := owns_below o_x1_20 b21
      have r_g_21 := r_g_20.below b21
      have o_g_21 := owns_below o_g_20 b21
      have r_d0_21 := r_d0_20.below b21
      have o_d0_21 := owns_below o_d0_20 b21
      have r_d1_21 := r_d1_20.below b21
      have o_d1_21 := owns_below o_d1_20 b21
      have r_h0_21 := r_h0_20.below b21
      have o_h0_21 := owns_below o_h0_20 b21
      have r_h1_21 := r_h1_20.below b21
      have o_h1_21 := owns_below o_h1_20 b21
      have r_k_21 := r_k_20.below b21
      have o_k_21 := owns_below o_k_20 b21
      clear b21 B20 r_a0_20 r_a1_20 r_c0_20 o_c0_20 r_c1_20 o_c1_20 r_s_20 o_s_20 r_x0_20 o_x0_20 r_x1_20 o_x1_20 r_g_20 o_g_20 r_d0_20 o_d0_20 r_d1_20 o_d1_20 r_h0_20 o_h0_20 r_h1_20 o_h1_20 r_k_20 o_k_20
      have FIN := Lib.hid B21
      clear B21 K_c0 K_c1 K_d0 K_d1 K_g K_h0 K_h1 K_k K_s K_x0 K_x1 o_c0_21 o_c1_21 o_d0_21 o_d1_21 o_g_21 o_h0_21 o_h1_21 o_k_21 o_s_21 o_x0_21 o_x1_21 r_c0_21 r_c1_21 r_d0_21 r_d1_21 r_g_21 r_h0_21 r_h1_21 r_k_21 r_s_21 r_x0_21 r_x1_21
      go_wp2
      go_ret
      exact ⟨rfl, FIN.out⟩
    · go_enter Try.func5, Try.ntmps5
      go_wp2_with fail
      refine (szInsetS_any _ _ _ _ _ hlen (by omega) (by omega)).mono ?_
      rintro e w' ⟨rfl, rfl⟩
      rw [if_pos (by omega)]
      go_wp2
      go_ret
      exact ⟨rfl, Below.refl _ _⟩
  · go_enter Try.func5, Try.ntmps5
    go_wp2
    go_ret
    exact ⟨rfl, Below.refl _ _⟩
end Go.Proofs.Ytoeaaoceicjmdaa

/-
  PROVED HERE: what the text of the law FnExactSpansOf does: it returns true and turns nothing that was there. Conditions: the walk's own.
-/
import Derived.Test.YtnlhlgefaamdgaaSoK
import Derived.Test.YtnlhlgefaamdgaaSoH
import Derived.Test.YtnlhlgefaamdgaaIntO
import Derived.Test.YtnlhlgefaamdgaaToInt
import Derived.Test.YtnlhlgefaamdgaaRows2
set_option linter.unusedVariables false
set_option linter.unusedSimpArgs false
namespace Go.Proofs.Ytnlhlgefaamdgaa
open Go.RowKit

theorem blk_apart {vY vX : Value} {a b c d : Nat} (hY : ∀ k, vY.ownBlock = some k → a ≤ k ∧ k < b) (hX : ∀ k, vX.ownBlock = some k → c ≤ k ∧ k < d) (h : b ≤ c ∨ d ≤ a) : vY.ownBlock = none ∨ vY.ownBlock ≠ vX.ownBlock := by
  cases e : vY.ownBlock with
  | none => exact .inl rfl
  | some k =>
    right
    intro e2
    have h1 := hY k e
    have h2 := hX k e2.symm
    omega

set_option maxHeartbeats 8000000 in
theorem fnExactSpansOf_walk (w : World) (a : Option Addr) (n cap : Nat) (zs : List Int) (hl : zs.length = n) (h : IRow w (.slice a n cap) zs) :
    Calls Try.prog 3 #[.slice a n cap] w (Ret (.bool true) w) := by
  subst hl
  have hzl : zs.length ≤ 9223372036854775807 := by obtain ⟨_, _, _, h, _⟩ := h; exact h
  by_cases hbig : zs.length ≤ 1048576
  · obtain ⟨ys, hys⟩ : ∃ ys, ys = soR zs := ⟨_, rfl⟩
    obtain ⟨bt, hbt⟩ : ∃ b, b = soB zs := ⟨_, rfl⟩
    have S1 := fun v w (h : IRow w v zs) => (hys ▸ hbt ▸ specSpansOf_any v zs w h hbig : Calls Try.prog 5 #[v] w (OwnSpB ys bt w))
    have S2 := fun v w (h : IRow w v zs) => (hys ▸ hbt ▸ implSpansOf_any v zs w h hbig : Calls Try.prog 7 #[v] w (OwnSpB ys bt w))
    have hyl : ys.length ≤ 1048576 := by rw [hys]; exact Nat.le_trans (soR_len zs) (by omega)
    have HSP := Lib.hid S1
    have HIM := Lib.hid S2
    clear hys hbt S1 S2
    go_enter Try.func3, Try.ntmps3
    have B0 : Below w.heap.size w w := Below.refl _ _
    have p_a0 := h
    go_wp2_with fail
    refine (toIntS_any (.slice a zs.length cap) zs w p_a0 (by omega)).mono ?_
    rintro e w1 ⟨vc0, rfl, o_c0_1, b1⟩
    have K_c0 := o_c0_1.lt
    have S1 : w.heap.size ≤ w1.heap.size := b1.size
    have B1 := below_next B0 b1 (Nat.le_refl _)
    have r_a0_1 := p_a0.below b1
    clear b1 B0 
    have r_c0_1 := IRow.of_owns (xs := zs) (n := zs.length) o_c0_1
    go_wp2_with fail
    refine (HSP.out vc0 w1 r_c0_1).mono ?_
    rintro e w2 ⟨vs, rfl, o_s_2, b2⟩
    have K_s := o_s_2.lt
    have S2 : w1.heap.size ≤ w2.heap.size := b2.size
    have B2 := below_next B1 b2 (Nat.le_refl _)
    have r_a0_2 := r_a0_1.below b2
    have r_c0_2 := r_c0_1.below b2
    have o_c0_2 := owns_below o_c0_1 b2
    clear b2 B1 r_a0_1 r_c0_1 o_c0_1
    have r_s_2 := SRow.of_owns (xs := ys) encSpan_len rfl o_s_2
    go_wp2_with fail
    refine (toIntS_any (.slice a zs.length cap) zs w2 r_a0_2 (by omega)).mono ?_
    rintro e w3 ⟨vx0, rfl, o_x0_3, b3⟩
    have K_x0 := o_x0_3.lt
    have S3 : w2.heap.size ≤ w3.heap.size := b3.size
    have B3 := below_next B2 b3 (Nat.le_refl _)
    have r_a0_3 := r_a0_2.below b3
    have r_c0_3 := r_c0_2.below b3
    have o_c0_3 := owns_below o_c0_2 b3
    have r_s_3 := r_s_2.below b3
    have o_s_3 := owns_below o_s_2 b3
    clear b3 B2 r_a0_2 r_c0_2 o_c0_2 r_s_2 o_s_2
    have r_x0_3 := IRow.of_owns (xs := zs) (n := zs.length) o_x0_3
    go_wp2_with fail
    refine (HIM.out vx0 w3 r_x0_3).mono ?_
    rintro e w4 ⟨vg, rfl, o_g_4, b4⟩
    have K_g := o_g_4.lt
    have S4 : w3.heap.size ≤ w4.heap.size := b4.size
    have B4 := below_next B3 b4 (Nat.le_refl _)
    have r_a0_4 := r_a0_3.below b4
    have r_c0_4 := r_c0_3.below b4
    have o_c0_4 := owns_below o_c0_3 b4
    have r_s_4 := r_s_3.below b4
    have o_s_4 := owns_below o_s_3 b4
    have r_x0_4 := r_x0_3.below b4
    have o_x0_4 := owns_below o_x0_3 b4
    clear b4 B3 r_a0_3 r_c0_3 o_c0_3 r_s_3 o_s_3 r_x0_3 o_x0_3
    have r_g_4 := SRow.of_owns (xs := ys) encSpan_len rfl o_g_4
    go_wp2_with fail
    refine (eqSpanS_any vg vs ys w4 r_g_4 r_s_4).mono ?_
    rintro e w5 ⟨rfl, b5⟩
    have S5 : w4.heap.size ≤ w5.heap.size := b5.size
    have B5 := below_next B4 b5 (Nat.le_refl _)
    have r_a0_5 := r_a0_4.below b5
    have r_c0_5 := r_c0_4.below b5
    have o_c0_5 := owns_below o_c0_4 b5
    have r_s_5 := r_s_4.below b5
    have o_s_5 := owns_below o_s_4 b5
    have r_x0_5 := r_x0_4.below b5
    have o_x0_5 := owns_below o_x0_4 b5
    have r_g_5 := r_g_4.below b5
    have o_g_5 := owns_below o_g_4 b5
    clear b5 B4 r_a0_4 r_c0_4 o_c0_4 r_s_4 o_s_4 r_x0_4 o_x0_4 r_g_4 o_g_4
    go_wp2_with fail
    refine (toIntS_any (.slice a zs.length cap) zs w5 r_a0_5 (by omega)).mono ?_
    rintro e w6 ⟨vd0, rfl, o_d0_6, b6⟩
    have K_d0 := o_d0_6.lt
    have S6 : w5.heap.size ≤ w6.heap.size := b6.size
    have B6 := below_next B5 b6 (Nat.le_refl _)
    have r_a0_6 := r_a0_5.below b6
    have r_c0_6 := r_c0_5.below b6
    have o_c0_6 := owns_below o_c0_5 b6
    have r_s_6 := r_s_5.below b6
    have o_s_6 := owns_below o_s_5 b6
    have r_x0_6 := r_x0_5.below b6
    have o_x0_6 := owns_below o_x0_5 b6
    have r_g_6 := r_g_5.below b6
    have o_g_6 := owns_below o_g_5 b6
    clear b6 B5 r_a0_5 r_c0_5 o_c0_5 r_s_5 o_s_5 r_x0_5 o_x0_5 r_g_5 o_g_5
    have r_d0_6 := IRow.of_owns (xs := zs) (n := zs.length) o_d0_6
    go_wp2_with fail
    refine (eqIntS_any vx0 vd0 zs w6 r_x0_6 r_d0_6).mono ?_
    rintro e w7 ⟨rfl, b7⟩
    have S7 : w6.heap.size ≤ w7.heap.size := b7.size
    have B7 := below_next B6 b7 (Nat.le_refl _)
    have r_a0_7 := r_a0_6.below b7
    have r_c0_7 := r_c0_6.below b7
    have o_c0_7 := owns_below o_c0_6 b7
    have r_s_7 := r_s_6.below b7
    have o_s_7 := owns_below o_s_6 b7
    have r_x0_7 := r_x0_6.below b7
    have o_x0_7 := owns_below o_x0_6 b7
    have r_g_7 := r_g_6.below b7
    have o_g_7 := owns_below o_g_6 b7
    have r_d0_7 := r_d0_6.below b7
    have o_d0_7 := owns_below o_d0_6 b7
    clear b7 B6 r_a0_6 r_c0_6 o_c0_6 r_s_6 o_s_6 r_x0_6 o_x0_6 r_g_6 o_g_6 r_d0_6 o_d0_6
    go_wp2_with fail
    refine (markIntS_any vx0 zs (1) _ w7 o_x0_7 (by omega) (by omega) (by omega)).mono ?_
    rintro e w8 ⟨rfl, o_x0_8, g8⟩
    have S8 : w7.heap.size ≤ w8.heap.size := g8.size
    have B8 := below_grown B7 g8 o_x0_7 (by omega) (Nat.le_refl _)
    have r_a0_8 := p_a0.below B8
    have o_c0_8 := o_c0_7.kept g8 (blk_apart K_c0 K_x0 (by omega))
    have r_c0_8 := IRow.of_owns (xs := zs) (n := zs.length) o_c0_8
    have o_s_8 := o_s_7.kept g8 (blk_apart K_s K_x0 (by omega))
    have r_s_8 := SRow.of_owns (xs := ys) encSpan_len rfl o_s_8
    have o_g_8 := o_g_7.kept g8 (blk_apart K_g K_x0 (by omega))
    have r_g_8 := SRow.of_owns (xs := ys) encSpan_len rfl o_g_8
    have o_d0_8 := o_d0_7.kept g8 (blk_apart K_d0 K_x0 (by omega))
    have r_d0_8 := IRow.of_owns (xs := zs) (n := zs.length) o_d0_8
    have r_x0_8 := IRow.of_owns (xs := iota (1) zs.length) (n := zs.length) o_x0_8
    go_wp2_with fail
    refine (eqSpanS_any vg vs ys w8 r_g_8 r_s_8).mono ?_
    rintro e w9 ⟨rfl, b9⟩
    have S9 : w8.heap.size ≤ w9.heap.size := b9.size
    have B9 := below_next B8 b9 (Nat.le_refl _)
    have r_a0_9 := r_a0_8.below b9
    have r_c0_9 := r_c0_8.below b9
    have o_c0_9 := owns_below o_c0_8 b9
    have r_s_9 := r_s_8.below b9
    have o_s_9 := owns_below o_s_8 b9
    have r_x0_9 := r_x0_8.below b9
    have o_x0_9 := owns_below o_x0_8 b9
    have r_g_9 := r_g_8.below b9
    have o_g_9 := owns_below o_g_8 b9
    have r_d0_9 := r_d0_8.below b9
    have o_d0_9 := owns_below o_d0_8 b9
    clear b9 B8 r_a0_8 r_c0_8 o_c0_8 r_s_8 o_s_8 r_x0_8 o_x0_8 r_g_8 o_g_8 r_d0_8 o_d0_8
    go_wp2_with fail
    refine (markSpanS_any vg ys (1) _ w9 o_g_9 (by omega) (by omega) (by omega)).mono ?_
    rintro e w10 ⟨rfl, o_g_10, g10⟩
    have S10 : w9.heap.size ≤ w10.heap.size := g10.size
    have B10 := below_grown B9 g10 o_g_9 (by omega) (Nat.le_refl _)
    have r_a0_10 := p_a0.below B10
    have o_c0_10 := o_c0_9.kept g10 (blk_apart K_c0 K_g (by omega))
    have r_c0_10 := IRow.of_owns (xs := zs) (n := zs.length) o_c0_10
    have o_s_10 := o_s_9.kept g10 (blk_apart K_s K_g (by omega))
    have r_s_10 := SRow.of_owns (xs := ys) encSpan_len rfl o_s_10
    have o_x0_10 := o_x0_9.kept g10 (blk_apart K_x0 K_g (by omega))
    have r_x0_10 := IRow.of_owns (xs := iota (1) zs.length) (n := zs.length) o_x0_10
    have o_d0_10 := o_d0_9.kept g10 (blk_apart K_d0 K_g (by omega))
    have r_d0_10 := IRow.of_owns (xs := zs) (n := zs.length) o_d0_10
    have r_g_10 := SRow.of_owns (xs := mkLSpan (1) ys.length) encSpan_len (mkLSpan_len (1) ys.length) o_g_10
    go_wp2_with fail
    refine (heldSpanS_any vg ys.length 1 w10 r_g_10 (by omega) (by omega) (by omega)).mono ?_
    rintro e w11 ⟨rfl, b11⟩
    have S11 : w10.heap.size ≤ w11.heap.size := b11.size
    have B11 := below_next B10 b11 (Nat.le_refl _)
    have r_a0_11 := r_a0_10.below b11
    have r_c0_11 := r_c0_10.below b11
    have o_c0_11 := owns_below o_c0_10 b11
    have r_s_11 := r_s_10.below b11
    have o_s_11 := owns_below o_s_10 b11
    have r_x0_11 := r_x0_10.below b11
    have o_x0_11 := owns_below o_x0_10 b11
    have r_g_11 := r_g_10.below b11
    have o_g_11 := owns_below o_g_10 b11
    have r_d0_11 := r_d0_10.below b11
    have o_d0_11 := owns_below o_d0_10 b11
    clear b11 B10 r_a0_10 r_c0_10 o_c0_10 r_s_10 o_s_10 r_x0_10 o_x0_10 r_g_10 o_g_10 r_d0_10 o_d0_10
    go_wp2_with fail
    refine (toIntS_any (.slice a zs.length cap) zs w11 r_a0_11 (by omega)).mono ?_
    rintro e w12 ⟨vh0, rfl, o_h0_12, b12⟩
    have K_h0 := o_h0_12.lt
    have S12 : w11.heap.size ≤ w12.heap.size := b12.size
    have B12 := below_next B11 b12 (Nat.le_refl _)
    have r_a0_12 := r_a0_11.below b12
    have r_c0_12 := r_c0_11.below b12
    have o_c0_12 := owns_below o_c0_11 b12
    have r_s_12 := r_s_11.below b12
    have o_s_12 := owns_below o_s_11 b12
    have r_x0_12 := r_x0_11.below b12
    have o_x0_12 := owns_below o_x0_11 b12
    have r_g_12 := r_g_11.below b12
    have o_g_12 := owns_below o_g_11 b12
    have r_d0_12 := r_d0_11.below b12
    have o_d0_12 := owns_below o_d0_11 b12
    clear b12 B11 r_a0_11 r_c0_11 o_c0_11 r_s_11 o_s_11 r_x0_11 o_x0_11 r_g_11 o_g_11 r_d0_11 o_d0_11
    have r_h0_12 := IRow.of_owns (xs := zs) (n := zs.length) o_h0_12
    go_wp2_with fail
    refine (HIM.out vh0 w12 r_h0_12).mono ?_
    rintro e w13 ⟨vk, rfl, o_k_13, b13⟩
    have K_k := o_k_13.lt
    have S13 : w12.heap.size ≤ w13.heap.size := b13.size
    have B13 := below_next B12 b13 (Nat.le_refl _)
    have r_a0_13 := r_a0_12.below b13
    have r_c0_13 := r_c0_12.below b13
    have o_c0_13 := owns_below o_c0_12 b13
    have r_s_13 := r_s_12.below b13
    have o_s_13 := owns_below o_s_12 b13
    have r_x0_13 := r_x0_12.below b13
    have o_x0_13 := owns_below o_x0_12 b13
    have r_g_13 := r_g_12.below b13
    have o_g_13 := owns_below o_g_12 b13
    have r_d0_13 := r_d0_12.below b13
    have o_d0_13 := owns_below o_d0_12 b13
    have r_h0_13 := r_h0_12.below b13
    have o_h0_13 := owns_below o_h0_12 b13
    clear b13 B12 r_a0_12 r_c0_12 o_c0_12 r_s_12 o_s_12 r_x0_12 o_x0_12 r_g_12 o_g_12 r_d0_12 o_d0_12 r_h0_12 o_h0_12
    have r_k_13 := SRow.of_owns (xs := ys) encSpan_len rfl o_k_13
    go_wp2_with fail
    refine (eqSpanS_any vk vs ys w13 r_k_13 r_s_13).mono ?_
    rintro e w14 ⟨rfl, b14⟩
    have S14 : w13.heap.size ≤ w14.heap.size := b14.size
    have B14 := below_next B13 b14 (Nat.le_refl _)
    have r_a0_14 := r_a0_13.below b14
    have r_c0_14 := r_c0_13.below b14
    have o_c0_14 := owns_below o_c0_13 b14
    have r_s_14 := r_s_13.below b14
    have o_s_14 := owns_below o_s_13 b14
    have r_x0_14 := r_x0_13.below b14
    have o_x0_14 := owns_below o_x0_13 b14
    have r_g_14 := r_g_13.below b14
    have o_g_14 := owns_below o_g_13 b14
    have r_d0_14 := r_d0_13.below b14
    have o_d0_14 := owns_below o_d0_13 b14
    have r_h0_14 := r_h0_13.below b14
    have o_h0_14 := owns_below o_h0_13 b14
    have r_k_14 := r_k_13.below b14
    have o_k_14 := owns_below o_k_13 b14
    clear b14 B13 r_a0_13 r_c0_13 o_c0_13 r_s_13 o_s_13 r_x0_13 o_x0_13 r_g_13 o_g_13 r_d0_13 o_d0_13 r_h0_13 o_h0_13 r_k_13 o_k_13
    go_wp2_with fail
    refine (heldSpanS_any vg ys.length 1 w14 r_g_14 (by omega) (by omega) (by omega)).mono ?_
    rintro e w15 ⟨rfl, b15⟩
    have S15 : w14.heap.size ≤ w15.heap.size := b15.size
    have B15 := below_next B14 b15 (Nat.le_refl _)
    have r_a0_15 := r_a0_14.below b15
    have r_c0_15 := r_c0_14.below b15
    have o_c0_15 := owns_below o_c0_14 b15
    have r_s_15 := r_s_14.below b15
    have o_s_15 := owns_below o_s_14 b15
    have r_x0_15 := r_x0_14.below b15
    have o_x0_15 := owns_below o_x0_14 b15
    have r_g_15 := r_g_14.below b15
    have o_g_15 := owns_below o_g_14 b15
    have r_d0_15 := r_d0_14.below b15
    have o_d0_15 := owns_below o_d0_14 b15
    have r_h0_15 := r_h0_14.below b15
    have o_h0_15 := owns_below o_h0_14 b15
    have r_k_15 := r_k_14.below b15
    have o_k_15 := owns_below o_k_14 b15
    clear b15 B14 r_a0_14 r_c0_14 o_c0_14 r_s_14 o_s_14 r_x0_14 o_x0_14 r_g_14 o_g_14 r_d0_14 o_d0_14 r_h0_14 o_h0_14 r_k_14 o_k_14
    have FIN := Lib.hid B15
    clear B15 K_c0 K_d0 K_g K_h0 K_k K_s K_x0 o_c0_15 o_d0_15 o_g_15 o_h0_15 o_k_15 o_s_15 o_x0_15 r_c0_15 r_d0_15 r_g_15 r_h0_15 r_k_15 r_s_15 r_x0_15
    go_wp2
    go_ret
    exact ⟨rfl, FIN.out⟩
  · go_enter Try.func3, Try.ntmps3
    go_wp2
    go_ret
    exact ⟨rfl, Below.refl _ _⟩
end Go.Proofs.Ytnlhlgefaamdgaa

/-
  PROVED HERE: what the text of the law FnExactLonelyLines does: it returns true and turns nothing that was there. Conditions: the walk's own.
-/
import Derived.Test.YtaolkplecdbadaaLonely3
import Derived.Test.YtaolkplecdbadaaIntO
import Derived.Test.YtaolkplecdbadaaToInt
import Derived.Test.YtaolkplecdbadaaRows2
namespace Go.Proofs.Ytaolkplecdbadaa
open Go.RowKit

set_option maxHeartbeats 8000000 in
theorem fnExactLonelyLines_walk (w : World) (m : Int) (_ : (Lit.int .i64 m).wf = true) (a1 : Option Addr) (n1 cap1 : Nat) (ps : List Int) (hl1 : ps.length = n1) (h1 : IRow w (.slice a1 n1 cap1) ps) (a2 : Option Addr) (n2 cap2 : Nat) (pg : List Int) (hl2 : pg.length = n2) (h2 : IRow w (.slice a2 n2 cap2) pg) :
    Calls Try.prog 5 #[.int .i64 m, .slice a1 n1 cap1, .slice a2 n2 cap2] w (Ret (.bool true) w) := by
  subst hl1 hl2
  have hlen1 : ps.length ≤ 9223372036854775807 := by obtain ⟨_, _, _, h, _⟩ := h1; exact h
  have hlen2 : pg.length ≤ 9223372036854775807 := by obtain ⟨_, _, _, h, _⟩ := h2; exact h
  by_cases hb1 : ps.length ≤ 1048576
  · by_cases hb2 : pg.length ≤ 1048576
    · obtain ⟨x, hx⟩ : ∃ x, x = lonA m ps pg := ⟨_, rfl⟩
      obtain ⟨y, hy⟩ : ∃ y, y = lonB m ps pg := ⟨_, rfl⟩
      have S1 := fun v u w (h : IRow w v ps) (hu : IRow w u pg) => (hx ▸ hy ▸ specLonely_any m v u ps pg w h hu : Calls Try.prog 20 #[.int .i64 m, v, u] w (Ret (.tuple #[.int .i64 x, .int .i64 y]) w))
      have S2 := fun v u w (h : IRow w v ps) (hu : IRow w u pg) => (hx ▸ hy ▸ implLonely_any m v u ps pg w h hu : Calls Try.prog 22 #[.int .i64 m, v, u] w (Ret (.tuple #[.int .i64 x, .int .i64 y]) w))
      have HSP := Lib.hid S1
      have HIM := Lib.hid S2
      clear hx hy S1 S2
      go_enter Try.func5, Try.ntmps5
      have B0 : Below w.heap.size w w := Below.refl _ _
      have p_a0 := h1
      have p_a1 := h2
      go_wp2_with fail
      refine (toIntS_any (.slice a1 ps.length cap1) ps w p_a0 (by omega)).mono ?_
      rintro e w1 ⟨vc0, rfl, o_c0_1, b1⟩
      have K_c0 := o_c0_1.lt
      have S1 : w.heap.size ≤ w1.heap.size := b1.size
      have B1 := below_next B0 b1 (Nat.le_refl _)
      have r_a0_1 := p_a0.below b1
      have r_a1_1 := p_a1.below b1
      clear b1 B0 
      have r_c0_1 := IRow.of_owns (xs := ps) (n := ps.length) o_c0_1
      go_wp2_with fail
      refine (toIntS_any (.slice a2 pg.length cap2) pg w1 r_a1_1 (by omega)).mono ?_
      rintro e w2 ⟨vc1, rfl, o_c1_2, b2⟩
      have K_c1 := o_c1_2.lt
      have S2 : w1.heap.size ≤ w2.heap.size := b2.size
      have B2 := below_next B1 b2 (Nat.le_refl _)
      have r_a0_2 := r_a0_1.below b2
      have r_a1_2 := r_a1_1.below b2
      have r_c0_2 := r_c0_1.below b2
      have o_c0_2 := owns_below o_c0_1 b2
      clear b2 B1 r_a0_1 r_a1_1 r_c0_1 o_c0_1
      have r_c1_2 := IRow.of_owns (xs := pg) (n := pg.length) o_c1_2
      go_wp2_with fail
      refine (HSP.out vc0 vc1 w2 r_c0_2 r_c1_2).mono ?_
      rintro e w3 ⟨rfl, b3⟩
      have S3 : w2.heap.size ≤ w3.heap.size := b3.size
      have B3 := below_next B2 b3 (Nat.le_refl _)
      have r_a0_3 := r_a0_2.below b3
      have r_a1_3 := r_a1_2.below b3
      have r_c0_3 := r_c0_2.below b3
      have o_c0_3 := owns_below o_c0_2 b3
      have r_c1_3 := r_c1_2.below b3
      have o_c1_3 := owns_below o_c1_2 b3
      clear b3 B2 r_a0_2 r_a1_2 r_c0_2 o_c0_2 r_c1_2 o_c1_2
      go_wp2_with fail
      refine (toIntS_any (.slice a1 ps.length cap1) ps w3 r_a0_3 (by omega)).mono ?_
      rintro e w4 ⟨vx0, rfl, o_x0_4, b4⟩
      have K_x0 := o_x0_4.lt
      have S4 : w3.heap.size ≤ w4.heap.size := b4.size
      have B4 := below_next B3 b4 (Nat.le_refl _)
      have r_a0_4 := r_a0_3.below b4
      have r_a1_4 := r_a1_3.below b4
      have r_c0_4 := r_c0_3.below b4
      have o_c0_4 := owns_below o_c0_3 b4
      have r_c1_4 := r_c1_3.below b4
      have o_c1_4 := owns_below o_c1_3 b4
      clear b4 B3 r_a0_3 r_a1_3 r_c0_3 o_c0_3 r_c1_3 o_c1_3
      have r_x0_4 := IRow.of_owns (xs := ps) (n := ps.length) o_x0_4
      go_wp2_with fail
      refine (toIntS_any (.slice a2 pg.length cap2) pg w4 r_a1_4 (by omega)).mono ?_
      rintro e w5 ⟨vx1, rfl, o_x1_5, b5⟩
      have K_x1 := o_x1_5.lt
      have S5 : w4.heap.size ≤ w5.heap.size := b5.size
      have B5 := below_next B4 b5 (Nat.le_refl _)
      have r_a0_5 := r_a0_4.below b5
      have r_a1_5 := r_a1_4.below b5
      have r_c0_5 := r_c0_4.below b5
      have o_c0_5 := owns_below o_c0_4 b5
      have r_c1_5 := r_c1_4.below b5
      have o_c1_5 := owns_below o_c1_4 b5
      have r_x0_5 := r_x0_4.below b5
      have o_x0_5 := owns_below o_x0_4 b5
      clear b5 B4 r_a0_4 r_a1_4 r_c0_4 o_c0_4 r_c1_4 o_c1_4 r_x0_4 o_x0_4
      have r_x1_5 := IRow.of_owns (xs := pg) (n := pg.length) o_x1_5
      go_wp2_with fail
      refine (HIM.out vx0 vx1 w5 r_x0_5 r_x1_5).mono ?_
      rintro e w6 ⟨rfl, b6⟩
      have S6 : w5.heap.size ≤ w6.heap.size := b6.size
      have B6 := below_next B5 b6 (Nat.le_refl _)
      have r_a0_6 := r_a0_5.below b6
      have r_a1_6 := r_a1_5.below b6
      have r_c0_6 := r_c0_5.below b6
      have o_c0_6 := owns_below o_c0_5 b6
      have r_c1_6 := r_c1_5.below b6
      have o_c1_6 := owns_below o_c1_5 b6
      have r_x0_6 := r_x0_5.below b6
      have o_x0_6 := owns_below o_x0_5 b6
      have r_x1_6 := r_x1_5.below b6
      have o_x1_6 := owns_below o_x1_5 b6
      clear b6 B5 r_a0_5 r_a1_5 r_c0_5 o_c0_5 r_c1_5 o_c1_5 r_x0_5 o_x0_5 r_x1_5 o_x1_5
      go_wp2_with fail
      refine (toIntS_any (.slice a1 ps.length cap1) ps w6 r_a0_6 (by omega)).mono ?_
      rintro e w7 ⟨vd0, rfl, o_d0_7, b7⟩
      have K_d0 := o_d0_7.lt
      have S7 : w6.heap.size ≤ w7.heap.size := b7.size
      have B7 := below_next B6 b7 (Nat.le_refl _)
      have r_a0_7 := r_a0_6.below b7
      have r_a1_7 := r_a1_6.below b7
      have r_c0_7 := r_c0_6.below b7
      have o_c0_7 := owns_below o_c0_6 b7
      have r_c1_7 := r_c1_6.below b7
      have o_c1_7 := owns_below o_c1_6 b7
      have r_x0_7 := r_x0_6.below b7
      have o_x0_7 := owns_below o_x0_6 b7
      have r_x1_7 := r_x1_6.below b7
      have o_x1_7 := owns_below o_x1_6 b7
      clear b7 B6 r_a0_6 r_a1_6 r_c0_6 o_c0_6 r_c1_6 o_c1_6 r_x0_6 o_x0_6 r_x1_6 o_x1_6
      have r_d0_7 := IRow.of_owns (xs := ps) (n := ps.length) o_d0_7
      go_wp2_with fail
      refine (eqIntS_any vx0 vd0 ps w7 r_x0_7 r_d0_7).mono ?_
      rintro e w8 ⟨rfl, b8⟩
      have S8 : w7.heap.size ≤ w8.heap.size := b8.size
      have B8 := below_next B7 b8 (Nat.le_refl _)
      have r_a0_8 := r_a0_7.below b8
      have r_a1_8 := r_a1_7.below b8
      have r_c0_8 := r_c0_7.below b8
      have o_c0_8 := owns_below o_c0_7 b8
      have r_c1_8 := r_c1_7.below b8
      have o_c1_8 := owns_below o_c1_7 b8
      have r_x0_8 := r_x0_7.below b8
      have o_x0_8 := owns_below o_x0_7 b8
      have r_x1_8 := r_x1_7.below b8
      have o_x1_8 := owns_below o_x1_7 b8
      have r_d0_8 := r_d0_7.below b8
      have o_d0_8 := owns_below o_d0_7 b8
      clear b8 B7 r_a0_7 r_a1_7 r_c0_7 o_c0_7 r_c1_7 o_c1_7 r_x0_7 o_x0_7 r_x1_7 o_x1_7 r_d0_7 o_d0_7
      go_wp2_with fail
      refine (toIntS_any (.slice a2 pg.length cap2) pg w8 r_a1_8 (by omega)).mono ?_
      rintro e w9 ⟨vd1, rfl, o_d1_9, b9⟩
      have K_d1 := o_d1_9.lt
      have S9 : w8.heap.size ≤ w9.heap.size := b9.size
      have B9 := below_next B8 b9 (Nat.le_refl _)
      have r_a0_9 := r_a0_8.below b9
      have r_a1_9 := r_a1_8.below b9
      have r_c0_9 := r_c0_8.below b9
      have o_c0_9 := owns_below o_c0_8 b9
      have r_c1_9 := r_c1_8.below b9
      have o_c1_9 := owns_below o_c1_8 b9
      have r_x0_9 := r_x0_8.below b9
      have o_x0_9 := owns_below o_x0_8 b9
      have r_x1_9 := r_x1_8.below b9
      have o_x1_9 := owns_below o_x1_8 b9
      have r_d0_9 := r_d0_8.below b9
      have o_d0_9 := owns_below o_d0_8 b9
      clear b9 B8 r_a0_8 r_a1_8 r_c0_8 o_c0_8 r_c1_8 o_c1_8 r_x0_8 o_x0_8 r_x1_8 o_x1_8 r_d0_8 o_d0_8
      have r_d1_9 := IRow.of_owns (xs := pg) (n := pg.length) o_d1_9
      go_wp2_with fail
      refine (eqIntS_any vx1 vd1 pg w9 r_x1_9 r_d1_9).mono ?_
      rintro e w10 ⟨rfl, b10⟩
      have S10 : w9.heap.size ≤ w10.heap.size := b10.size
      have B10 := below_next B9 b10 (Nat.le_refl _)
      have r_a0_10 := r_a0_9.below b10
      have r_a1_10 := r_a1_9.below b10
      have r_c0_10 := r_c0_9.below b10
      have o_c0_10 := owns_below o_c0_9 b10
      have r_c1_10 := r_c1_9.below b10
      have o_c1_10 := owns_below o_c1_9 b10
      have r_x0_10 := r_x0_9.below b10
      have o_x0_10 := owns_below o_x0_9 b10
      have r_x1_10 := r_x1_9.below b10
      have o_x1_10 := owns_below o_x1_9 b10
      have r_d0_10 := r_d0_9.below b10
      have o_d0_10 := owns_below o_d0_9 b10
      have r_d1_10 := r_d1_9.below b10
      have o_d1_10 := owns_below o_d1_9 b10
      clear b10 B9 r_a0_9 r_a1_9 r_c0_9 o_c0_9 r_c1_9 o_c1_9 r_x0_9 o_x0_9 r_x1_9 o_x1_9 r_d0_9 o_d0_9 r_d1_9 o_d1_9
      have FIN := Lib.hid B10
      clear B10 K_c0 K_c1 K_d0 K_d1 K_x0 K_x1 o_c0_10 o_c1_10 o_d0_10 o_d1_10 o_x0_10 o_x1_10 r_c0_10 r_c1_10 r_d0_10 r_d1_10 r_x0_10 r_x1_10
      go_wp2
      go_ret
      exact ⟨rfl, FIN.out⟩
    · go_enter Try.func5, Try.ntmps5
      go_wp2
      go_ret
      exact ⟨rfl, Below.refl _ _⟩
  · go_enter Try.func5, Try.ntmps5
    go_wp2
    go_ret
    exact ⟨rfl, Below.refl _ _⟩
end Go.Proofs.Ytaolkplecdbadaa

/-
  PROVED HERE: what the text of the law FnExactSpansText does: it returns true and turns nothing that was there. Conditions: the walk's own.
-/
import Derived.Test.YtjkahdmmejmilaaDoorSpanC
import Derived.Test.YtjkahdmmejmilaaDoorSpanO
import Derived.Test.YtjkahdmmejmilaaDoorSpTxtI
namespace Go.Proofs.YtjkahdmmejmilaaDoor
open Go.RowKit

set_option maxHeartbeats 4000000 in
theorem fnExactSpansText_walk (w : World) (a : Option Addr) (n cap : Nat) (xs : List DSpan) (hl : xs.length = n) (h : SRow 2 encSpan w (.slice a n cap) xs) (htab : PwTab w) :
    Calls Tryd.prog 3 #[.slice a n cap] w (Ret (.bool true) w) := by
  subst hl
  have hlen := h.len
  have TABF : Hid (∀ w', Below w.heap.size w w' → PwTab w') := fun w' hb => htab.below hb (Nat.le_refl _)
  clear htab
  by_cases hbig : xs.length ≤ 1048576
  · obtain ⟨bt, hbt⟩ : ∃ b, b = spTxt xs := ⟨_, rfl⟩
    have S1 := fun v w (h : SRow 2 encSpan w v xs) => (hbt ▸ specTxt_any v xs w h : Calls Tryd.prog 8 #[v] w (RetT bt w))
    have S2 := fun v w (h : SRow 2 encSpan w v xs) (ht : PwTab w) => (hbt ▸ implTxt_any v xs w h ht : Calls Tryd.prog 10 #[v] w (RetT bt w))
    have HSP := Lib.hid S1
    have HIM := Lib.hid S2
    clear hbt S1 S2
    go_enter Tryd.func3, Tryd.ntmps3
    go_wp2_with fail
    refine (szSpanS_any _ _ _ _ _ hlen (by omega) (by omega)).mono ?_
    rintro e w' ⟨rfl, rfl⟩
    rw [if_neg (by omega)]
    have B0 : Below w.heap.size w w := Below.refl _ _
    have p_a0 := h
    go_wp2_with fail
    refine (toSpanS_any (.slice a xs.length cap) xs w p_a0 (by omega)).mono ?_
    rintro e w1 ⟨vc0, rfl, o_c0_1, b1⟩
    have K_c0 := o_c0_1.lt
    have S1 : w.heap.size ≤ w1.heap.size := b1.size
    have B1 := below_next B0 b1 (Nat.le_refl _)
    have r_a0_1 := p_a0.below b1
    clear b1 B0 
    have r_c0_1 := SRow.of_owns (xs := xs) encSpan_len rfl o_c0_1
    go_wp2_with fail
    refine (HSP.out vc0 w1 r_c0_1).mono ?_
    rintro e w2 ⟨rfl, b2⟩
    have S2 : w1.heap.size ≤ w2.heap.size := b2.size
    have B2 := below_next B1 b2 (Nat.le_refl _)
    have r_a0_2 := r_a0_1.below b2
    have r_c0_2 := r_c0_1.below b2
    have o_c0_2 := owns_below o_c0_1 b2
    clear b2 B1 r_a0_1 r_c0_1 o_c0_1
    go_wp2_with fail
    refine (toSpanS_any (.slice a xs.length cap) xs w2 r_a0_2 (by omega)).mono ?_
    rintro e w3 ⟨vx0, rfl, o_x0_3, b3⟩
    have K_x0 := o_x0_3.lt
    have S3 : w2.heap.size ≤ w3.heap.size := b3.size
    have B3 := below_next B2 b3 (Nat.le_refl _)
    have r_a0_3 := r_a0_2.below b3
    have r_c0_3 := r_c0_2.below b3
    have o_c0_3 := owns_below o_c0_2 b3
    clear b3 B2 r_a0_2 r_c0_2 o_c0_2
    have r_x0_3 := SRow.of_owns (xs := xs) encSpan_len rfl o_x0_3
    go_wp2_with fail
    refine (HIM.out vx0 w3 r_x0_3 (TABF.out _ (by assumption))).mono ?_
    rintro e w4 ⟨rfl, b4⟩
    have S4 : w3.heap.size ≤ w4.heap.size := b4.size
    have B4 := below_next B3 b4 (Nat.le_refl _)
    have r_a0_4 := r_a0_3.below b4
    have r_c0_4 := r_c0_3.below b4
    have o_c0_4 := owns_below o_c0_3 b4
    have r_x0_4 := r_x0_3.below b4
    have o_x0_4 := owns_below o_x0_3 b4
    clear b4 B3 r_a0_3 r_c0_3 o_c0_3 r_x0_3 o_x0_3
    go_wp2_with fail
    refine (toSpanS_any (.slice a xs.length cap) xs w4 r_a0_4 (by omega)).mono ?_
    rintro e w5 ⟨vd0, rfl, o_d0_5, b5⟩
    have K_d0 := o_d0_5.lt
    have S5 : w4.heap.size ≤ w5.heap.size := b5.size
    have B5 := below_next B4 b5 (Nat.le_refl _)
    have r_a0_5 := r_a0_4.below b5
    have r_c0_5 := r_c0_4.below b5
    have o_c0_5 := owns_below o_c0_4 b5
    have r_x0_5 := r_x0_4.below b5
    have o_x0_5 := owns_below o_x0_4 b5
    clear b5 B4 r_a0_4 r_c0_4 o_c0_4 r_x0_4 o_x0_4
    have r_d0_5 := SRow.of_owns (xs := xs) encSpan_len rfl o_d0_5
    go_wp2_with fail
    refine (eqSpanS_any vx0 vd0 xs w5 r_x0_5 r_d0_5).mono ?_
    rintro e w6 ⟨rfl, b6⟩
    have S6 : w5.heap.size ≤ w6.heap.size := b6.size
    have B6 := below_next B5 b6 (Nat.le_refl _)
    have r_a0_6 := r_a0_5.below b6
    have r_c0_6 := r_c0_5.below b6
    have o_c0_6 := owns_below o_c0_5 b6
    have r_x0_6 := r_x0_5.below b6
    have o_x0_6 := owns_below o_x0_5 b6
    have r_d0_6 := r_d0_5.below b6
    have o_d0_6 := owns_below o_d0_5 b6
    clear b6 B5 r_a0_5 r_c0_5 o_c0_5 r_x0_5 o_x0_5 r_d0_5 o_d0_5
    have FIN := Lib.hid B6
    clear B6 K_c0 K_d0 K_x0 o_c0_6 o_d0_6 o_x0_6 r_c0_6 r_d0_6 r_x0_6
    go_wp2
    go_ret
    exact ⟨rfl, FIN.out⟩
  · go_enter Tryd.func3, Tryd.ntmps3
    go_wp2_with fail
    refine (szSpanS_any _ _ _ _ _ hlen (by omega) (by omega)).mono ?_
    rintro e w' ⟨rfl, rfl⟩
    rw [if_pos (by omega)]
    go_wp2
    go_ret
    exact ⟨rfl, Below.refl _ _⟩
end Go.Proofs.YtjkahdmmejmilaaDoor

/-
  PROVED HERE: what the text of the law FnSnapHeight does: it returns true and turns nothing that was there. Conditions: the walk's own.
-/
import Derived.Test.YtkbpmpndfcdpkaaSnap
import Derived.Test.YtkbpmpndfcdpkaaDrawSnap
namespace Go.Proofs.Ytkbpmpndfcdpkaa
open Go.RowKit

set_option maxHeartbeats 1000000 in
theorem fnSnapHeight_walk (a : Option Addr) (n cap : Nat) (w : World) (h : Code8 w a n cap) : Calls Try.prog 4 #[.slice a n cap] w (Ret (.bool true) w) := by
  have hn : n ≤ 9223372036854775807 := by have := h.2.1; unfold maxLen at this; omega
  by_cases hbig : 1048576 < n
  · go_enter Try.func4, Try.ntmps4
    go_wp2
    go_ret
    exact ⟨rfl, Below.refl _ _⟩
  · have H := Lib.hid h
    clear h
    go_enter Try.func4, Try.ntmps4
    go_wp2_with fail
    refine (drawSnapHeight_any a n cap w H.out).mono ?_
    rintro e w1 ⟨k, l, k1, k2, l1, l2, rfl, hb⟩
    go_wp2_with fail
    refine (implSnapHeight_any _ _ _).mono ?_
    rintro e w' ⟨rfl, rfl⟩
    go_wp2_with fail
    refine (specSnapHeight_any _ _ _).mono ?_
    rintro e w' ⟨rfl, rfl⟩
    by_cases hok : snapOk k l = true
    · have hs : snapH k l = snapI k l := by rw [snapH, if_pos hok]
      rw [hs]
      unfold snapOk at hok
      rw [Bool.and_eq_true] at hok
      have c1 := inB_true hok.1
      have c2 := inB_true hok.2
      have d := snapI_bd k l c2.1
      have e0 := snapI_mod k l
      obtain ⟨m, hm⟩ : ∃ m, m = snapI k l := ⟨_, rfl⟩
      rw [← hm] at d e0 ⊢
      obtain ⟨d1, d2⟩ := d
      obtain ⟨c1, c1'⟩ := c1
      obtain ⟨c2, c2'⟩ := c2
      have e1 : (m % l == 0) = true := by simpa using e0
      have z1 : decide (k ≤ m) = true := by simpa using d1
      have z2 : decide (m < k + l) = true := by simpa using d2
      clear hs hok hm e0
      go_wp2
      go_ret
      exact ⟨rfl, hb⟩
    · have hs : snapH k l = -1 := by rw [snapH, if_neg hok]
      rw [hs]
      clear hs hok
      go_wp2_with (go_at_call 12; refine (alive_any _).mono ?_; rintro e w5 ⟨rfl, b5⟩)
      go_ret
      exact ⟨rfl, below_next hb (by assumption) (Nat.le_refl _)⟩
end Go.Proofs.Ytkbpmpndfcdpkaa

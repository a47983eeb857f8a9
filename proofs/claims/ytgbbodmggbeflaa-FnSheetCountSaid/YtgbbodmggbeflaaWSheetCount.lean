/-
  PROVED HERE: what the text of the law FnSheetCount does: it returns true and turns nothing that was there. Conditions: the walk's own.
-/
import Derived.Test.YtgbbodmggbeflaaDraw2
namespace Go.Proofs.Ytgbbodmggbeflaa
open Go.RowKit

set_option maxHeartbeats 1000000 in
theorem fnSheetCount_walk (a : Option Addr) (n cap : Nat) (w : World) (h : Code8 w a n cap) : Calls Try.prog 4 #[.slice a n cap] w (Ret (.bool true) w) := by
  have hn : n ≤ 9223372036854775807 := by have := h.2.1; unfold maxLen at this; omega
  by_cases hbig : 1048576 < n
  · go_enter Try.func4, Try.ntmps4
    go_wp2
    go_ret
    exact ⟨rfl, Below.refl _ _⟩
  · have H := Lib.hid h
    clear h
    go_enter Try.func4, Try.ntmps4
    go_wp2_with fail
    refine (drawSheetCount_any a n cap w H.out).mono ?_
    rintro e w1 ⟨k, h1, h2, rfl, hb⟩
    by_cases h0 : 0 ≤ k ∧ k ≤ 400
    · obtain ⟨h3, h4⟩ := h0
      go_wp2
      go_ret
      exact ⟨by simp; try omega, hb⟩
    · rcases (show k < 0 ∨ 400 < k from by omega) with h3 | h3
      · go_wp2
        go_ret
        exact ⟨by simp, by repeat (first | exact hb | apply Below.drew | (refine Below.alloc ?_ (by have := hb.size; simp; omega) _))⟩
      · have hd : decide (k ≤ 400) = false := by simp; omega
        go_wp2
        all_goals go_ret
        all_goals exact ⟨by simp, by repeat (first | exact hb | apply Below.drew | (refine Below.alloc ?_ (by have := hb.size; simp; omega) _))⟩
end Go.Proofs.Ytgbbodmggbeflaa

/-
  PROVED HERE: what the text of the law FnTitleValid does: it returns true and turns nothing that was there. Conditions: the walk's own.
-/
import Derived.Test.YtfallcoehmmbeaaDoorTitW
import Derived.Test.YtfallcoehmmbeaaDoorTitI
namespace Go.Proofs.YtfallcoehmmbeaaDoor
open Go.RowKit

set_option maxHeartbeats 4000000 in
theorem fnTitleValid_walk (a : Option Addr) (n cap : Nat) (w : World) (h : Code8 w a n cap) (ht : MaxTab w) : Calls Tryd.prog 4 #[.slice a n cap] w (Ret (.bool true) w) := by
  have hn : n ≤ 9223372036854775807 := by have := h.2.1; unfold maxLen at this; omega
  by_cases hbig : 1048576 < n
  · go_enter Tryd.func4, Tryd.ntmps4
    go_wp2
    go_ret
    exact ⟨rfl, Below.refl _ _⟩
  · have H := Lib.hid h
    have TAB := Lib.hid ht
    clear h ht
    go_enter Tryd.func4, Tryd.ntmps4
    go_wp2_with fail
    refine (drawTitleValid_any a n cap w H.out).mono ?_
    rintro e w1 ⟨l, lev, pg, hl, rfl, hb⟩
    have B1 := Lib.hid hb
    have S1 := Lib.hid (fun w => specTitle_any l lev pg (by omega) w)
    have S2 := Lib.hid (fun w h => implTitle_any l lev pg (by omega) w h)
    have P0 := Lib.hid (fun w h => implTitle_any l lev 0 (by omega) w h)
    have P1 := Lib.hid (fun w h => implTitle_any l lev 1 (by omega) w h)
    have E0 : titOk l lev 0 = false := by unfold titOk; simp [inB]
    have E1 : Hid (titOk l lev pg = true → titOk l lev 1 = true) := by
      intro h
      unfold titOk at h ⊢
      simp only [Bool.and_eq_true] at h
      simp only [Bool.and_eq_true]
      exact ⟨h.1, h.2.1, h.2.2.1, h.2.2.2.1, by simp [inB]⟩
    rw [E0] at P0
    obtain ⟨tk, htk⟩ : ∃ tk, tk = titOk l lev pg := ⟨_, rfl⟩
    rw [← htk] at S1 S2 E1
    clear hb htk E0 H
    go_wp2_with (go_at_call 13; refine (S2.out _ (TAB.out.below (B1.out.alloc B1.out.size _) (Nat.le_refl _))).mono ?_)
    rintro e w2 ⟨rfl, b2⟩
    have T2 := Lib.hid b2
    have B2 := Lib.hid (below_next (B1.out.alloc B1.out.size _) b2 (Nat.le_refl _))
    obtain ⟨c0, c1, c2⟩ := boxT w1 l lev pg _ rfl w2 b2
    clear b2 S2
    go_wp2_with (go_at_call 11; refine (S1.out _).mono ?_)
    rintro e w3 ⟨rfl, b3⟩
    have T3 := Lib.hid (below_next T2.out b3 (Nat.le_refl _))
    have B3 := Lib.hid (below_next B2.out b3 (Nat.le_refl _))
    clear c0 c1 c2
    obtain ⟨c0, c1, c2⟩ := boxT w1 l lev pg _ rfl w3 T3.out
    have hlt : w1.heap.size < w3.heap.size := by have := T3.out.size; simp at this; omega
    have B4 := Lib.hid ((B3.out.alloc B3.out.size (.cells #[.string (bs l), .int .i64 lev, .int .i64 0] 26)).alloc (by have := B3.out.size; simp; omega) (.cells #[.string (bs l), .int .i64 lev, .int .i64 1] 26))
    clear b3 S1 T2 T3 B2
    cases tk
    · go_wp2_with (go_at_call 13; refine (P0.out _ (TAB.out.below B4.out (Nat.le_refl _))).mono ?_)
      rintro e w4 ⟨rfl, b4⟩
      have B5 := Lib.hid (below_next B4.out b4 (Nat.le_refl _))
      clear b4
      go_wp2_with (go_at_call 15; refine (alive_any _).mono ?_)
      rintro e w6 ⟨rfl, b6⟩
      have B6 := Lib.hid (below_next B5.out b6 (Nat.le_refl _))
      clear b6
      go_wp2
      go_ret
      exact ⟨rfl, B6.out⟩
    · rw [E1.out rfl] at P1
      clear E1
      go_wp2_with (go_at_call 13; refine (P0.out _ (TAB.out.below B4.out (Nat.le_refl _))).mono ?_)
      rintro e w4 ⟨rfl, b4⟩
      have B5 := Lib.hid (below_next B4.out b4 (Nat.le_refl _))
      obtain ⟨d0, d1, d2⟩ := boxT (w3.alloc (.cells #[.string (bs l), .int .i64 lev, .int .i64 0] 26)) l lev 1 _ rfl w4 b4
      have hz : (w3.alloc (.cells #[.string (bs l), .int .i64 lev, .int .i64 0] 26)).heap.size = w3.heap.size + 1 := by unfold World.alloc; exact Array.size_push ..
      rw [hz] at d0 d1 d2
      clear hz
      clear b4
      go_wp2_with (go_at_call 13; refine (P1.out _ (TAB.out.below B5.out (Nat.le_refl _))).mono ?_)
      rintro e w5 ⟨rfl, b5⟩
      have B6 := Lib.hid (below_next B5.out b5 (Nat.le_refl _))
      clear b5
      go_wp2_with (go_at_call 15; refine (alive_any _).mono ?_)
      rintro e w6 ⟨rfl, b6⟩
      have B7 := Lib.hid (below_next B6.out b6 (Nat.le_refl _))
      clear b6
      go_wp2
      go_ret
      exact ⟨rfl, B7.out⟩
end Go.Proofs.YtfallcoehmmbeaaDoor

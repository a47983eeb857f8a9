/-
  PROVED HERE: what the text of the law FnExactContentsLine does: it returns true and turns nothing that was there. Conditions: the walk's own.
-/
import Derived.Test.YtfallcoehmmbeaaDoorLineI
import Derived.Test.YtfallcoehmmbeaaDoorTitA
namespace Go.Proofs.YtfallcoehmmbeaaDoor
open Go.RowKit

set_option maxHeartbeats 1000000 in
theorem fnExactContentsLine_walk (s : ByteArray) (lev pg : Int) (hsz : s.size ≤ maxLen) (width : Int) (_ : (Lit.int .i64 width).wf = true) (w : World) (hm : CtTab w) : Calls Tryd.prog 5 #[.agg #[.string s, .int .i64 lev, .int .i64 pg], .int .i64 width] w (Ret (.bool true) w) := by
  obtain ⟨l, rfl⟩ : ∃ l, s = bs l := ⟨s.data.toList, rfl⟩
  have hl0 : (l.length : Int) ≤ 9223372036854775807 := by rw [bs_size] at hsz; unfold maxLen at hsz; omega
  have HM := Lib.hid hm
  have SZ := Lib.hid (fun w => szTitle_any l lev pg 1048576 hl0 (by omega) (by omega) w)
  have A0 := Lib.hid ((Below.refl w.heap.size w).alloc (Nat.le_refl _) (.cells #[.string (bs l), .int .i64 lev, .int .i64 pg] 23))
  obtain ⟨w0, hw0⟩ : ∃ w0, w0 = w.alloc (.cells #[.string (bs l), .int .i64 lev, .int .i64 pg] 23) := ⟨_, rfl⟩
  have BX := Lib.hid (boxL w l lev pg w0 hw0)
  rw [← hw0] at A0
  clear hm hsz
  by_cases hb : (1048576 : Int) < l.length
  · rw [if_pos hb] at SZ
    clear hb
    go_enter Tryd.func5, Tryd.ntmps5
    go_wp2_with fail
    rw [← hw0]
    refine (SZ.out _).mono ?_
    rintro e w1 ⟨rfl, b1⟩
    have B1 := Lib.hid (below_next A0.out b1 (Nat.le_refl _))
    clear b1
    go_wp2
    go_ret
    exact ⟨rfl, B1.out⟩
  · rw [if_neg hb] at SZ
    have hl : l.length ≤ 1048600 := by omega
    have S1 := Lib.hid (fun w => specLine_any l lev pg width hl w)
    have S2 := Lib.hid (fun w h => implLine_any l lev pg width hl w h)
    obtain ⟨V, hV⟩ : ∃ V, V = lnOk l lev pg width := ⟨_, rfl⟩
    obtain ⟨T, hT⟩ : ∃ T, T = lnTxt l lev pg width := ⟨_, rfl⟩
    rw [← hV, ← hT] at S1 S2
    have h0 : ¬ (1048576 : Int) - l.length < 0 := by omega
    obtain ⟨d, hd⟩ : ∃ d, d = (1048576 : Int) - l.length := ⟨_, rfl⟩
    rw [← hd] at SZ h0
    clear hV hT hb hl hl0 hd
    go_enter Tryd.func5, Tryd.ntmps5
    go_wp2_with fail
    rw [← hw0]
    refine (SZ.out _).mono ?_
    rintro e w1 ⟨rfl, b1⟩
    have B1 := Lib.hid b1
    obtain ⟨c0, c1, c2⟩ := BX.out w1 B1.out
    clear b1
    go_wp2_with (go_at_call 12; refine (toTitle_any _ _ _ _).mono ?_)
    rintro e w2 ⟨rfl, b2⟩
    have B2 := Lib.hid (below_next B1.out b2 (Nat.le_refl _))
    obtain ⟨d0, d1, d2⟩ := BX.out w2 B2.out
    clear b2 B1 c0 c1 c2
    go_wp2_with (go_at_call 16; refine (S1.out _).mono ?_)
    rintro e w3 ⟨rfl, b3⟩
    have B3 := Lib.hid (below_next B2.out b3 (Nat.le_refl _))
    obtain ⟨c0, c1, c2⟩ := BX.out w3 B3.out
    clear b3 B2 d0 d1 d2
    go_wp2_with (go_at_call 12; refine (toTitle_any _ _ _ _).mono ?_)
    rintro e w4 ⟨rfl, b4⟩
    have B4 := Lib.hid (below_next B3.out b4 (Nat.le_refl _))
    have M4 := Lib.hid (HM.out.below (A0.out.trans (B4.out.mono A0.out.size)) (Nat.le_refl _))
    clear b4 B3 c0 c1 c2
    go_wp2_with (go_at_call 17; refine (S2.out _ M4.out).mono ?_)
    rintro e w5 ⟨rfl, b5⟩
    have B5 := Lib.hid (A0.out.trans ((below_next B4.out b5 (Nat.le_refl _)).mono A0.out.size))
    clear b5 B4
    go_wp2
    go_ret
    exact ⟨rfl, B5.out⟩
end Go.Proofs.YtfallcoehmmbeaaDoor

/-
  PROVED HERE: what the text of the law FnContentsLine does: it returns true and turns nothing that was there. Conditions: the walk's own.
-/
import Derived.Test.YtfallcoehmmbeaaDoorLnE
import Derived.Test.YtfallcoehmmbeaaDoorCtRI
import Derived.Test.YtfallcoehmmbeaaDoorTitR
set_option linter.unusedVariables false
set_option linter.unusedSimpArgs false
namespace Go.Proofs.YtfallcoehmmbeaaDoor
open Go.RowKit

theorem lnTxt_width (l : List UInt8) (lev pg wd : Int) (h : lnOk l lev pg wd = true) : ((lnTxt l lev pg wd).length : Int) = wd := by
  have h0 := h
  unfold lnOk at h
  simp only [Bool.and_eq_true] at h
  have b := of_decide_eq_true h.2.2
  unfold lnTxt
  rw [if_pos h0]
  unfold lnPts at b ⊢
  simp only [List.length_append, List.length_replicate]
  omega

set_option maxHeartbeats 4000000 in
theorem fnContentsLine_walk (a : Option Addr) (n cap : Nat) (w : World) (h : Code8 w a n cap) (ht : RdTab w) : Calls Tryd.prog 6 #[.slice a n cap] w (Ret (.bool true) w) := by
  have hn : n ≤ 9223372036854775807 := by have := h.2.1; unfold maxLen at this; omega
  by_cases hbig : 1048576 < n
  · go_enter Tryd.func6, Tryd.ntmps6
    go_wp2
    go_ret
    exact ⟨rfl, Below.refl _ _⟩
  · have H := Lib.hid h
    have TAB := Lib.hid ht
    clear h ht
    go_enter Tryd.func6, Tryd.ntmps6
    go_wp2_with fail
    refine (drawContentsLine_any a n cap w H.out).mono ?_
    rintro e w1 ⟨l, lev, pg, wd, hl, hw0, hw1, rfl, hb⟩
    have B1 := Lib.hid hb
    have S1 := Lib.hid (fun w => specLine_any l lev pg wd (by omega) w)
    have S2 := Lib.hid (fun w h => implLine_any l lev pg wd (by omega) w h)
    obtain ⟨s, hs⟩ : ∃ s, s = lnTxt l lev pg wd := ⟨_, rfl⟩
    obtain ⟨b, hbk⟩ : ∃ b, b = lnOk l lev pg wd := ⟨_, rfl⟩
    have HN := Lib.hid (fun e : b = false => show s = [] by rw [hs]; unfold lnTxt; rw [if_neg (by rw [← hbk, e]; simp)])
    have HW := Lib.hid (fun e : b = true => show (s.length : Int) = wd by rw [hs]; exact lnTxt_width l lev pg wd (by rw [← hbk, e]))
    have HC := Lib.hid (fun e : b = true => show CtIs l lev pg s by
      have hh : lnOk l lev pg wd = true := by rw [← hbk, e]
      have := lnTxt_width l lev pg wd hh
      unfold CtIs
      rw [hs, this]
      exact ⟨hh, rfl⟩)
    rw [← hs, ← hbk] at S1 S2
    clear hb H hs hbk
    go_wp2_with (go_at_call 17; refine (S2.out _ (TAB.out.1.below (B1.out.alloc B1.out.size _) (Nat.le_refl _))).mono ?_)
    rintro e w2 ⟨rfl, b2⟩
    have T2 := Lib.hid b2
    have B2 := Lib.hid (below_next (B1.out.alloc B1.out.size _) b2 (Nat.le_refl _))
    obtain ⟨c0, c1, c2⟩ := boxT w1 l lev pg _ rfl w2 b2
    clear b2 S2
    go_wp2_with (go_at_call 16; refine (S1.out _).mono ?_)
    rintro e w3 ⟨rfl, b3⟩
    have T3 := Lib.hid (below_next T2.out b3 (Nat.le_refl _))
    have B3 := Lib.hid (below_next B2.out b3 (Nat.le_refl _))
    clear c0 c1 c2 b3 S1 T2 B2
    cases b
    · have e0 := HN.out rfl
      subst e0
      clear HN HW HC T3
      go_wp2_with (go_at_call 15; refine (alive_any _).mono ?_)
      rintro e w6 ⟨rfl, b6⟩
      have B6 := Lib.hid (below_next B3.out b6 (Nat.le_refl _))
      clear b6
      go_wp2
      go_ret
      exact ⟨rfl, B6.out⟩
    · have hwd := HW.out rfl
      obtain rfl : wd = (s.length : Int) := hwd.symm
      have RS := Lib.hid (fun w h => implReadCt_any s (by omega) w h)
      have HI := Lib.hid (HC.out rfl)
      clear HN HW HC
      go_wp2_with (go_at_call 19; refine (RS.out _ (TAB.out.below B3.out (Nat.le_refl _))).mono ?_)
      rintro e w5 ⟨z, lz, pz, b5, rfl, hr, bl5⟩
      obtain ⟨rfl, rfl, rfl, rfl⟩ := CtRes.uniq hr (.inl ⟨rfl, HI.out⟩)
      have T5 := Lib.hid (below_next T3.out bl5 (Nat.le_refl _))
      obtain ⟨c0, c1, c2⟩ := boxT w1 z lz pz _ rfl w5 T5.out
      have hlt : w1.heap.size < w5.heap.size := by have := T5.out.size; simp at this; omega
      have B6 := Lib.hid ((below_next B3.out bl5 (Nat.le_refl _)).alloc (by have h1 := B3.out.size; have h2 := bl5.size; omega) (.cells #[.string (bs z), .int .i64 lz, .int .i64 pz] 26))
      clear hr bl5 B3 RS HI T3 T5
      go_wp2
      go_ret
      exact ⟨rfl, B6.out⟩
end Go.Proofs.YtfallcoehmmbeaaDoor

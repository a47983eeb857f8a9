/-
  PROVED HERE: what the text of the law FnExactReadContents does: it returns true and turns nothing that was there. Conditions: the walk's own.
-/
import Derived.Test.YtfallcoehmmbeaaDoorCtRI
import Derived.Test.YtfallcoehmmbeaaDoorTitR
set_option linter.unusedVariables false
set_option linter.unusedSimpArgs false
namespace Go.Proofs.YtfallcoehmmbeaaDoor
open Go.RowKit

set_option maxHeartbeats 1000000 in
theorem fnExactReadContents_walk (s : ByteArray) (_ : s.size ≤ maxLen) (w : World) (ht : RdTab w) : Calls Tryd.prog 7 #[.string s] w (Ret (.bool true) w) := by
  obtain ⟨l, rfl⟩ : ∃ l, s = bs l := ⟨s.data.toList, rfl⟩
  by_cases hl : l.length ≤ 1048576
  · have S1 := Lib.hid (fun w => specReadCt_any l (by omega) w)
    have S2 := Lib.hid (fun w h => implReadCt_any l (by omega) w h)
    have TAB := Lib.hid ht
    clear ht
    go_enter Tryd.func7, Tryd.ntmps7
    go_wp2_with (go_at_call 20; refine (S1.out _).mono ?_)
    rintro e w1 ⟨x, lv, pg, b, rfl, hr, b1⟩
    have B1 := Lib.hid b1
    have HR := Lib.hid hr
    clear b1 hr
    go_wp2_with (go_at_call 19; refine (S2.out _ (TAB.out.below (B1.out.alloc B1.out.size _) (Nat.le_refl _))).mono ?_)
    rintro e w2 ⟨x', lv', pg', b', rfl, hr', b2⟩
    obtain ⟨c0', c1', c2'⟩ := boxT w1 x lv pg _ rfl w2 b2
    obtain ⟨rfl, rfl, rfl, rfl⟩ := CtRes.uniq hr' HR.out
    have B2 := Lib.hid (below_next (B1.out.alloc B1.out.size _) b2 (Nat.le_refl _))
    have hlt : w1.heap.size < w2.heap.size := by have := b2.size; simp at this; omega
    clear b2 hr' HR B1
    go_wp2_with (go_at_call 21; refine (eqTitle_any _ _ _ _).mono ?_)
    rintro e w3 ⟨rfl, b3⟩
    have B3 := Lib.hid (below_next (B2.out.alloc B2.out.size _) b3 (Nat.le_refl _))
    clear b3
    go_wp2
    go_ret
    exact ⟨rfl, B3.out⟩
  · clear ht
    go_enter Tryd.func7, Tryd.ntmps7
    go_wp2
    go_ret
    exact ⟨rfl, Below.refl _ _⟩
end Go.Proofs.YtfallcoehmmbeaaDoor

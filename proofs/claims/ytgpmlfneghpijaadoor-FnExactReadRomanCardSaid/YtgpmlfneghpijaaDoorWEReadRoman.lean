/-
  PROVED HERE: what the text of the law FnExactReadRoman does: it returns true and turns nothing that was there. Conditions: the walk's own.
-/
import Derived.Test.YtgpmlfneghpijaaDoorRdS
namespace Go.Proofs.YtgpmlfneghpijaaDoor
open Go.RowKit

set_option maxHeartbeats 1000000 in
theorem fnExactReadRoman_walk (s : ByteArray) (_ : s.size ≤ maxLen) (w : World) (ht : RomTab w) : Calls Tryd.prog 5 #[.string s] w (Ret (.bool true) w) := by
  obtain ⟨l, rfl⟩ : ∃ l, s = bs l := ⟨s.data.toList, rfl⟩
  by_cases hl : l.length ≤ 1048576
  · have S1 := Lib.hid (fun w => specRead_any l (by omega) w)
    have S2 := Lib.hid (fun w h => implRead_any l (by omega) w h)
    have TAB := Lib.hid ht
    obtain ⟨V, hV⟩ : ∃ V, V = readR l := ⟨_, rfl⟩
    rw [← hV] at S1 S2
    clear hV ht
    go_enter Tryd.func5, Tryd.ntmps5
    go_wp2_with (go_at_call 12; refine (S1.out _).mono ?_)
    rintro e w1 ⟨rfl, b1⟩
    have B1 := Lib.hid b1
    clear b1
    go_wp2_with (go_at_call 11; refine (S2.out _ (TAB.out.below B1.out)).mono ?_)
    rintro e w2 ⟨rfl, b2⟩
    have B2 := Lib.hid (below_next B1.out b2 (Nat.le_refl _))
    clear b2
    go_wp2
    go_ret
    exact ⟨rfl, B2.out⟩
  · clear ht
    go_enter Tryd.func5, Tryd.ntmps5
    go_wp2
    go_ret
    exact ⟨rfl, Below.refl _ _⟩
end Go.Proofs.YtgpmlfneghpijaaDoor

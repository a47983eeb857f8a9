/-
  PROVED HERE: what the text of the law FnExactRomanText does: it returns true and turns nothing that was there. Conditions: the walk's own.
-/
import Derived.Test.YtgpmlfneghpijaaDoorRomI
namespace Go.Proofs.YtgpmlfneghpijaaDoor
open Go.RowKit

set_option maxHeartbeats 1000000 in
theorem fnExactRomanText_walk (n : Int) (_ : (Lit.int .i64 n).wf = true) (w : World) (ht : RomTab w) : Calls Tryd.prog 3 #[.int .i64 n] w (Ret (.bool true) w) := by
  have S1 := Lib.hid (fun w => specRoman_any n w)
  have S2 := Lib.hid (fun w h => implRoman_any n w h)
  obtain ⟨T, hT⟩ : ∃ T, T = romZ n := ⟨_, rfl⟩
  rw [← hT] at S1 S2
  have TAB := Lib.hid ht
  clear hT ht
  go_enter Tryd.func3, Tryd.ntmps3
  go_wp2_with (go_at_call 7; refine (S1.out _).mono ?_)
  rintro e w1 ⟨rfl, b1⟩
  have B1 := Lib.hid b1
  clear b1
  go_wp2_with (go_at_call 8; refine (S2.out _ (TAB.out.below B1.out)).mono ?_)
  rintro e w2 ⟨rfl, b2⟩
  have B2 := Lib.hid (below_next B1.out b2 (Nat.le_refl _))
  clear b2
  go_wp2
  go_ret
  exact ⟨rfl, B2.out⟩
end Go.Proofs.YtgpmlfneghpijaaDoor

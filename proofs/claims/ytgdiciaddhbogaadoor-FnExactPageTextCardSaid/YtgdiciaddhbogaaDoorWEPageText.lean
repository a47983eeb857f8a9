/-
  PROVED HERE: what the text of the law FnExactPageText does: it returns true and turns nothing that was there. Conditions: the walk's own.
-/
import Derived.Test.YtgdiciaddhbogaaDoorPage
namespace Go.Proofs.YtgdiciaddhbogaaDoor
open Go.RowKit

set_option maxHeartbeats 1000000 in
theorem fnExactPageText_walk (n : Int) (_ : (Lit.int .i64 n).wf = true) (st : Int) (_ : (Lit.int .i64 st).wf = true) (w : World) (ht : PgTab w) : Calls Tryd.prog 3 #[.int .i64 n, .int .i64 st] w (Ret (.bool true) w) := by
  have S1 := Lib.hid (fun w => specPage_any n st w)
  have S2 := Lib.hid (fun w h => implPage_any n st w h)
  obtain ⟨T, hT⟩ : ∃ T, T = pageT n st := ⟨_, rfl⟩
  rw [← hT] at S1 S2
  have TAB := Lib.hid ht
  clear hT ht
  go_enter Tryd.func3, Tryd.ntmps3
  go_wp2_with (go_at_call 5; refine (S1.out _).mono ?_)
  rintro e w1 ⟨rfl, b1⟩
  have B1 := Lib.hid b1
  clear b1
  go_wp2_with (go_at_call 6; refine (S2.out _ (TAB.out.below B1.out)).mono ?_)
  rintro e w2 ⟨rfl, b2⟩
  have B2 := Lib.hid (below_next B1.out b2 (Nat.le_refl _))
  clear b2
  go_wp2
  go_ret
  exact ⟨rfl, B2.out⟩
end Go.Proofs.YtgdiciaddhbogaaDoor

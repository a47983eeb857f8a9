/-
  PROVED HERE: what the text of the law FnExactSnapHeight does: it returns true and turns nothing that was there. Conditions: the walk's own.
-/
import Derived.Test.YtkbpmpndfcdpkaaSnap
namespace Go.Proofs.Ytkbpmpndfcdpkaa
open Go.RowKit

set_option maxHeartbeats 1000000 in
theorem fnExactSnapHeight_walk (a : Int) (_ : (Lit.int .i64 a).wf = true) (b : Int) (_ : (Lit.int .i64 b).wf = true) (w : World) :
    Calls Try.prog 3 #[.int .i64 a, .int .i64 b] w (Ret (.bool true) w) := by
  go_enter Try.func3, Try.ntmps3
  go_wp2_with (first | (go_at_call 10; refine (implSnapHeight_any _ _ _).mono ?_; rintro e w' ⟨rfl, rfl⟩) | (go_at_call 9; refine (specSnapHeight_any _ _ _).mono ?_; rintro e w' ⟨rfl, rfl⟩))
  go_ret
  exact ⟨rfl, Below.refl _ _⟩
end Go.Proofs.Ytkbpmpndfcdpkaa

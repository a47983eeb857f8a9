/-
  PROVED HERE: what the drawing functions of sheets and areas hand back. Conditions: each theorem's own.
-/
import Derived.Test.YtgbbodmggbeflaaMany
set_option linter.unusedVariables false
set_option linter.unusedSimpArgs false
namespace Go.Proofs.Ytgbbodmggbeflaa
open Go.RowKit

/-- It returns some number within lo and hi; nothing that was there turns. -/
def DrawInt (lo hi : Int) (w : World) (e : Ending) (w' : World) : Prop :=
  ∃ k : Int, lo ≤ k ∧ k ≤ hi ∧ e = .returned (.int .i64 k) ∧ Below w.heap.size w w'

theorem drawSheetCount_any (a : Option Addr) (n cap : Nat) (w : World) (h : Code8 w a n cap) : Calls Try.prog 17 #[.slice a n cap] w (DrawInt (-1) 401 w) := by
  have H := Lib.hid h
  clear h
  go_enter Try.func17, Try.ntmps17
  go_wp2_with fail
  refine (open_any a n cap w H.out).mono ?_
  rintro e w1 ⟨B, rfl, hr, hB, hb⟩
  go_wp2_with fail
  refine (many_any B 0 w1 hr (by omega)).mono ?_
  rintro e w2 ⟨k, h1, h2, rfl, _, hg⟩
  go_wp2
  go_ret
  exact ⟨k, h1, h2, rfl, hb.grown hg (by have := hb.size; omega) (fun j hj => by cases hj; exact hB)⟩

theorem drawSheetsOf_any (a : Option Addr) (n cap : Nat) (w : World) (h : Code8 w a n cap) : Calls Try.prog 41 #[.slice a n cap] w (DrawInt (-1) 401 w) := by
  have H := Lib.hid h
  clear h
  go_enter Try.func41, Try.ntmps41
  go_wp2_with fail
  refine (open_any a n cap w H.out).mono ?_
  rintro e w1 ⟨B, rfl, hr, hB, hb⟩
  go_wp2_with fail
  refine (many_any B 0 w1 hr (by omega)).mono ?_
  rintro e w2 ⟨k, h1, h2, rfl, _, hg⟩
  go_wp2
  go_ret
  exact ⟨k, h1, h2, rfl, hb.grown hg (by have := hb.size; omega) (fun j hj => by cases hj; exact hB)⟩
end Go.Proofs.Ytgbbodmggbeflaa

/-
  PROVED HERE: what the text of the law FnExactSheetsOf does: it returns true and turns nothing that was there. Conditions: the walk's own.
-/
import Derived.Test.YtgbbodmggbeflaaSheetM
import Derived.Test.YtgbbodmggbeflaaSheetI
namespace Go.Proofs.Ytgbbodmggbeflaa
open Go.RowKit

theorem totS_append (a b : List (List Int)) : totS (a ++ b) = totS a + totS b := by
  induction a with
  | nil => simp [totS]
  | cons x t ih => simp only [List.cons_append, totS, ih]; omega
theorem totS_shN (many : Int) (n : Nat) : totS (shN many n) = 4 * n := by
  induction n with
  | zero => rfl
  | succ n ih => rw [shN_succ, totS_append, ih]; simp [totS, shPg]; omega
theorem totS_shs (many : Int) : totS (shs many) ≤ 400 := by
  unfold shs
  rw [totS_shN]
  have := shC_bd many
  omega

set_option maxHeartbeats 2000000 in
theorem fnExactSheetsOf_walk (many : Int) (_ : (Lit.int .i64 many).wf = true) (w : World) : Calls Try.prog 11 #[.int .i64 many] w (Ret (.bool true) w) := by
  have ht := totS_shs many
  have S1 := fun w => specSheets_any many w
  have S2 := fun w => implSheets_any many w
  obtain ⟨xs, hxs⟩ : ∃ xs, xs = shs many := ⟨_, rfl⟩
  rw [← hxs] at ht S1 S2
  have S1 := Lib.hid S1
  have S2 := Lib.hid S2
  clear hxs
  go_enter Try.func11, Try.ntmps11
  go_wp2_with fail
  refine (S1.out w).mono ?_
  rintro e w1 ⟨v0, rfl, o0, b1⟩
  go_wp2_with fail
  refine (S2.out w1).mono ?_
  rintro e w2 ⟨v1, rfl, ⟨us, o1⟩, b2⟩
  have I0 := Lib.hid o0.read
  have B1 := Lib.hid b1
  have B2 := Lib.hid b2
  have O1 := Lib.hid o1
  clear o0 b1 b2 o1
  go_wp2_with fail
  refine (eqSheetS_any v1 v0 xs w2 (OwnSheets.read ⟨us, O1.out⟩) (I0.out.below B2.out)).mono ?_
  rintro e w3 ⟨rfl, b3⟩
  have B3 := Lib.hid (B2.out.trans (b3.mono B2.out.size))
  have O3 := Lib.hid (O1.out.kept (w' := w3) (fun k _ _ h => b3.block k h))
  clear b3
  go_wp2_with fail
  refine (markSheetS_any v1 xs us 1 w1.heap.size w2.heap.size w3 O3.out (by omega) (by omega) (by omega)).mono ?_
  rintro e w4 ⟨rfl, o4, g4⟩
  have B4 := Lib.hid (B3.out.trans (g4.below B3.out.size))
  have I4 := Lib.hid (OwnSheets.read ⟨us, o4⟩)
  clear o4 g4 O3 O1 B2 B3
  go_wp2_with fail
  refine (heldSheetS_any v1 xs 1 w4 I4.out (by omega) (by omega) (by omega)).mono ?_
  rintro e w5 ⟨rfl, b5⟩
  have B5 := Lib.hid (B4.out.trans (b5.mono B4.out.size))
  have I5 := Lib.hid (I4.out.below b5)
  clear b5 I4 B4
  go_wp2_with fail
  refine (S2.out w5).mono ?_
  rintro e w6 ⟨v6, rfl, o6, b6⟩
  have B6 := Lib.hid (B5.out.trans (b6.mono B5.out.size))
  have I6 := Lib.hid (I5.out.below b6)
  have O6 := Lib.hid o6.read
  clear o6 b6 I5 B5
  go_wp2_with fail
  refine (eqSheetS_any v6 v0 xs w6 O6.out (I0.out.below B6.out)).mono ?_
  rintro e w7 ⟨rfl, b7⟩
  have B7 := Lib.hid (B6.out.trans (b7.mono B6.out.size))
  have I7 := Lib.hid (I6.out.below b7)
  clear b7 B6 I6 O6
  go_wp2_with fail
  refine (heldSheetS_any v1 xs 1 w7 I7.out (by omega) (by omega) (by omega)).mono ?_
  rintro e w8 ⟨rfl, b8⟩
  have bb : Below w.heap.size w w8 := B1.out.trans ((B7.out.trans (b8.mono B7.out.size)).mono B1.out.size)
  have BB := Lib.hid bb
  clear bb b8 B7 I7 I0 B1
  go_wp2
  go_ret
  exact ⟨rfl, BB.out⟩
end Go.Proofs.Ytgbbodmggbeflaa

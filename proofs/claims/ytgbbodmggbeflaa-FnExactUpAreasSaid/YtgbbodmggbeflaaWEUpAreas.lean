/-
  PROVED HERE: what the text of the law FnExactUpAreas does: it returns true and turns nothing that was there. Conditions: the walk's own.
-/
import Derived.Test.YtgbbodmggbeflaaUpArS
namespace Go.Proofs.Ytgbbodmggbeflaa
open Go.RowKit

set_option maxHeartbeats 2000000 in
theorem fnExactUpAreas_walk (r : Int) (_ : (Lit.int .i64 r).wf = true) (c : Int) (_ : (Lit.int .i64 c).wf = true) (wd : Int) (_ : (Lit.int .i64 wd).wf = true) (ht : Int) (_ : (Lit.int .i64 ht).wf = true) (g : Int) (_ : (Lit.int .i64 g).wf = true) (w : World) :
    Calls Try.prog 8 #[.int .i64 r, .int .i64 c, .int .i64 wd, .int .i64 ht, .int .i64 g] w (Ret (.bool true) w) := by
  have hlen := areas_len r c wd ht g
  obtain ⟨xs, hxs⟩ : ∃ xs, xs = areas r c wd ht g := ⟨_, rfl⟩
  obtain ⟨bb, hbb⟩ : ∃ xs, xs = arB r c wd ht g := ⟨_, rfl⟩
  have S1 := fun w => hxs ▸ hbb ▸ specAr_any r c wd ht g w
  have S2 := fun w => hxs ▸ hbb ▸ implAr_any r c wd ht g w
  rw [← hxs] at hlen
  have S1 := Lib.hid S1
  have S2 := Lib.hid S2
  clear hxs hbb
  cases bb
  all_goals
    go_enter Try.func8, Try.ntmps8
    go_wp2_with fail
    refine (S1.out w).mono ?_
    rintro e w1 ⟨v0, rfl, o0, b1⟩
    go_wp2_with fail
    refine (S2.out w1).mono ?_
    rintro e w2 ⟨v1, rfl, o1, b2⟩
    have i0 := (SRow.of_owns encArea_len rfl o0).below b2
    have i1 := SRow.of_owns encArea_len rfl o1
    go_wp2_with fail
    refine (eqAreaS_any v1 v0 xs w2 i1 i0).mono ?_
    rintro e w3 ⟨rfl, b3⟩
    have o1' := owns_below o1 b3
    go_wp2_with fail
    refine (markAreaS_any v1 xs 1 w1.heap.size w3 o1' (by omega) (by omega) (by omega)).mono ?_
    rintro e w4 ⟨rfl, o4, g4⟩
    have i4 := SRow.of_owns encArea_len (mkLArea_len 1 xs.length) o4
    have hap := owns_apart o0 o1 (Nat.le_refl _)
    have j0 := (i0.below b3).grown g4 hap
    have bb4 : Below w.heap.size w w4 := below_grown (below_next (below_next b1 b2 (Nat.le_refl _)) b3 (Nat.le_refl _)) g4 o1' b1.size (Nat.le_refl _)
    go_wp2_with fail
    refine (heldAreaS_any v1 xs.length 1 w4 i4 (by omega) (by omega) (by omega)).mono ?_
    rintro e w5 ⟨rfl, b5⟩
    go_wp2_with fail
    refine (S2.out w5).mono ?_
    rintro e w6 ⟨v6, rfl, o6, b6⟩
    go_wp2_with fail
    refine (eqAreaS_any v6 v0 xs w6 (SRow.of_owns encArea_len rfl o6) ((j0.below b5).below b6)).mono ?_
    rintro e w7 ⟨rfl, b7⟩
    go_wp2_with fail
    refine (heldAreaS_any v1 xs.length 1 w7 (((i4.below b5).below b6).below b7) (by omega) (by omega) (by omega)).mono ?_
    rintro e w8 ⟨rfl, b8⟩
    have bb8 : Below w.heap.size w w8 := below_next (below_next (below_next (below_next bb4 b5 (Nat.le_refl _)) b6 (Nat.le_refl _)) b7 (Nat.le_refl _)) b8 (Nat.le_refl _)
    clear o0 o1 o1' o4 o6 i0 i1 i4 j0 hap g4 b1 b2 b3 b5 b6 b7 b8 bb4
    go_wp2
    go_ret
    exact ⟨rfl, bb8⟩
end Go.Proofs.Ytgbbodmggbeflaa

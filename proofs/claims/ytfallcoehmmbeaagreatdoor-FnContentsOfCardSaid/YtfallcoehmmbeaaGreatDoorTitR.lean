
/-
  PROVED HERE: rows of titles: compared, marked, copied, counted. Conditions: each theorem's own.
-/
import Derived.Test.YtfallcoehmmbeaaGreatDoorTitA
import Derived.Test.YtfallcoehmmbeaaGreatDoorMarkX
import Derived.Test.YtfallcoehmmbeaaGreatDoorSRow
import Derived.Test.YtfallcoehmmbeaaGreatDoorOpenS
import Derived.StillTailTactics
import Derived.OwnWalk
set_option linter.unusedVariables false
set_option linter.unusedSimpArgs false
namespace Go.Proofs.YtfallcoehmmbeaaGreatDoor
open Go.RowKit
open Go.ChangeShapes Go.WideShapes Go.Deep
set_option maxRecDepth 100000

/-- What a Title holds. -/
structure DTitle where
  f0 : List UInt8
  f1 : Int
  f2 : Int
/-- Its cells. -/
def encTitle (x : DTitle) : List Value := [.string (bs x.f0), .int .i64 x.f1, .int .i64 x.f2]
theorem encTitle_len (x : DTitle) : (encTitle x).length = 3 := rfl
theorem encTitle_pos (x : DTitle) : 0 < (encTitle x).length := by rw [encTitle_len]; decide
theorem setTitle_run (A R : List Value) (c0 c1 c2 v0 v1 v2 : Value) (n : Nat) (h : A.length = n) : (((A ++ (c0 :: c1 :: c2 :: R)).set n v0).set (n + 1) v1).set (n + 2) v2 = A ++ (v0 :: v1 :: v2 :: R) := by
  subst h
  simp
/-- One is overwritten. -/
theorem putTitle_run (xs : List DTitle) (j : Nat) (h : j < xs.length) (y : DTitle) (M : List Value) (hM : M = xs.flatMap encTitle) :
    ((M.set (j * 3) (.string (bs y.f0))).set (j * 3 + 1) (.int .i64 y.f1)).set (j * 3 + 2) (.int .i64 y.f2) = (xs.set j y).flatMap encTitle := by
  subst hM
  have e1 : xs = xs.take j ++ (xs[j] :: xs.drop (j + 1)) := by rw [← List.drop_eq_getElem_cons h, List.take_append_drop]
  have e2 : xs.set j y = xs.take j ++ (y :: xs.drop (j + 1)) := by
    rw [List.set_eq_take_append_cons_drop, if_pos h]
  have e := setTitle_run ((xs.take j).flatMap encTitle) ((xs.drop (j + 1)).flatMap encTitle) (.string (bs xs[j].f0)) (.int .i64 xs[j].f1) (.int .i64 xs[j].f2) (.string (bs y.f0)) (.int .i64 y.f1) (.int .i64 y.f2) (j * 3) (by rw [flatMap_len encTitle 3 _ (fun x _ => encTitle_len x), List.length_take]; omega)
  rw [e2]
  conv => lhs; rw [e1]
  rw [List.flatMap_append, List.flatMap_cons, List.flatMap_append, List.flatMap_cons]
  simp only [encTitle, List.cons_append, List.nil_append] at e ⊢
  exact e

theorem info_Title : (Tryz.prog.info? 32).map (fun i => (i.zero, i.size, i.bytes)) = some (some (.agg #[.string ByteArray.empty, .int .i64 0, .int .i64 0]), 3, 32) := by kernel_rfl
theorem take_set_succTitle (ys : List Value) (m : Nat) (v : Value) (h : m < ys.length) : (ys.set m v).take (m + 1) = ys.take m ++ [v] := by
  rw [List.take_succ_eq_append_getElem (by simpa using h), List.take_set_of_le (Nat.le_refl _)]
  simp
/-- It returns a row of its own that reads as xs, and turns nothing that was there. -/
def OwnTitle (xs : List DTitle) (w : World) (e : Ending) (w' : World) : Prop :=
  ∃ v, e = .returned v ∧ w'.ownsRow w.heap.size 32 3 v xs.length (xs.flatMap encTitle) ∧ Below w.heap.size w w'

/-- Each text is of a size that a string can have. -/
def ShortT (xs : List DTitle) : Prop := ∀ x ∈ xs, x.f0.length ≤ 9223372036854775807
def szTL : Int → List DTitle → Int
  | l, [] => l
  | l, x :: t => if l < x.f0.length then -1 else szTL (l - x.f0.length) t
theorem szTL_bd : ∀ (xs : List DTitle) (l : Int), 0 ≤ l → szTL l xs = -1 ∨ (0 ≤ szTL l xs ∧ ∀ x ∈ xs, (x.f0.length : Int) ≤ l)
  | [], l, h => .inr ⟨by rw [szTL]; exact h, fun s hs => by cases hs⟩
  | x :: t, l, h => by
    rw [szTL]
    split
    · exact .inl rfl
    · rename_i hc
      rcases szTL_bd t (l - x.f0.length) (by omega) with h1 | ⟨h1, h2⟩
      · exact .inl h1
      · refine .inr ⟨h1, fun s hs => ?_⟩
        rcases List.mem_cons.1 hs with rfl | hs
        · omega
        · have := h2 s hs; omega
/-- The count is below zero; or there are not many titles, none long. -/
def SzTPost (xs : List DTitle) (w : World) (e : Ending) (w' : World) : Prop := (∃ r : Int, e = .returned (.int .i64 r) ∧ (r = -1 ∨ (0 ≤ r ∧ xs.length ≤ 1048576 ∧ ∀ x ∈ xs, x.f0.length ≤ 1048576))) ∧ Below w.heap.size w w'

/-- What marking a row of titles leaves: a row of as many titles. -/
def MarkTitlePost (k : Int) (n base : Nat) (v : Value) (w : World) (e : Ending) (w' : World) : Prop :=
  ∃ ys : List DTitle, ys.length = n ∧ e = .returned (.int .i64 (k + 3 * n)) ∧ w'.ownsRow base 32 3 v n (ys.flatMap encTitle) ∧ w.grownBy w' v.ownBlock

end Go.Proofs.YtfallcoehmmbeaaGreatDoor

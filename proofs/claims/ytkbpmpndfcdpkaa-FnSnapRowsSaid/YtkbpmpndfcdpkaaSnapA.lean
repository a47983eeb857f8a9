/-
  PROVED HERE: what SnapRows of both return, in one statement each. Conditions: each theorem's own.
-/
import Derived.Test.YtkbpmpndfcdpkaaSnapR
import Derived.Test.YtkbpmpndfcdpkaaRowO
import Derived.Test.YtkbpmpndfcdpkaaRows3
namespace Go.Proofs.Ytkbpmpndfcdpkaa
open Go.RowKit

def snapXs (s : Int) (xs : List DRow) : List Int := if (rowsB xs && inB s 1 1000) = true then snapTops s 0 (xs.map (·.f0)) else []
def snapB (s : Int) (xs : List DRow) : Int := if (rowsB xs && inB s 1 1000) = true then snapBot s 0 (xs.map (·.f0)) else -1
theorem snapXs_len (s : Int) (xs : List DRow) : (snapXs s xs).length ≤ xs.length := by
  unfold snapXs
  split
  · rw [snapTops_len, List.length_map]; exact Nat.le_refl _
  · simp
theorem implSnapRows_any (v : Value) (xs : List DRow) (s : Int) (w : World) (h : SRow 4 encRow w v xs) : Calls Try.prog 16 #[v, .int .i64 s] w (SnapPost (snapXs s xs) (snapB s xs) w) := by
  unfold snapXs snapB
  cases hb : (rowsB xs && inB s 1 1000)
  · exact implSnapRows_no v xs s w h hb
  · rw [Bool.and_eq_true] at hb
    exact implSnapRows_yes v xs s w h hb.1 hb.2
theorem specSnapRows_any (v : Value) (xs : List DRow) (s : Int) (w : World) (h : SRow 4 encRow w v xs) : Calls Try.prog 14 #[v, .int .i64 s] w (SnapPost (snapXs s xs) (snapB s xs) w) := by
  unfold snapXs snapB
  cases hb : (rowsB xs && inB s 1 1000)
  · exact specSnapRows_no v xs s w h hb
  · rw [Bool.and_eq_true] at hb
    exact specSnapRows_yes v xs s w h hb.1 hb.2
end Go.Proofs.Ytkbpmpndfcdpkaa

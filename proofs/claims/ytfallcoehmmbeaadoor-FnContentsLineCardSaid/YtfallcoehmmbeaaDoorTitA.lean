/-
  PROVED HERE: a title as an argument: counted, copied. Conditions: each theorem's own.
-/
import Derived.Test.YtfallcoehmmbeaaDoorTitI
set_option linter.unusedVariables false
set_option linter.unusedSimpArgs false
namespace Go.Proofs.YtfallcoehmmbeaaDoor
open Go.RowKit

theorem szTitle_any (l : List UInt8) (lev pg left : Int) (hl : (l.length : Int) ≤ 9223372036854775807) (h0 : 0 ≤ left) (h1 : left ≤ 1048576) (w : World) : Calls Tryd.prog 10 #[.agg #[.string (bs l), .int .i64 lev, .int .i64 pg], .int .i64 left] w (Ret (.int .i64 (if left < l.length then -1 else left - l.length)) w) := by
  have hs := bs_size l
  by_cases h : left < l.length
  · have h' : left - (l.length : Int) < 0 := by omega
    rw [if_pos h]
    go_enter Tryd.func10, Tryd.ntmps10
    go_wp2
    go_ret
    exact ⟨rfl, (Below.refl _ _).alloc (Nat.le_refl _) _⟩
  · have h' : ¬ left - (l.length : Int) < 0 := by omega
    rw [if_neg h]
    go_enter Tryd.func10, Tryd.ntmps10
    go_wp2
    go_ret
    exact ⟨rfl, (Below.refl _ _).alloc (Nat.le_refl _) _⟩
theorem toTitle_any (s : ByteArray) (lev pg : Int) (w : World) : Calls Tryd.prog 12 #[.agg #[.string s, .int .i64 lev, .int .i64 pg]] w (Ret (.agg #[.string s, .int .i64 lev, .int .i64 pg]) w) := by
  go_enter Tryd.func12, Tryd.ntmps12
  go_wp2
  refine bodyPost_ret (v := .agg #[.string s, .int .i64 lev, .int .i64 pg]) (by simp [results, Tryd.results12, go_sem]) rfl ⟨rfl, ?_⟩
  repeat (first | exact Below.refl _ _ | apply Below.drew | (refine Below.alloc ?_ (by first | (simp; done) | (simp; omega)) _) | (refine Below.setCell ?_ (by simp) _))

theorem boxL (w : World) (l : List UInt8) (lev pg : Int) (w0 : World) (hw0 : w0 = w.alloc (.cells #[.string (bs l), .int .i64 lev, .int .i64 pg] 23)) (wi : World) (hb : Below w0.heap.size w0 wi) :
    wi.cell? ⟨w.heap.size, 0, none⟩ = some (.string (bs l)) ∧ wi.cell? ⟨w.heap.size, 1, none⟩ = some (.int .i64 lev) ∧ wi.cell? ⟨w.heap.size, 2, none⟩ = some (.int .i64 pg) := by
  have hlt : w.heap.size < w0.heap.size := by rw [hw0]; simp
  refine ⟨(hb.cell (p := ⟨w.heap.size, 0, none⟩) hlt).trans ?_, (hb.cell (p := ⟨w.heap.size, 1, none⟩) hlt).trans ?_, (hb.cell (p := ⟨w.heap.size, 2, none⟩) hlt).trans ?_⟩
  all_goals
    rw [hw0, World.cell?_alloc_at _ _ _ _ rfl]
    rfl
end Go.Proofs.YtfallcoehmmbeaaDoor

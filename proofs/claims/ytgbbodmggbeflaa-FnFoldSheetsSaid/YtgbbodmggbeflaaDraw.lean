/-
  PROVED HERE: what the drawing functions of the reference hand back: some number in a range; nothing that was there turns. Conditions: each theorem's own.
-/
import Derived.Test.YtgbbodmggbeflaaOpen
set_option linter.unusedVariables false
set_option linter.unusedSimpArgs false
namespace Go.Proofs.Ytgbbodmggbeflaa
open Go.RowKit

theorem lit_cell (w : World) (l : List Int) (t : TypeId) (i : Nat) (h : i < l.length) :
    ∃ z, z ∈ l ∧ (w.alloc (.cells (l.map (Value.int .i64)).toArray t)).cell? ⟨w.heap.size, i, none⟩ = some (.int .i64 z) := by
  refine ⟨l[i], List.getElem_mem h, ?_⟩
  rw [World.cell?_alloc_at _ _ _ _ rfl]
  simp [h]

theorem Rd.lt {w : World} {B p : Nat} (h : Rd w B p) : B < w.heap.size := by
  obtain ⟨_, _, _, _, hb, _⟩ := h
  exact (Array.getElem?_eq_some_iff.1 hb).1

/-- It returns some number within lo and hi; the reader goes on; else nothing turns. -/
def NumPost (lo hi : Int) (d : Nat) (w : World) (B p : Nat) (e : Ending) (w' : World) : Prop :=
  ∃ k : Int, lo ≤ k ∧ k ≤ hi ∧ e = .returned (.int .i64 k) ∧ Rd w' B (p + d) ∧ w.grownBy w' (some B)

end Go.Proofs.Ytgbbodmggbeflaa

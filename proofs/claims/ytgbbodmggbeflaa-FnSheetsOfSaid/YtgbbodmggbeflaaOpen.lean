/-
  PROVED HERE: what is told of a code that came in, and that a reader of it is opened. Conditions: each theorem's own.
-/
import Derived.Test.YtgbbodmggbeflaaCore
set_option linter.unusedVariables false
set_option linter.unusedSimpArgs false
namespace Go.Proofs.Ytgbbodmggbeflaa
open Go.RowKit

/-- A code is opened: a reader at a new block. -/
def OpenPost (w : World) (e : Ending) (w' : World) : Prop := ∃ B, e = .returned (.pointer (some ⟨B, 0, none⟩)) ∧ Rd w' B 0 ∧ w.heap.size ≤ B ∧ Below w.heap.size w w'

/-- What is told of a code that came in. -/
def Code8 (w : World) (a : Option Addr) (n cap : Nat) : Prop := n ≤ cap ∧ n ≤ maxLen ∧ ∃ zs : List Int, ∀ j, j < n → ∃ b off, a = some ⟨b, off, none⟩ ∧ w.cell? ⟨b, off + j, none⟩ = some (.int .u8 (zs.getD j 0)) ∧ 0 ≤ zs.getD j 0 ∧ zs.getD j 0 ≤ 255

theorem Code8.below {w w' : World} {a : Option Addr} {n cap : Nat} (h : Code8 w a n cap) (hb : Below w.heap.size w w') : Code8 w' a n cap := by
  obtain ⟨hcap, hn, zs, hc⟩ := h
  refine ⟨hcap, hn, zs, fun j hj => ?_⟩
  obtain ⟨b, off, ha, h', h0, h1⟩ := hc j hj
  exact ⟨b, off, ha, (hb.cell (p := ⟨b, off + j, none⟩) (World.block_lt_of_cell? w _ h')).trans h', h0, h1⟩

theorem Code8.none (w : World) : Code8 w Option.none 0 0 := ⟨Nat.le_refl _, Nat.zero_le _, [], fun j hj => by omega⟩
theorem Code8.mk {w : World} {x : Addr} {n : Nat} {cap : Nat} (zs : List Int) (hn : n ≤ cap) (hm : cap ≤ maxLen) (hz : cap ≤ zs.length) (hc : ∀ i, i < zs.length → w.cell? (x.add i) = some (.int .u8 (zs.getD i 0))) (hw : ∀ n ∈ zs, (Lit.int .u8 n).wf = true) : Code8 w (some x) n cap := by
  refine ⟨hn, by omega, zs, fun j hj => ?_⟩
  obtain ⟨b, off, rfl, hc'⟩ := ints_at hc (by omega)
  have hj' : j < zs.length := by omega
  have hb := bounds_u8 (hw (zs.getD j 0) (by simp [List.getD, hj']))
  exact ⟨b, off, rfl, hc' j hj', hb.1, hb.2⟩

theorem open_any (a : Option Addr) (n cap : Nat) (w : World) (h : Code8 w a n cap) :
    Calls Try.prog 51 #[.slice a n cap] w (OpenPost w) := by
  obtain ⟨hcap, hn, zs, hc⟩ := h
  have hn' : n ≤ 9223372036854775807 := by unfold maxLen at hn; omega
  have HC := Lib.hid hc
  clear hc hn
  by_cases h2 : 2000 < n
  · obtain ⟨b, off, rfl, _⟩ := HC.out 0 (by omega)
    go_enter Try.func51, Try.ntmps51
    go_wp2
    go_ret
    refine ⟨_, rfl, ⟨some ⟨b, off, none⟩, 2000, cap, zs, heap_alloc_new w _, by omega, fun j hj => ?_⟩, Nat.le_refl _, (Below.refl _ _).alloc (Nat.le_refl _) _⟩
    obtain ⟨b', off', ha, h', h0, h1⟩ := HC.out j (by omega)
    have hlt := World.block_lt_of_cell? w _ h'
    exact ⟨b', off', ha, by simp at hlt; omega, by rw [World.cell?_alloc_past _ _ _ hlt]; exact h', h0, h1⟩
  · go_enter Try.func51, Try.ntmps51
    go_wp2
    go_ret
    refine ⟨_, rfl, ⟨a, n, cap, zs, heap_alloc_new w _, by omega, fun j hj => ?_⟩, Nat.le_refl _, (Below.refl _ _).alloc (Nat.le_refl _) _⟩
    obtain ⟨b, off, ha, h', h0, h1⟩ := HC.out j hj
    have hlt := World.block_lt_of_cell? w _ h'
    exact ⟨b, off, ha, by simp at hlt; omega, by rw [World.cell?_alloc_past _ _ _ hlt]; exact h', h0, h1⟩
end Go.Proofs.Ytgbbodmggbeflaa

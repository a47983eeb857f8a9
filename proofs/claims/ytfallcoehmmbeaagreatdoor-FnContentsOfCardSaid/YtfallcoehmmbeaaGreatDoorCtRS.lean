
/-
  PROVED HERE: what ReadContents of the reference returns. Conditions: each theorem's own.
-/
import Derived.Test.YtfallcoehmmbeaaGreatDoorCtRd
import Derived.Test.YtfallcoehmmbeaaGreatDoorDigs
import Derived.Test.YtfallcoehmmbeaaGreatDoorLineS
set_option linter.unusedVariables false
set_option linter.unusedSimpArgs false
namespace Go.Proofs.YtfallcoehmmbeaaGreatDoor
open Go.RowKit

theorem owns_lit3 (w : World) (base : Nat) (E : TypeId) (sz n : Nat) (l : List Value) (hb : base ≤ w.heap.size) (hn : n ≤ maxLen) (hl : l.length = n * sz) : (w.alloc (.cells l.toArray E)).ownsRow base E sz (.slice (some ⟨w.heap.size, 0, none⟩) n n) n l :=
  ⟨hl, .inr ⟨w.heap.size, n, l.toArray, rfl, hb, heap_alloc_new w _, Nat.le_refl _, hn, by simpa using hl, by rw [← hl]; simp⟩⟩
/-- What is known of a cell of three that is the call's own. -/
def Res3 (w : World) (g : Nat) : Prop := ∃ x y z : Value, w.cell? ⟨g, 0, none⟩ = some x ∧ w.cell? ⟨g, 1, none⟩ = some y ∧ w.cell? ⟨g, 2, none⟩ = some z
theorem own3 {w : World} {base g : Nat} {E : TypeId} {x y z : Value} (h : w.ownsRow base E 3 (.slice (some ⟨g, 0, none⟩) 1 1) 1 [x, y, z]) : w.cell? ⟨g, 0, none⟩ = some x ∧ w.cell? ⟨g, 1, none⟩ = some y ∧ w.cell? ⟨g, 2, none⟩ = some z :=
  ⟨h.cellAt 0 (by omega), h.cellAt 1 (by omega), h.cellAt 2 (by omega)⟩
theorem own3_put {w0 w : World} {base g : Nat} {E : TypeId} {x y z : Value} (h : w.ownsRow base E 3 (.slice (some ⟨g, 0, none⟩) 1 1) 1 [x, y, z]) (hb : Below w0.heap.size w0 w) (hg : w0.heap.size ≤ g) (a b c : Value) :
    Below w0.heap.size w0 (((w.setCell ⟨g, 0, none⟩ a).setCell ⟨g, 1, none⟩ b).setCell ⟨g, 2, none⟩ c) := by
  have s0 := h.stored 0 a
  have s1 := s0.1.stored 1 b
  have s2 := s1.1.stored 2 c
  have h0 := hb.size
  have h1 := s0.2.size
  have h2 := s1.2.size
  exact ((hb.grown s0.2 h0 (fun j hj => by cases hj; exact hg)).grown s1.2 (by omega) (fun j hj => by cases hj; exact hg)).grown s2.2 (by omega) (fun j hj => by cases hj; exact hg)
theorem own3_read {w : World} {base g : Nat} {E : TypeId} {x y z : Value} (h : w.ownsRow base E 3 (.slice (some ⟨g, 0, none⟩) 1 1) 1 [x, y, z]) (a b c : Value) :
    (w.setCell ⟨g, 0, none⟩ a).cell? ⟨g, 0, none⟩ = some a ∧ ((w.setCell ⟨g, 0, none⟩ a).setCell ⟨g, 1, none⟩ b).cell? ⟨g, 1, none⟩ = some b ∧ (((w.setCell ⟨g, 0, none⟩ a).setCell ⟨g, 1, none⟩ b).setCell ⟨g, 2, none⟩ c).cell? ⟨g, 2, none⟩ = some c := by
  have s0 := h.stored 0 a
  have s1 := s0.1.stored 1 b
  have s2 := s1.1.stored 2 c
  exact ⟨s0.1.cellAt 0 (by omega), s1.1.cellAt 1 (by omega), s2.1.cellAt 2 (by omega)⟩
theorem ne_u8 (c : UInt8) (k : Nat) (hk : k < 256) (h : c.toNat ≠ k) : c ≠ UInt8.ofNat k := by
  intro e
  apply h
  rw [e, UInt8.toNat_ofNat']
  omega
theorem eq_u8 (c : UInt8) (k : Nat) (h : c.toNat = k) : c = UInt8.ofNat k := by
  rw [← h]
  simp

end Go.Proofs.YtfallcoehmmbeaaGreatDoor

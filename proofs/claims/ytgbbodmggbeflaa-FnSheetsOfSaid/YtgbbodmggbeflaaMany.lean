/-
  PROVED HERE: what l20Many hands back. Conditions: the theorem's own.
-/
import Derived.Test.YtgbbodmggbeflaaDraw
set_option linter.unusedVariables false
set_option linter.unusedSimpArgs false
namespace Go.Proofs.Ytgbbodmggbeflaa
open Go.RowKit

set_option maxHeartbeats 1000000 in
theorem many_any (B p : Nat) (w : World) (h : Rd w B p) (hp : p ≤ 100000000) : Calls Try.prog 50 #[.pointer (some ⟨B, 0, none⟩)] w (NumPost (-1) 401 3 w B p) := by
  go_enter Try.func50, Try.ntmps50
  go_wp2_with fail
  refine (pick_any B p 20 _ h (by omega) (by omega) (by omega)).mono ?_
  rintro e w1 ⟨k1, a1, b1, rfl, r1, g1, z1⟩
  go_wp2_with fail
  refine (pick_any B (p + 1) 256 _ r1 (by omega) (by omega) (by omega)).mono ?_
  rintro e w2 ⟨k2, a2, b2, rfl, r2, g2, z2⟩
  go_wp2_with fail
  have hs2 : w2.heap.size = w.heap.size := z2.trans z1
  have q1 := lit_cell w2 [k1, k2, 400, 401, -1] 3
  have q2 := lit_cell (w2.alloc (.cells ([k1, k2, 400, 401, -1].map (Value.int .i64)).toArray 3)) [0, 0, 0, 1, 1, 2, 3, 4] 3
  refine (pick_any B (p + 1 + 1) 8 _ ((r2.kept (World.grownBy_alloc _ _ none) (by intro k h; cases h)).kept (World.grownBy_alloc _ _ none) (by intro k h; cases h)) (by omega) (by omega) (by omega)).mono ?_
  rintro e w3 ⟨k3, a3, b3, rfl, r3, g3, z3⟩
  have hB : B < w.heap.size := h.lt
  obtain ⟨j, hj, c2⟩ := q2 k3.toNat (by simp; omega)
  have hj2 := (by decide : ∀ z ∈ ([0, 0, 0, 1, 1, 2, 3, 4] : List Int), 0 ≤ z ∧ z ≤ 4) j hj
  obtain ⟨u, hu, c1⟩ := q1 j.toNat (by simp; omega)
  have hu2 : -1 ≤ u ∧ u ≤ 401 := by simp at hu; omega
  have d2 := g3.cell c2 (by simp [hs2]; omega)
  have d1 := g3.cell ((World.cell?_alloc_past _ _ _ (by simp)).trans c1) (by simp [hs2]; omega)
  have e2 : w3.cell? ⟨w.heap.size + 1, k3.toNat, none⟩ = some (.int .i64 j) := by rw [← d2]; simp [hs2]
  have e1 : w3.cell? ⟨w.heap.size, j.toNat, none⟩ = some (.int .i64 u) := by rw [← d1, hs2]
  have G := Lib.hid (grownBy_trans (grownBy_trans g1 g2) (grownBy_trans (grownBy_trans (World.grownBy_alloc _ _ _) (World.grownBy_alloc _ _ _)) g3))
  clear c1 c2 d1 d2 q1 q2 hj hu g1 g2 g3 r1 r2
  go_wp2
  go_ret
  exact ⟨u, hu2.1, hu2.2, rfl, r3, G.out⟩
end Go.Proofs.Ytgbbodmggbeflaa

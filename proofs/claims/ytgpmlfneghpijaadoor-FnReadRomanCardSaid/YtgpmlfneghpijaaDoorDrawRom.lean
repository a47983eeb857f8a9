/-
  PROVED HERE: what the drawing functions of numerals hand back. Conditions: each theorem's own.
-/
import Derived.Test.YtgpmlfneghpijaaDoorDraw
import Derived.Test.YtgpmlfneghpijaaDoorRdTo
import Derived.Test.YtgpmlfneghpijaaDoorRomS
namespace Go.Proofs.YtgpmlfneghpijaaDoor
open Go.RowKit

/-- It returns some number within lo and hi; nothing that was there turns. -/
def DrawInt (lo hi : Int) (w : World) (e : Ending) (w' : World) : Prop :=
  ∃ k : Int, lo ≤ k ∧ k ≤ hi ∧ e = .returned (.int .i64 k) ∧ Below w.heap.size w w'
/-- It returns some text that is not long. -/
def DrawTxt (w : World) (e : Ending) (w' : World) : Prop := ∃ l : List UInt8, l.length ≤ 16 ∧ e = .returned (.string (bs l)) ∧ Below w.heap.size w w'

set_option maxHeartbeats 1000000 in
theorem drawRomanText_any (a : Option Addr) (n cap : Nat) (w : World) (h : Code8 w a n cap) : Calls Tryd.prog 9 #[.slice a n cap] w (DrawInt (-1) 4335 w) := by
  have H := Lib.hid h
  clear h
  go_enter Tryd.func9, Tryd.ntmps9
  go_wp2_with fail
  refine (open_any a n cap w H.out).mono ?_
  rintro e w0 ⟨B, rfl, hr, hB, hb⟩
  have HB0 := Lib.hid hb
  clear hb
  go_wp2_with fail
  refine (pick_any B 0 256 _ hr (by omega) (by omega) (by omega)).mono ?_
  rintro e w1 ⟨k1, a1, b1, rfl, r1, g1, z1⟩
  go_wp2_with fail
  refine (pick_any B (0 + 1) 256 _ r1 (by omega) (by omega) (by omega)).mono ?_
  rintro e w2 ⟨k2, a2, b2, rfl, r2, g2, z2⟩
  go_wp2_with fail
  have hs2 : w2.heap.size = w0.heap.size := z2.trans z1
  have q1 := lit_cell w2 [k1, k2 * 17, 3999, 4000, 0, -1] 3
  have q2 := lit_cell (w2.alloc (.cells ([k1, k2 * 17, 3999, 4000, 0, -1].map (Value.int .i64)).toArray 3)) [0, 0, 1, 1, 1, 2, 3, 4, 5] 3
  refine (pick_any B (0 + 1 + 1) 9 _ ((r2.kept (World.grownBy_alloc _ _ none) (by intro k h; cases h)).kept (World.grownBy_alloc _ _ none) (by intro k h; cases h)) (by omega) (by omega) (by omega)).mono ?_
  rintro e w3 ⟨k3, a3, b3, rfl, r3, g3, z3⟩
  have hBl : B < w0.heap.size := hr.lt
  obtain ⟨j, hj, c2⟩ := q2 k3.toNat (by simp; omega)
  have hj2 := (by decide : ∀ z ∈ ([0, 0, 1, 1, 1, 2, 3, 4, 5] : List Int), 0 ≤ z ∧ z ≤ 5) j hj
  obtain ⟨u, hu, c1⟩ := q1 j.toNat (by simp; omega)
  have hu2 : -1 ≤ u ∧ u ≤ 4335 := by simp at hu; omega
  have d2 := g3.cell c2 (by simp [hs2]; omega)
  have d1 := g3.cell ((World.cell?_alloc_past _ _ _ (by simp)).trans c1) (by simp [hs2]; omega)
  have e2 : w3.cell? ⟨w0.heap.size + 1, k3.toNat, none⟩ = some (.int .i64 j) := by rw [← d2]; simp [hs2]
  have e1 : w3.cell? ⟨w0.heap.size, j.toNat, none⟩ = some (.int .i64 u) := by rw [← d1, hs2]
  have G := Lib.hid (grownBy_trans (grownBy_trans g1 g2) (grownBy_trans (grownBy_trans (World.grownBy_alloc _ _ _) (World.grownBy_alloc _ _ _)) g3))
  clear c1 c2 d1 d2 q1 q2 hj hu g1 g2 g3 r1 r2
  go_wp2
  go_ret
  exact ⟨u, hu2.1, hu2.2, rfl, HB0.out.grown G.out (by have := HB0.out.size; omega) (fun j hj => by cases hj; exact hB)⟩
end Go.Proofs.YtgpmlfneghpijaaDoor

/-
  PROVED HERE: what the drawing functions of pictures and of the room of pages hand back. Conditions: each theorem's own.
-/
import Derived.Test.YtoeaaoceicjmdaaDrawIns
import Derived.Test.YtoeaaoceicjmdaaPlaceFn
namespace Go.Proofs.Ytoeaaoceicjmdaa
open Go.RowKit

theorem apart_of {w : World} {v u : Value} {lo base : Nat} {E : TypeId} {sz n : Nat} {xs : List Value} (hv : ∀ k, v.ownBlock = some k → lo ≤ k ∧ k < base) (hu : w.ownsRow base E sz u n xs) : v.ownBlock = none ∨ v.ownBlock ≠ u.ownBlock := by
  cases e : v.ownBlock with
  | none => exact .inl rfl
  | some k =>
    right
    intro e2
    have := (hv k e).2
    have := (hu.lt k e2.symm).1
    omega

/-- It returns pictures and numbers that are its own, each in a row of its own; nothing that was there turns. -/
def DrawPl (w : World) (e : Ending) (w' : World) : Prop :=
  ∃ (xs : List DInset) (rs : List Int) (v u : Value), xs.length ≤ 8 ∧ rs.length ≤ 13 ∧ e = .returned (.tuple #[v, u]) ∧ w'.ownsRow w.heap.size 32 2 v xs.length (xs.flatMap encInset) ∧ w'.ownsRow w.heap.size 3 1 u rs.length (rs.map (Value.int .i64)) ∧ Below w.heap.size w w'

set_option maxHeartbeats 4000000 in
theorem drawPlaceInsets_any (a : Option Addr) (n cap : Nat) (w : World) (h : Code8 w a n cap) : Calls Try.prog 24 #[.slice a n cap] w (DrawPl w) := by
  have H := Lib.hid h
  obtain ⟨i0, hi, hz0, hz1, hz2⟩ := info_parts info_int
  clear h
  go_enter Try.func24, Try.ntmps24
  go_wp2_with fail
  refine (open_any a n cap w H.out).mono ?_
  rintro e w1 ⟨B, rfl, hr, hB, hb⟩
  go_wp2_with fail
  refine (l20Insets_to B 0 9 w1 ⟨0, Nat.le_refl _, hr⟩ (by omega) (by omega) (by omega)).mono ?_
  rintro e w2 ⟨xs, v, hl, rfl, ho, hd⟩
  have hBw := hd.2.2
  have hw12 := hd.size
  have hw01 : w.heap.size ≤ w1.heap.size := hb.size
  have HB := Lib.hid hb
  -- from here on: drawing over w1; the pictures lie below w2, the numbers from w2 on
  have dA := hd.alloc (.cells #[] 3)
  have oA := ho.alloc (.cells #[] 3)
  have nA : (w2.alloc (.cells #[] 3)).ownsRow w2.heap.size 3 1 (.slice (some ⟨w2.heap.size, 0, none⟩) 0 0) 0 [] := World.ownsRow_made w2 #[] 0 (Nat.le_refl _) (Nat.zero_le _) rfl
  have KV := Lib.hid ho.lt
  have DA := Lib.hid dA
  have OA := Lib.hid oA
  have NA := Lib.hid nA
  clear dA oA nA hd ho hb hr H
  go_wp2_with fail
  refine (pick_to B 30 12 _ DA.out.1 (by omega) (by omega) (by omega)).mono ?_
  rintro e w3 ⟨k1, a1, b1, rfl, r1, g1⟩
  have D1 := Lib.hid (DA.out.pick g1 r1)
  have O1 := Lib.hid (own_pick OA.out hBw g1)
  have N1 := Lib.hid (own_pick NA.out (by omega) g1)
  have hw23 : w2.heap.size ≤ w3.heap.size := by have := g1.size; simp at this; omega
  clear r1 g1 DA OA NA
  go_wp2_with fail
  go_loopw [6, 7] (fun u i wr => ∃ (k j : Nat), k + j ≤ 12 ∧ i = .int .i64 j ∧ Hid (∃ rs : List Int, rs.length = k ∧ wr.ownsRow w2.heap.size 3 1 u k (rs.map (Value.int .i64))) ∧ Hid (wr.ownsRow w1.heap.size 32 2 v xs.length (xs.flatMap encInset)) ∧ Hid (Dr w1 wr B (31 + 2 * k)) ∧ w2.heap.size ≤ wr.heap.size) (fun _ i _ => (intOf i).toNat)
  case atStart => exact ⟨0, k1.toNat, by omega, by simp; omega, ⟨[], rfl, N1.out⟩, O1.out, D1.out, hw23⟩
  case round =>
    obtain ⟨k, j, hk, rfl, hn, ho, hd, hw2⟩ := hrel
    clear D1 O1 N1
    by_cases hj : 0 < j
    · go_wp2_with fail
      refine (pick_to B (31 + 2 * k) 20 _ hd.out.1 (by omega) (by omega) (by omega)).mono ?_
      rintro e w4 ⟨p, p0, p1, rfl, r2, g2⟩
      obtain ⟨rs, hrl, hnown⟩ := hn.out
      have d4 := hd.out.pick g2 r2
      have o4 := own_pick ho.out hBw g2
      have n4 := own_pick hnown (by omega) g2
      have D4 := Lib.hid ((d4.alloc (.cells #[.int .i64 p, .int .i64 0, .int .i64 1000] 3)).alloc (.cells #[.int .i64 0, .int .i64 0, .int .i64 0, .int .i64 0, .int .i64 1, .int .i64 2] 3))
      have O4 := Lib.hid ((o4.alloc (.cells #[.int .i64 p, .int .i64 0, .int .i64 1000] 3)).alloc (.cells #[.int .i64 0, .int .i64 0, .int .i64 0, .int .i64 0, .int .i64 1, .int .i64 2] 3))
      have N4 := Lib.hid ((n4.alloc (.cells #[.int .i64 p, .int .i64 0, .int .i64 1000] 3)).alloc (.cells #[.int .i64 0, .int .i64 0, .int .i64 0, .int .i64 0, .int .i64 1, .int .i64 2] 3))
      have hlt4 := d4.1.lt
      have hs4 := g2.size
      clear hd ho hn hnown d4 o4 n4 r2 g2
      go_wp2_with fail
      refine (pick_to B (31 + 2 * k + 1) 6 _ D4.out.1 (by omega) (by omega) (by omega)).mono ?_
      rintro e w5 ⟨q, q0, q1, rfl, r3, g3⟩
      have c1 := fun i (u : Value) (hu : (#[.int .i64 p, .int .i64 0, .int .i64 1000] : Array Value)[i]? = some u) => g3.cell (a := ⟨w4.heap.size, i, none⟩) (v := u) ((World.cell?_alloc_past _ _ _ (by simp)).trans ((World.cell?_alloc_at _ _ _ _ rfl).trans hu)) (by simp; omega)
      have c2 := fun i (u : Value) (hu : (#[.int .i64 0, .int .i64 0, .int .i64 0, .int .i64 0, .int .i64 1, .int .i64 2] : Array Value)[i]? = some u) => g3.cell (a := ⟨w4.heap.size + 1, i, none⟩) (v := u) ((World.cell?_alloc_at _ _ _ _ (by simp)).trans hu) (by simp; omega)
      obtain ⟨z, e2, hz0', hz1'⟩ : ∃ z : Int, w5.cell? ⟨w4.heap.size + 1, q.toNat, none⟩ = some (.int .i64 z) ∧ 0 ≤ z ∧ z ≤ 2 := by
        rcases (by omega : q = 0 ∨ q = 1 ∨ q = 2 ∨ q = 3 ∨ q = 4 ∨ q = 5) with rfl | rfl | rfl | rfl | rfl | rfl
        · exact ⟨_, c2 0 _ rfl, by omega, by omega⟩
        · exact ⟨_, c2 1 _ rfl, by omega, by omega⟩
        · exact ⟨_, c2 2 _ rfl, by omega, by omega⟩
        · exact ⟨_, c2 3 _ rfl, by omega, by omega⟩
        · exact ⟨_, c2 4 _ rfl, by omega, by omega⟩
        · exact ⟨_, c2 5 _ rfl, by omega, by omega⟩
      obtain ⟨y, e1⟩ : ∃ y : Int, w5.cell? ⟨w4.heap.size, z.toNat, none⟩ = some (.int .i64 y) := by
        rcases (by omega : z = 0 ∨ z = 1 ∨ z = 2) with rfl | rfl | rfl
        · exact ⟨_, c1 0 _ rfl⟩
        · exact ⟨_, c1 1 _ rfl⟩
        · exact ⟨_, c1 2 _ rfl⟩
      have D5 := Lib.hid (D4.out.pick g3 r3)
      have O5 := Lib.hid (own_pick O4.out hBw g3)
      have N5 := Lib.hid (own_pick N4.out (by omega) g3)
      have hs5 := g3.size
      simp at hs5
      clear c1 c2 r3 g3 D4 O4 N4
      go_wp2_with (at_builtin; refine wpList_append_own _ rfl _ _ 35 rfl w2.heap.size 3 i0 (.int .i64 0) 1 8 Try.underlying35 hi hz0 hz1 hz2 rfl (by decide) _ _ _ rfl (N5.out.alloc _) ⟨w5.heap.size, 0, none⟩ 1 1 [.int .i64 y] rfl rfl (by simpa using cells_new w5 [_] _) (by intro u hu; simp at hu; subst hu; rfl) (by unfold maxLen; omega) (by omega) (by simp; omega) ?_; intro u' w6 hown' hgrow _)
      have dF := (D5.out.alloc (.cells #[.int .i64 y] 3)).push (N5.out.alloc _) hw12 hgrow
      have oF := (O5.out.alloc (.cells #[.int .i64 y] 3)).kept hgrow (apart_of KV.out N5.out)
      have hs6 := hgrow.size
      simp at hs6
      go_roundw
      case rel => exact ⟨k + 1, j - 1, by omega, by go_num, ⟨rs ++ [y], by simp [hrl], by simpa using hown'⟩, oF, dF.mono (by omega), by omega⟩
      case measure => simp [intOf]; omega
    · obtain rfl : j = 0 := by omega
      go_wp2_with fail
      refine (odd_to B (31 + 2 * k) 9 _ hd.out.1 (by omega) (by omega) (by omega)).mono ?_
      rintro e w4 ⟨bb, rfl, r3, g3⟩
      obtain ⟨rs, hrl, hnown⟩ := hn.out
      have D4 := Lib.hid (hd.out.pick g3 r3)
      have O4 := Lib.hid (own_pick ho.out hBw g3)
      have N4 := Lib.hid (own_pick hnown (by omega) g3)
      have hs4 := g3.size
      clear hd ho hn hnown r3 g3
      cases bb
      · go_wp2_with fail
        go_ret2
        exact ⟨xs, rs, v, _, hl, by omega, rfl, World.ownsRow.mono O4.out hw01, by rw [hrl]; exact World.ownsRow.mono N4.out (by omega), D4.out.below HB.out hB⟩
      · go_wp2_with fail
        have dA := D4.out.alloc (.cells #[.int .i64 (-1), .int .i64 1001] 3)
        refine (pick_to B (31 + 2 * k + 1) 2 _ dA.1 (by omega) (by omega) (by omega)).mono ?_
        rintro e w5 ⟨q, q0, q1, rfl, r2, g2⟩
        obtain ⟨z, _, cz⟩ := lit_pick [-1, 1001] 3 D4.out.1 g2 q q0 (by simpa using q1)
        have D5 := Lib.hid (dA.pick g2 r2)
        have O5 := Lib.hid (own_pick (O4.out.alloc (.cells #[.int .i64 (-1), .int .i64 1001] 3)) hBw g2)
        have N5 := Lib.hid (own_pick (N4.out.alloc (.cells #[.int .i64 (-1), .int .i64 1001] 3)) (by omega) g2)
        have hs5 := g2.size
        simp at hs5
        clear dA r2 g2 D4 O4 N4
        go_wp2_with (at_builtin; refine wpList_append_own _ rfl _ _ 35 rfl w2.heap.size 3 i0 (.int .i64 0) 1 8 Try.underlying35 hi hz0 hz1 hz2 rfl (by decide) _ _ _ rfl (N5.out.alloc _) ⟨w5.heap.size, 0, none⟩ 1 1 [.int .i64 z] rfl rfl (by simpa using cells_new w5 [_] _) (by intro u hu; simp at hu; subst hu; rfl) (by unfold maxLen; omega) (by omega) (by simp; omega) ?_; intro u' w6 hown' hgrow _)
        have dF := (D5.out.alloc (.cells #[.int .i64 z] 3)).push (N5.out.alloc _) hw12 hgrow
        have oF := (O5.out.alloc (.cells #[.int .i64 z] 3)).kept hgrow (apart_of KV.out N5.out)
        go_ret2
        exact ⟨xs, rs ++ [z], v, u', hl, by simp; omega, rfl, World.ownsRow.mono oF hw01, by simpa [hrl] using World.ownsRow.mono hown' (by omega), dF.below HB.out hB⟩

theorem drawInsetDelay_any (a : Option Addr) (n cap : Nat) (w : World) (h : Code8 w a n cap) : Calls Try.prog 28 #[.slice a n cap] w (DrawPl w) := by
  have H := Lib.hid h
  clear h
  go_enter Try.func28, Try.ntmps28
  go_wp2_with fail
  refine (drawPlaceInsets_any a n cap w H.out).mono ?_
  rintro e w1 ⟨xs, rs, v, u, h1, h2, rfl, h3, h4, h5⟩
  go_wp2
  go_ret2
  exact ⟨xs, rs, v, u, h1, h2, rfl, h3, h4, h5⟩
end Go.Proofs.Ytoeaaoceicjmdaa

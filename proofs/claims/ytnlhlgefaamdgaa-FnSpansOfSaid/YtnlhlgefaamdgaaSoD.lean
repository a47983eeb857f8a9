/-
  PROVED HERE: what DrawSpansOf hands back. Conditions: the theorem's own.
-/
import Derived.Test.YtnlhlgefaamdgaaDr
import Derived.Test.YtnlhlgefaamdgaaSoL
import Derived.Deep.Cut
import Derived.Deep.Onto
set_option linter.unusedVariables false
set_option linter.unusedSimpArgs false
namespace Go.Proofs.Ytnlhlgefaamdgaa
open Go.RowKit
set_option maxRecDepth 100000

/-- It returns a row of numbers; nothing that was there turns. -/
def DrawSo (w : World) (e : Ending) (w' : World) : Prop :=
  ∃ (zs : List Int) (v : Value), zs.length ≤ 60 ∧ e = .returned v ∧ IRow w' v zs ∧ Below w.heap.size w w'

set_option maxHeartbeats 8000000 in
theorem drawSpansOf_any (a : Option Addr) (n cap : Nat) (w : World) (h : Code8 w a n cap) : Calls Try.prog 13 #[.slice a n cap] w (DrawSo w) := by
  have H := Lib.hid h
  obtain ⟨i0, hi, hz0, hz1, hz2⟩ := info_parts info_int
  clear h
  go_enter Try.func13, Try.ntmps13
  go_wp2_with fail
  refine (open_any a n cap w H.out).mono ?_
  rintro e w1 ⟨B, rfl, hr, hB, hb⟩
  have HB := Lib.hid hb
  have D0 := Lib.hid ((Dr.start (B := B) (m := 0) ⟨0, Nat.le_refl _, hr⟩).alloc (.cells #[] 3))
  have O0 := Lib.hid (World.ownsRow_made (base := w1.heap.size) (e := 3) (size := 1) w1 #[] 0 (Nat.le_refl _) (Nat.zero_le _) rfl)
  have hBw : B < w1.heap.size := D0.out.2.2
  clear hr hb H
  go_wp2_with fail
  refine (pick_to B 0 12 _ D0.out.1 (by omega) (by omega) (by omega)).mono ?_
  rintro e w2 ⟨k1, a1, b1, rfl, r2, g2⟩
  have D2 := Lib.hid (D0.out.pick g2 r2)
  have O2 := Lib.hid (own_pick O0.out hBw g2)
  clear r2 g2 D0 O0
  go_wp2
  go_loopw [4, 5] (fun v i wr => ∃ (k j : Nat), k + j ≤ 12 ∧ i = .int .i64 j ∧ Hid (∃ xs : List Int, xs.length = k ∧ wr.ownsRow w1.heap.size 3 1 v k (xs.map (Value.int .i64))) ∧ Hid (Dr w1 wr B (1 + k))) (fun _ i _ => (intOf i).toNat)
  case atStart => exact ⟨0, k1.toNat, by omega, by simp; omega, ⟨[], rfl, O2.out⟩, D2.out⟩
  case round =>
    obtain ⟨k, j, hk, rfl, ho, hd⟩ := hrel
    clear D2 O2
    obtain ⟨xs, hxl, hown⟩ := ho.out
    have OW := Lib.hid hown
    clear ho hown
    by_cases hj : 0 < j
    · go_wp2_with fail
      refine (pick_to B (1 + k) 20 _ hd.out.1 (by omega) (by omega) (by omega)).mono ?_
      rintro e w3 ⟨q, q0, q1, rfl, r3, g3⟩
      have DB := Lib.hid (hd.out.pick g3 r3)
      have OB := Lib.hid (own_pick OW.out hBw g3)
      have hws := DB.out.size
      clear r3 g3 hd OW
      go_wp2_with (at_builtin; refine wpList_append_own _ rfl _ _ 22 rfl w1.heap.size 3 i0 (.int .i64 0) 1 8 Try.underlying22 hi hz0 hz1 hz2 rfl (by decide) _ _ _ rfl (OB.out.alloc _) ⟨w3.heap.size, 0, none⟩ 1 1 [.int .i64 (1 + q)] rfl rfl (by simpa using cells_new w3 [_] _) (by intro u hu; simp at hu; subst hu; rfl) (by unfold maxLen; omega) (by omega) (by simp; omega) ?_; intro v' w4 hown' hgrow hiff)
      have dF := (DB.out.alloc (.cells #[.int .i64 (1 + q)] 3)).push (OB.out.alloc _) (Nat.le_refl _) hgrow
      clear hiff
      go_roundw
      case rel => exact ⟨k + 1, j - 1, by omega, by go_num, ⟨xs ++ [1 + q], by simp [hxl], by simpa using hown'⟩, dF⟩
      case measure => simp [intOf]; omega
    · obtain rfl : j = 0 := by omega
      go_wp2_with fail
      refine (odd_to B (1 + k) 9 _ hd.out.1 (by omega) (by omega) (by omega)).mono ?_
      rintro e w3 ⟨ba, rfl, r3, g3⟩
      have D3 := Lib.hid ((hd.out.pick g3 r3).mono (show 1 + k + 1 ≤ 20 by omega))
      have O3 := Lib.hid (own_pick OW.out hBw g3)
      clear r3 g3 hd OW
      cases ba
      · go_wp2_with fail
        refine (odd_to B 20 14 _ D3.out.1 (by omega) (by omega) (by omega)).mono ?_
        rintro e wo ⟨bo, rfl, ro, go⟩
        have DO := Lib.hid (D3.out.pick go ro)
        have OO := Lib.hid (own_pick O3.out hBw go)
        clear ro go D3 O3
        cases bo
        · have hws := DO.out.size
          go_wp2
          go_ret
          exact ⟨xs, _, by (try simp); omega, rfl, IRow.of_owns OO.out, DO.out.below HB.out hB⟩
        · go_wp2
          go_loopw [4, 6] (fun v i wr => ∃ (p : Nat), p ≤ 29 ∧ i = .int .i64 ((p : Int) + 1) ∧ Hid (∃ ys : List Int, ys.length = k + p ∧ wr.ownsRow w1.heap.size 3 1 v (k + p) (ys.map (Value.int .i64))) ∧ Hid (Dr w1 wr B 21)) (fun _ i _ => (30 - intOf i).toNat)
          case atStart => exact ⟨0, by omega, rfl, ⟨xs, by simp; omega, by simpa using OO.out⟩, DO.out⟩
          case round =>
            obtain ⟨p, hk, rfl, ho, hd⟩ := hrel
            clear OO DO
            obtain ⟨ys, hyl, hown⟩ := ho.out
            have hws := hd.out.size
            clear ho
            by_cases hlt : p < 29
            · go_wp2_with (at_builtin; refine wpList_append_own _ rfl _ _ 22 rfl w1.heap.size 3 i0 (.int .i64 0) 1 8 Try.underlying22 hi hz0 hz1 hz2 rfl (by decide) _ _ _ rfl (hown.alloc _) ⟨wr.heap.size, 0, none⟩ 1 1 [.int .i64 (2 * ((p : Int) + 1))] rfl rfl (by simpa using cells_new wr [_] _) (by intro u hu; simp at hu; subst hu; rfl) (by unfold maxLen; omega) (by omega) (by simp; omega) ?_; intro v' w4 hown' hgrow hiff)
              have dF := (hd.out.alloc (.cells #[.int .i64 (2 * ((p : Int) + 1))] 3)).push (hown.alloc _) (Nat.le_refl _) hgrow
              clear hiff
              go_roundw
              case rel => exact ⟨p + 1, by omega, by go_num, ⟨ys ++ [2 * ((p : Int) + 1)], by simp [hyl]; omega, by simpa [Nat.add_assoc] using hown'⟩, dF⟩
              case measure => simp [intOf]; omega
            · go_wp2
              go_ret
              exact ⟨ys, _, by omega, rfl, IRow.of_owns hown, hd.out.below HB.out hB⟩
      · go_wp2_with fail
        have dA := D3.out.alloc (.cells #[.int .i64 0, .int .i64 1000] 3)
        refine (pick_to B 20 2 _ dA.1 (by omega) (by omega) (by omega)).mono ?_
        rintro e w4 ⟨y, y0, y1, rfl, r4, g4⟩
        obtain ⟨z, hz, cz⟩ := lit_pick [0, 1000] 3 D3.out.1 g4 y y0 (by simpa using y1)
        have D4 := Lib.hid (dA.pick g4 r4)
        have O4 := Lib.hid (own_pick (O3.out.alloc (.cells #[.int .i64 0, .int .i64 1000] 3)) hBw g4)
        have hws := D4.out.size
        clear dA r4 g4 D3 O3 hz
        go_wp2_with (at_builtin; refine wpList_append_own _ rfl _ _ 22 rfl w1.heap.size 3 i0 (.int .i64 0) 1 8 Try.underlying22 hi hz0 hz1 hz2 rfl (by decide) _ _ _ rfl (O4.out.alloc _) ⟨w4.heap.size, 0, none⟩ 1 1 [.int .i64 z] rfl rfl (by simpa using cells_new w4 [_] _) (by intro u hu; simp at hu; subst hu; rfl) (by unfold maxLen; omega) (by omega) (by simp; omega) ?_; intro v' w5 hown' hgrow hiff)
        have D5 := Lib.hid ((D4.out.alloc (.cells #[.int .i64 z] 3)).push (O4.out.alloc _) (Nat.le_refl _) hgrow)
        have O5 : Hid (w5.ownsRow w1.heap.size 3 1 v' (k + 1) ((xs ++ [z]).map (Value.int .i64))) := by show World.ownsRow _ _ _ _ _ _ _; simpa using hown'
        clear hiff hown' hgrow D4 O4
        refine (odd_to B 21 14 _ D5.out.1 (by omega) (by omega) (by omega)).mono ?_
        rintro e wo ⟨bo, rfl, ro, go⟩
        have DO := Lib.hid (D5.out.pick go ro)
        have OO := Lib.hid (own_pick O5.out hBw go)
        clear ro go D5 O5
        cases bo
        · have hws := DO.out.size
          go_wp2
          go_ret
          exact ⟨(xs ++ [z]), _, by (try simp); omega, rfl, IRow.of_owns OO.out, DO.out.below HB.out hB⟩
        · go_wp2
          go_loopw [4, 6] (fun v i wr => ∃ (p : Nat), p ≤ 29 ∧ i = .int .i64 ((p : Int) + 1) ∧ Hid (∃ ys : List Int, ys.length = (k + 1) + p ∧ wr.ownsRow w1.heap.size 3 1 v ((k + 1) + p) (ys.map (Value.int .i64))) ∧ Hid (Dr w1 wr B 22)) (fun _ i _ => (30 - intOf i).toNat)
          case atStart => exact ⟨0, by omega, rfl, ⟨(xs ++ [z]), by simp; omega, by simpa using OO.out⟩, DO.out⟩
          case round =>
            obtain ⟨p, hk, rfl, ho, hd⟩ := hrel
            clear OO DO
            obtain ⟨ys, hyl, hown⟩ := ho.out
            have hws := hd.out.size
            clear ho
            by_cases hlt : p < 29
            · go_wp2_with (at_builtin; refine wpList_append_own _ rfl _ _ 22 rfl w1.heap.size 3 i0 (.int .i64 0) 1 8 Try.underlying22 hi hz0 hz1 hz2 rfl (by decide) _ _ _ rfl (hown.alloc _) ⟨wr.heap.size, 0, none⟩ 1 1 [.int .i64 (2 * ((p : Int) + 1))] rfl rfl (by simpa using cells_new wr [_] _) (by intro u hu; simp at hu; subst hu; rfl) (by unfold maxLen; omega) (by omega) (by simp; omega) ?_; intro v' w4 hown' hgrow hiff)
              have dF := (hd.out.alloc (.cells #[.int .i64 (2 * ((p : Int) + 1))] 3)).push (hown.alloc _) (Nat.le_refl _) hgrow
              clear hiff
              go_roundw
              case rel => exact ⟨p + 1, by omega, by go_num, ⟨ys ++ [2 * ((p : Int) + 1)], by simp [hyl]; omega, by simpa [Nat.add_assoc] using hown'⟩, dF⟩
              case measure => simp [intOf]; omega
            · go_wp2
              go_ret
              exact ⟨ys, _, by omega, rfl, IRow.of_owns hown, hd.out.below HB.out hB⟩
end Go.Proofs.Ytnlhlgefaamdgaa

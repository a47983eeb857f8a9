/-
  PROVED HERE: what the drawing functions of pictures hand back. Conditions: each theorem's own.
-/
import Derived.Test.YtoeaaoceicjmdaaDr
import Derived.Test.YtoeaaoceicjmdaaInsetC
import Derived.Deep.Cut
import Derived.Deep.Onto
namespace Go.Proofs.Ytoeaaoceicjmdaa
open Go.RowKit

/-- What drawing pictures leaves. -/
def InsTo (m : Nat) (w : World) (B : Nat) (e : Ending) (w' : World) : Prop :=
  ∃ (xs : List DInset) (v : Value), xs.length ≤ 8 ∧ e = .returned v ∧ w'.ownsRow w.heap.size 32 2 v xs.length (xs.flatMap encInset) ∧ Dr w w' B (m + 30)

set_option maxHeartbeats 4000000 in
theorem l20Insets_to (B m : Nat) (n : Int) (w : World) (h : RdTo B m w) (hm : m ≤ 900000) (hn : 0 ≤ n) (hn' : n ≤ 1000000) :
    Calls Try.prog 34 #[.pointer (some ⟨B, 0, none⟩), .int .i64 n] w (InsTo m w B) := by
  have hBw := h.lt
  obtain ⟨i0, hi, hz0, hz1, hz2⟩ := info_parts info_Inset
  have d0 := (Dr.start h).alloc (.cells #[] 32)
  have o0 : (w.alloc (.cells #[] 32)).ownsRow w.heap.size 32 2 (.slice (some ⟨w.heap.size, 0, none⟩) 0 0) 0 [] := World.ownsRow_made w #[] 0 (Nat.le_refl _) (Nat.zero_le _) rfl
  have D0 := Lib.hid d0
  have O0 := Lib.hid o0
  clear d0 o0 h
  go_enter Try.func34, Try.ntmps34
  go_wp2_with fail
  refine (pick_to B m 7 _ D0.out.1 (by omega) (by omega) (by omega)).mono ?_
  rintro e w1 ⟨k1, a1, b1, rfl, r1, g1⟩
  have D1 := Lib.hid (D0.out.pick g1 r1)
  have O1 := Lib.hid (own_pick O0.out hBw g1)
  clear r1 g1 D0 O0
  go_wp2_with fail
  go_loopw [5, 6, 7] (fun v fr i wr => ∃ (k j : Nat) (f : Int), k + j ≤ 7 ∧ i = .int .i64 j ∧ fr = .int .i64 f ∧ 0 ≤ f ∧ f ≤ 2 * k ∧ Hid (∃ xs : List DInset, xs.length = k ∧ wr.ownsRow w.heap.size 32 2 v k (xs.flatMap encInset)) ∧ Hid (Dr w wr B (m + 1 + 2 * k))) (fun _ _ i _ => (intOf i).toNat)
  case atStart => exact ⟨0, k1.toNat, 0, by omega, by simp; omega, rfl, by omega, by omega, ⟨[], rfl, O1.out⟩, D1.out⟩
  case round =>
    obtain ⟨k, j, f, hk, rfl, rfl, f0, f1, ho, hd⟩ := hrel
    clear D1 O1
    by_cases hj : 0 < j
    · go_wp2_with fail
      have dA := hd.out.alloc (.cells #[.int .i64 0, .int .i64 0, .int .i64 1, .int .i64 2] 3)
      refine (pick_to B (m + 1 + 2 * k) 4 _ dA.1 (by omega) (by omega) (by omega)).mono ?_
      rintro e w2 ⟨q, q0, q1, rfl, r2, g2⟩
      obtain ⟨z, hz, cz⟩ := lit_pick [0, 0, 1, 2] 3 hd.out.1 g2 q q0 (by simpa using q1)
      have hz2 := (by decide : ∀ z ∈ ([0, 0, 1, 2] : List Int), 0 ≤ z ∧ z ≤ 2) z hz
      obtain ⟨hz3, hz4⟩ := hz2
      obtain ⟨xs, hxl, hown⟩ := ho.out
      have dB := dA.pick g2 r2
      have oB := own_pick (hown.alloc (.cells #[.int .i64 0, .int .i64 0, .int .i64 1, .int .i64 2] 3)) hBw g2
      have DB := Lib.hid dB
      have OB := Lib.hid oB
      clear dA r2 g2 dB oB hown ho hz
      go_wp2_with fail
      refine (pick_to B (m + 1 + 2 * k + 1) 9 _ DB.out.1 (by omega) (by omega) (by omega)).mono ?_
      rintro e w3 ⟨q3, q30, q31, rfl, r3, g3⟩
      have DC := Lib.hid (DB.out.pick g3 r3)
      have OC := Lib.hid (own_pick OB.out hBw g3)
      have hws := DC.out.size
      clear r3 g3 DB OB hd cz
      go_wp2_with (at_builtin; refine wpList_append_own _ rfl _ _ 25 rfl w.heap.size 32 i0 (.agg #[.int .i64 0, .int .i64 0]) 2 16 Try.underlying25 hi hz0 hz1 hz2 rfl (by decide) _ _ _ rfl (OC.out.alloc _) ⟨w3.heap.size, 0, none⟩ 1 1 [.int .i64 (1 + q3), .int .i64 (f + z)] rfl rfl (cells_new _ [_, _] _) (by intro u hu; simp at hu; rcases hu with rfl | rfl <;> rfl) (by unfold maxLen; omega) (by omega) (by simp; omega) ?_; intro v' w4 hown' hgrow _)
      have dF := (DC.out.alloc (.cells #[.int .i64 (1 + q3), .int .i64 (f + z)] 32)).push (OC.out.alloc _) (Nat.le_refl _) hgrow
      go_roundw
      case rel => exact ⟨k + 1, j - 1, f + z, by omega, by go_num, rfl, by omega, by omega, ⟨xs ++ [⟨1 + q3, f + z⟩], by simp [hxl], by simpa [encInset] using hown'⟩, dF.mono (by omega)⟩
      case measure => simp [intOf]; omega
    · obtain rfl : j = 0 := by omega
      go_wp2_with fail
      refine (odd_to B (m + 1 + 2 * k) n _ hd.out.1 (by omega) hn hn').mono ?_
      rintro e w2 ⟨b, rfl, r3, g3⟩
      obtain ⟨xs, hxl, hown⟩ := ho.out
      have DB := Lib.hid (hd.out.pick g3 r3)
      have OB := Lib.hid (own_pick hown hBw g3)
      clear hd ho hown r3 g3
      cases b
      · go_wp2_with fail
        go_ret
        exact ⟨xs, _, by omega, rfl, by rw [hxl]; exact OB.out, DB.out.mono (by omega)⟩
      · go_wp2_with fail
        have dA := DB.out.alloc (.cells #[.int .i64 0, .int .i64 f, .int .i64 1001, .int .i64 f, .int .i64 1, .int .i64 (-1), .int .i64 1, .int .i64 20] 32)
        refine (pick_to B (m + 1 + 2 * k + 1) 4 _ dA.1 (by omega) (by omega) (by omega)).mono ?_
        rintro e w3 ⟨q, q0, q1, rfl, r2, g2⟩
        have hc := fun i (u : Value) (hu : (#[.int .i64 0, .int .i64 f, .int .i64 1001, .int .i64 f, .int .i64 1, .int .i64 (-1), .int .i64 1, .int .i64 20] : Array Value)[i]? = some u) => g2.cell (a := ⟨w2.heap.size, i, none⟩) (v := u) ((World.cell?_alloc_at _ _ _ _ rfl).trans hu) (by have := DB.out.1.lt; simp; omega)
        have DC := Lib.hid (dA.pick g2 r2)
        have OC := Lib.hid (own_pick (OB.out.alloc (.cells #[.int .i64 0, .int .i64 f, .int .i64 1001, .int .i64 f, .int .i64 1, .int .i64 (-1), .int .i64 1, .int .i64 20] 32)) hBw g2)
        have hws := DC.out.size
        obtain ⟨T, hTe⟩ : ∃ T, T = w2.heap.size := ⟨_, rfl⟩
        obtain ⟨qn, rfl⟩ := Int.eq_ofNat_of_zero_le q0
        obtain ⟨y0, y1, e0, e1⟩ : ∃ y0 y1 : Int, w3.cell? ⟨T, qn * 2, none⟩ = some (.int .i64 y0) ∧ w3.cell? ⟨T, qn * 2 + 1, none⟩ = some (.int .i64 y1) := by
          rw [hTe]
          rcases (by omega : qn = 0 ∨ qn = 1 ∨ qn = 2 ∨ qn = 3) with rfl | rfl | rfl | rfl
          · exact ⟨_, _, hc 0 _ rfl, hc 1 _ rfl⟩
          · exact ⟨_, _, hc 2 _ rfl, hc 3 _ rfl⟩
          · exact ⟨_, _, hc 4 _ rfl, hc 5 _ rfl⟩
          · exact ⟨_, _, hc 6 _ rfl, hc 7 _ rfl⟩
        rw [← hTe]
        clear hc r2 g2 dA DB OB hTe
        go_wp2_with (at_builtin; refine wpList_append_own _ rfl _ _ 25 rfl w.heap.size 32 i0 (.agg #[.int .i64 0, .int .i64 0]) 2 16 Try.underlying25 hi hz0 hz1 hz2 rfl (by decide) _ _ _ rfl (OC.out.alloc _) ⟨w3.heap.size, 0, none⟩ 1 1 [.int .i64 y0, .int .i64 y1] rfl rfl (cells_new _ [_, _] _) (by intro u hu; simp at hu; rcases hu with rfl | rfl <;> rfl) (by unfold maxLen; omega) (by omega) (by simp; omega) ?_; intro v' w4 hown' hgrow _)
        have dF := (DC.out.alloc (.cells #[.int .i64 y0, .int .i64 y1] 32)).push (OC.out.alloc _) (Nat.le_refl _) hgrow
        go_ret
        exact ⟨xs ++ [⟨y0, y1⟩], v', by simp; omega, rfl, by simpa [encInset, hxl] using hown', dF.mono (by omega)⟩

/-- It returns pictures that are its own; nothing that was there turns. -/
def DrawIns (w : World) (e : Ending) (w' : World) : Prop :=
  ∃ (xs : List DInset) (v : Value), xs.length ≤ 8 ∧ e = .returned v ∧ w'.ownsRow w.heap.size 32 2 v xs.length (xs.flatMap encInset) ∧ Below w.heap.size w w'

theorem drawInsetsValid_any (a : Option Addr) (n cap : Nat) (w : World) (h : Code8 w a n cap) : Calls Try.prog 15 #[.slice a n cap] w (DrawIns w) := by
  have H := Lib.hid h
  clear h
  go_enter Try.func15, Try.ntmps15
  go_wp2_with fail
  refine (open_any a n cap w H.out).mono ?_
  rintro e w1 ⟨B, rfl, hr, hB, hb⟩
  go_wp2_with fail
  refine (l20Insets_to B 0 2 w1 ⟨0, Nat.le_refl _, hr⟩ (by omega) (by omega) (by omega)).mono ?_
  rintro e w2 ⟨xs, v, hl, rfl, ho, hd⟩
  go_wp2
  go_ret
  exact ⟨xs, v, hl, rfl, World.ownsRow.mono ho hb.size, hd.below hb hB⟩
end Go.Proofs.Ytoeaaoceicjmdaa

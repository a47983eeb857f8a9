/-
  PROVED HERE: what the drawing functions of ranges hand back. Conditions: each theorem's own.
-/
import Derived.Test.YtjkahdmmejmilaaDoorDr
import Derived.Test.YtjkahdmmejmilaaDoorSpanC
import Derived.Test.YtjkahdmmejmilaaDoorSpTxt
import Derived.Test.YtjkahdmmejmilaaDoorOpen
import Derived.Deep.Cut
import Derived.Deep.Onto
set_option linter.unusedVariables false
set_option linter.unusedSimpArgs false
namespace Go.Proofs.YtjkahdmmejmilaaDoor
open Go.RowKit

/-- What drawing ranges leaves. -/
def SpTo (m : Nat) (w : World) (B : Nat) (e : Ending) (w' : World) : Prop :=
  ∃ (xs : List DSpan) (v : Value), xs.length ≤ 6 ∧ v ≠ .slice none 0 0 ∧ e = .returned v ∧ w'.ownsRow w.heap.size 41 2 v xs.length (xs.flatMap encSpan) ∧ Dr w w' B (m + 30)

set_option maxHeartbeats 4000000 in
theorem l20Spans_to (B m : Nat) (n : Int) (w : World) (h : RdTo B m w) (hm : m ≤ 900000) (hn : 0 ≤ n) (hn' : n ≤ 1000000) :
    Calls Tryd.prog 27 #[.pointer (some ⟨B, 0, none⟩), .int .i64 n] w (SpTo m w B) := by
  have hBw := h.lt
  obtain ⟨i0, hi, hz0, hz1, hz2⟩ := info_parts info_Span
  have d0 := (Dr.start h).alloc (.cells #[] 41)
  have o0 : (w.alloc (.cells #[] 41)).ownsRow w.heap.size 41 2 (.slice (some ⟨w.heap.size, 0, none⟩) 0 0) 0 [] := World.ownsRow_made w #[] 0 (Nat.le_refl _) (Nat.zero_le _) rfl
  have D0 := Lib.hid d0
  have O0 := Lib.hid o0
  clear d0 o0 h
  go_enter Tryd.func27, Tryd.ntmps27
  go_wp2_with fail
  refine (pick_to B m 5 _ D0.out.1 (by omega) (by omega) (by omega)).mono ?_
  rintro e w1 ⟨k1, a1, b1, rfl, r1, g1⟩
  have D1 := Lib.hid (D0.out.pick g1 r1)
  have O1 := Lib.hid (own_pick O0.out hBw g1)
  clear r1 g1 D0 O0
  go_wp2_with fail
  go_loopw [5, 6, 7] (fun v fr i wr => ∃ (k j : Nat) (f : Int), k + j ≤ 5 ∧ i = .int .i64 j ∧ fr = .int .i64 f ∧ 0 ≤ f ∧ f ≤ 20 * k ∧ Hid (v ≠ .slice none 0 0) ∧ Hid (∃ xs : List DSpan, xs.length = k ∧ wr.ownsRow w.heap.size 41 2 v k (xs.flatMap encSpan)) ∧ Hid (Dr w wr B (m + 1 + 3 * k))) (fun _ _ i _ => (intOf i).toNat)
  case atStart => exact ⟨0, k1.toNat, 0, by omega, by simp; omega, rfl, by omega, by omega, by show _ ≠ _; simp, ⟨[], rfl, O1.out⟩, D1.out⟩
  case round =>
    obtain ⟨k, j, f, hk, rfl, rfl, f0, f1, hv, ho, hd⟩ := hrel
    clear D1 O1
    by_cases hj : 0 < j
    · obtain ⟨xs, hxl, hown⟩ := ho.out
      go_wp2_with fail
      refine (pick_to B (m + 1 + 3 * k) 9 _ hd.out.1 (by omega) (by omega) (by omega)).mono ?_
      rintro e w2 ⟨q, q0, q1, rfl, r2, g2⟩
      have DB := Lib.hid (hd.out.pick g2 r2)
      have OB := Lib.hid (own_pick hown hBw g2)
      clear r2 g2 hown ho hd
      go_wp2_with fail
      refine (pick_to B (m + 1 + 3 * k + 1) 5 _ DB.out.1 (by omega) (by omega) (by omega)).mono ?_
      rintro e w3 ⟨p, p0, p1, rfl, r3, g3⟩
      have DC := Lib.hid (DB.out.pick g3 r3)
      have OC := Lib.hid (own_pick OB.out hBw g3)
      clear r3 g3 DB OB
      go_wp2_with fail
      have dA := DC.out.alloc (.cells #[.int .i64 0, .int .i64 p] 3)
      refine (pick_to B (m + 1 + 3 * k + 1 + 1) 2 _ dA.1 (by omega) (by omega) (by omega)).mono ?_
      rintro e w4 ⟨y, y0, y1, rfl, r4, g4⟩
      obtain ⟨z, hz, cz⟩ := lit_pick [0, p] 3 DC.out.1 g4 y y0 (by simpa using y1)
      have hz3 : 0 ≤ z ∧ z ≤ 4 := by simp at hz; omega
      obtain ⟨hz4, hz5⟩ := hz3
      have DD := Lib.hid (dA.pick g4 r4)
      have OD := Lib.hid (own_pick (OC.out.alloc (.cells #[.int .i64 0, .int .i64 p] 3)) hBw g4)
      have hws := DD.out.size
      clear dA r4 g4 DC OC hz
      go_wp2_with (at_builtin; refine wpList_append_own _ rfl _ _ 25 rfl w.heap.size 41 i0 (.agg #[.int .i64 0, .int .i64 0]) 2 16 Tryd.underlying25 hi hz0 hz1 hz2 rfl (by decide) _ _ _ rfl (OD.out.alloc _) ⟨w4.heap.size, 0, none⟩ 1 1 [.int .i64 (f + 1 + q), .int .i64 (f + 1 + q + z)] rfl rfl (cells_new _ [_, _] _) (by intro u hu; simp at hu; rcases hu with rfl | rfl <;> rfl) (by unfold maxLen; omega) (by omega) (by simp; omega) ?_; intro v' w9 hown' hgrow hiff)
      have dF := (DD.out.alloc (.cells #[.int .i64 (f + 1 + q), .int .i64 (f + 1 + q + z)] 41)).push (OD.out.alloc _) (Nat.le_refl _) hgrow
      have hv' : Hid (v' ≠ .slice none 0 0) := fun e => by have := (hiff.1 e).2; omega
      clear hiff
      go_roundw
      case rel => exact ⟨k + 1, j - 1, f + 1 + q + z + 1, by omega, by go_num, rfl, by omega, by omega, hv', ⟨xs ++ [⟨f + 1 + q, f + 1 + q + z⟩], by simp [hxl], by simpa [encSpan] using hown'⟩, dF.mono (by omega)⟩
      case measure => simp [intOf]; omega
    · obtain rfl : j = 0 := by omega
      go_wp2_with fail
      refine (odd_to B (m + 1 + 3 * k) n _ hd.out.1 (by omega) hn hn').mono ?_
      rintro e w2 ⟨b, rfl, r3, g3⟩
      obtain ⟨xs, hxl, hown⟩ := ho.out
      have DB := Lib.hid (hd.out.pick g3 r3)
      have OB := Lib.hid (own_pick hown hBw g3)
      clear hd ho hown r3 g3
      cases b
      · go_wp2_with fail
        go_ret
        exact ⟨xs, _, by omega, hv.out, rfl, by rw [hxl]; exact OB.out, DB.out.mono (by omega)⟩
      · go_wp2_with fail
        have dA := DB.out.alloc (.cells #[.int .i64 f, .int .i64 f, .int .i64 5, .int .i64 4, .int .i64 999, .int .i64 1000, .int .i64 0, .int .i64 3] 41)
        refine (pick_to B (m + 1 + 3 * k + 1) 4 _ dA.1 (by omega) (by omega) (by omega)).mono ?_
        rintro e w3 ⟨q, q0, q1, rfl, r2, g2⟩
        have hc := fun i (u : Value) (hu : (#[.int .i64 f, .int .i64 f, .int .i64 5, .int .i64 4, .int .i64 999, .int .i64 1000, .int .i64 0, .int .i64 3] : Array Value)[i]? = some u) => g2.cell (a := ⟨w2.heap.size, i, none⟩) (v := u) ((World.cell?_alloc_at _ _ _ _ rfl).trans hu) (by have := DB.out.1.lt; simp; omega)
        have DC := Lib.hid (dA.pick g2 r2)
        have OC := Lib.hid (own_pick (OB.out.alloc (.cells #[.int .i64 f, .int .i64 f, .int .i64 5, .int .i64 4, .int .i64 999, .int .i64 1000, .int .i64 0, .int .i64 3] 41)) hBw g2)
        have hws := DC.out.size
        obtain ⟨T, hTe⟩ : ∃ T, T = w2.heap.size := ⟨_, rfl⟩
        obtain ⟨qn, rfl⟩ := Int.eq_ofNat_of_zero_le q0
        obtain ⟨y0, y1, e0, e1⟩ : ∃ y0 y1 : Int, w3.cell? ⟨T, qn * 2, none⟩ = some (.int .i64 y0) ∧ w3.cell? ⟨T, qn * 2 + 1, none⟩ = some (.int .i64 y1) := by
          rw [hTe]
          rcases (by omega : qn = 0 ∨ qn = 1 ∨ qn = 2 ∨ qn = 3) with rfl | rfl | rfl | rfl
          · exact ⟨_, _, hc 0 _ rfl, hc 1 _ rfl⟩
          · exact ⟨_, _, hc 2 _ rfl, hc 3 _ rfl⟩
          · exact ⟨_, _, hc 4 _ rfl, hc 5 _ rfl⟩
          · exact ⟨_, _, hc 6 _ rfl, hc 7 _ rfl⟩
        rw [← hTe]
        clear hc r2 g2 dA DB OB hTe
        go_wp2_with (at_builtin; refine wpList_append_own _ rfl _ _ 25 rfl w.heap.size 41 i0 (.agg #[.int .i64 0, .int .i64 0]) 2 16 Tryd.underlying25 hi hz0 hz1 hz2 rfl (by decide) _ _ _ rfl (OC.out.alloc _) ⟨w3.heap.size, 0, none⟩ 1 1 [.int .i64 y0, .int .i64 y1] rfl rfl (cells_new _ [_, _] _) (by intro u hu; simp at hu; rcases hu with rfl | rfl <;> rfl) (by unfold maxLen; omega) (by omega) (by simp; omega) ?_; intro v' w9 hown' hgrow hiff)
        have dF := (DC.out.alloc (.cells #[.int .i64 y0, .int .i64 y1] 41)).push (OC.out.alloc _) (Nat.le_refl _) hgrow
        have hv' : Hid (v' ≠ .slice none 0 0) := fun e => by have := (hiff.1 e).2; omega
        clear hiff
        go_ret
        exact ⟨xs ++ [⟨y0, y1⟩], v', by simp; omega, hv'.out, rfl, by simpa [encSpan, hxl] using hown', dF.mono (by omega)⟩

/-- It returns ranges that are its own; nothing that was there turns. -/
def DrawSp (w : World) (e : Ending) (w' : World) : Prop :=
  ∃ (xs : List DSpan) (v : Value), xs.length ≤ 6 ∧ v ≠ .slice none 0 0 ∧ e = .returned v ∧ w'.ownsRow w.heap.size 41 2 v xs.length (xs.flatMap encSpan) ∧ Below w.heap.size w w'

theorem drawSpansText_any (a : Option Addr) (n cap : Nat) (w : World) (h : Code8 w a n cap) : Calls Tryd.prog 12 #[.slice a n cap] w (DrawSp w) := by
  have H := Lib.hid h
  clear h
  go_enter Tryd.func12, Tryd.ntmps12
  go_wp2_with fail
  refine (open_any a n cap w H.out).mono ?_
  rintro e w1 ⟨B, rfl, hr, hB, hb⟩
  go_wp2_with fail
  refine (l20Spans_to B 0 6 w1 ⟨0, Nat.le_refl _, hr⟩ (by omega) (by omega) (by omega)).mono ?_
  rintro e w2 ⟨xs, v, hl, hvn, rfl, ho, hd⟩
  go_wp2
  go_ret
  exact ⟨xs, v, hl, hvn, rfl, World.ownsRow.mono ho hb.size, hd.below hb hB⟩
/-- It returns some text that is not long. -/
def DrawSome (w : World) (e : Ending) (w' : World) : Prop := ∃ l : List UInt8, l.length ≤ 1000 ∧ e = .returned (.string (bs l)) ∧ Below w.heap.size w w'
theorem spTxt_len (xs : List DSpan) : (spTxt xs).length ≤ 700 := by
  unfold spTxt
  split
  · rename_i h
    obtain ⟨h1, h2⟩ := spB_all h
    have := accT_len xs h2 xs.length (Nat.le_refl _)
    omega
  · simp
theorem Dr.grow {w wx w' : World} {B m : Nat} (h : Dr w wx B m) (hb : Below wx.heap.size wx w') : Dr w w' B m :=
  ⟨h.1.kept (grown_of_below hb none) (by intro k h; cases h), grownBy_trans h.2.1 (grown_of_below hb _), h.2.2⟩

set_option maxRecDepth 100000 in
set_option maxHeartbeats 4000000 in
theorem drawReadSpans_any (a : Option Addr) (n cap : Nat) (w : World) (h : Code8 w a n cap) : Calls Tryd.prog 20 #[.slice a n cap] w (DrawSome w) := by
  have H := Lib.hid h
  clear h
  go_enter Tryd.func20, Tryd.ntmps20
  go_wp2_with fail
  refine (open_any a n cap w H.out).mono ?_
  rintro e w1 ⟨B, rfl, hr, hB, hb⟩
  have HB := Lib.hid hb
  go_wp2_with fail
  refine (l20Spans_to B 0 0 w1 ⟨0, Nat.le_refl _, hr⟩ (by omega) (by omega) (by omega)).mono ?_
  rintro e w2 ⟨xs, v, hl, hvn, rfl, ho, hd⟩
  have D2 := Lib.hid hd
  have ST := Lib.hid (specTxt_any v xs w2 (SRow.of_owns encSpan_len rfl ho))
  have hlen := spTxt_len xs
  obtain ⟨l, hll⟩ : ∃ l, l = spTxt xs := ⟨_, rfl⟩
  rw [← hll] at ST hlen
  clear hb hr hd ho hll hvn
  go_wp2_with fail
  refine (ST.out).mono ?_
  rintro e w3 ⟨rfl, b3⟩
  have D3 := Lib.hid (D2.out.grow b3)
  clear b3 D2 ST
  go_wp2_with fail
  refine (odd_to B 30 3 w3 D3.out.1 (by omega) (by omega) (by omega)).mono ?_
  rintro e w4 ⟨b, rfl, r4, g4⟩
  have D4 := Lib.hid (D3.out.pick g4 r4)
  clear r4 g4 D3
  cases b
  · go_wp2
    go_ret
    exact ⟨l, by omega, rfl, D4.out.below HB.out hB⟩
  · have c1 : ¬ 9223372036854775807 < l.length + 1 := by omega
    have dA := D4.out.alloc (.cells #[.string ⟨#[]⟩, .string ⟨#[48]⟩, .string ⟨#[51, 45, 49]⟩, .string ⟨#[49, 44, 50]⟩, .string ⟨#[49, 45, 49]⟩, .string ⟨#[48, 49]⟩, .string ⟨#[49, 44]⟩, .string ⟨#[44, 49]⟩, .string ⟨#[49, 45]⟩, .string ⟨#[97]⟩, .string ⟨#[53, 44, 51]⟩, (.string (bs l ++ (⟨#[44]⟩ : ByteArray))), (.string (bs l ++ (⟨#[32]⟩ : ByteArray)))] 9)
    go_wp2_with fail
    refine (pick_to B 31 13 _ dA.1 (by omega) (by omega) (by omega)).mono ?_
    rintro e w5 ⟨q, q0, q1, rfl, r5, g5⟩
    have hc := fun i (u : Value) (hu : (#[.string ⟨#[]⟩, .string ⟨#[48]⟩, .string ⟨#[51, 45, 49]⟩, .string ⟨#[49, 44, 50]⟩, .string ⟨#[49, 45, 49]⟩, .string ⟨#[48, 49]⟩, .string ⟨#[49, 44]⟩, .string ⟨#[44, 49]⟩, .string ⟨#[49, 45]⟩, .string ⟨#[97]⟩, .string ⟨#[53, 44, 51]⟩, (.string (bs l ++ (⟨#[44]⟩ : ByteArray))), (.string (bs l ++ (⟨#[32]⟩ : ByteArray)))] : Array Value)[i]? = some u) => g5.cell (a := ⟨w4.heap.size, i, none⟩) (v := u) ((World.cell?_alloc_at _ _ _ _ rfl).trans hu) (by have := D4.out.1.lt; simp; omega)
    have D5 := Lib.hid (dA.pick g5 r5)
    obtain ⟨X, hX, cz⟩ : ∃ X : List UInt8, X.length ≤ 1000 ∧ w5.cell? ⟨w4.heap.size, q.toNat, none⟩ = some (.string (bs X)) := by
      rcases (by omega : q = 0 ∨ q = 1 ∨ q = 2 ∨ q = 3 ∨ q = 4 ∨ q = 5 ∨ q = 6 ∨ q = 7 ∨ q = 8 ∨ q = 9 ∨ q = 10 ∨ q = 11 ∨ q = 12) with rfl | rfl | rfl | rfl | rfl | rfl | rfl | rfl | rfl | rfl | rfl | rfl | rfl
      · exact ⟨[], by simp; try omega, hc 0 _ rfl⟩
      · exact ⟨[48], by simp; try omega, hc 1 _ rfl⟩
      · exact ⟨[51, 45, 49], by simp; try omega, hc 2 _ rfl⟩
      · exact ⟨[49, 44, 50], by simp; try omega, hc 3 _ rfl⟩
      · exact ⟨[49, 45, 49], by simp; try omega, hc 4 _ rfl⟩
      · exact ⟨[48, 49], by simp; try omega, hc 5 _ rfl⟩
      · exact ⟨[49, 44], by simp; try omega, hc 6 _ rfl⟩
      · exact ⟨[44, 49], by simp; try omega, hc 7 _ rfl⟩
      · exact ⟨[49, 45], by simp; try omega, hc 8 _ rfl⟩
      · exact ⟨[97], by simp; try omega, hc 9 _ rfl⟩
      · exact ⟨[53, 44, 51], by simp; try omega, hc 10 _ rfl⟩
      · exact ⟨l ++ [44], by simp; try omega, by rw [← bs_append]; exact hc 11 _ rfl⟩
      · exact ⟨l ++ [32], by simp; try omega, by rw [← bs_append]; exact hc 12 _ rfl⟩
    clear hc dA r5 g5 D4
    go_wp2
    go_ret
    exact ⟨X, hX, rfl, D5.out.below HB.out hB⟩
end Go.Proofs.YtjkahdmmejmilaaDoor

/-
  PROVED HERE: what the drawing functions of ranges hand back. Conditions: each theorem's own.
-/
import Derived.Test.YtjkahdmmejmilaaDr
import Derived.Test.YtjkahdmmejmilaaSpanC
import Derived.Deep.Cut
import Derived.Deep.Onto
namespace Go.Proofs.Ytjkahdmmejmilaa
open Go.RowKit

/-- What drawing ranges leaves. -/
def SpTo (m : Nat) (w : World) (B : Nat) (e : Ending) (w' : World) : Prop :=
  ∃ (xs : List DSpan) (v : Value), xs.length ≤ 6 ∧ v ≠ .slice none 0 0 ∧ e = .returned v ∧ w'.ownsRow w.heap.size 33 2 v xs.length (xs.flatMap encSpan) ∧ Dr w w' B (m + 30)

set_option maxHeartbeats 4000000 in
theorem l20Spans_to (B m : Nat) (n : Int) (w : World) (h : RdTo B m w) (hm : m ≤ 900000) (hn : 0 ≤ n) (hn' : n ≤ 1000000) :
    Calls Try.prog 27 #[.pointer (some ⟨B, 0, none⟩), .int .i64 n] w (SpTo m w B) := by
  have hBw := h.lt
  obtain ⟨i0, hi, hz0, hz1, hz2⟩ := info_parts info_Span
  have d0 := (Dr.start h).alloc (.cells #[] 33)
  have o0 : (w.alloc (.cells #[] 33)).ownsRow w.heap.size 33 2 (.slice (some ⟨w.heap.size, 0, none⟩) 0 0) 0 [] := World.ownsRow_made w #[] 0 (Nat.le_refl _) (Nat.zero_le _) rfl
  have D0 := Lib.hid d0
  have O0 := Lib.hid o0
  clear d0 o0 h
  go_enter Try.func27, Try.ntmps27
  go_wp2_with fail
  refine (pick_to B m 5 _ D0.out.1 (by omega) (by omega) (by omega)).mono ?_
  rintro e w1 ⟨k1, a1, b1, rfl, r1, g1⟩
  have D1 := Lib.hid (D0.out.pick g1 r1)
  have O1 := Lib.hid (own_pick O0.out hBw g1)
  clear r1 g1 D0 O0
  go_wp2_with fail
  go_loopw [5, 6, 7] (fun v fr i wr => ∃ (k j : Nat) (f : Int), k + j ≤ 5 ∧ i = .int .i64 j ∧ fr = .int .i64 f ∧ 0 ≤ f ∧ f ≤ 20 * k ∧ Hid (v ≠ .slice none 0 0) ∧ Hid (∃ xs : List DSpan, xs.length = k ∧ wr.ownsRow w.heap.size 33 2 v k (xs.flatMap encSpan)) ∧ Hid (Dr w wr B (m + 1 + 3 * k))) (fun _ _ i _ => (intOf i).toNat)
  case atStart => exact ⟨0, k1.toNat, 0, by omega, by simp; omega, rfl, by omega, by omega, by show _ ≠ _; simp, ⟨[], rfl, O1.out⟩, D1.out⟩
  case round =>
    obtain ⟨k, j, f, hk, rfl, rfl, f0, f1, hv, ho, hd⟩ := hrel
    clear D1 O1
    by_cases hj : 0 < j
    · obtain ⟨xs, hxl, hown⟩ := ho.out
      go_wp2_with fail
      refine (pick_to B (m + 1 + 3 * k) 9 _ hd.out.1 (by omega) (by omega) (by omega)).mono ?_
      rintro e w2 ⟨q, q0, q1, rfl, r2, g2⟩
      have DB := Lib.hid (hd.out.pick g2 r2)
      have OB := Lib.hid (own_pick hown hBw g2)
      clear r2 g2 hown ho hd
      go_wp2_with fail
      refine (pick_to B (m + 1 + 3 * k + 1) 5 _ DB.out.1 (by omega) (by omega) (by omega)).mono ?_
      rintro e w3 ⟨p, p0, p1, rfl, r3, g3⟩
      have DC := Lib.hid (DB.out.pick g3 r3)
      have OC := Lib.hid (own_pick OB.out hBw g3)
      clear r3 g3 DB OB
      go_wp2_with fail
      have dA := DC.out.alloc (.cells #[.int .i64 0, .int .i64 p] 3)
      refine (pick_to B (m + 1 + 3 * k + 1 + 1) 2 _ dA.1 (by omega) (by omega) (by omega)).mono ?_
      rintro e w4 ⟨y, y0, y1, rfl, r4, g4⟩
      obtain ⟨z, hz, cz⟩ := lit_pick [0, p] 3 DC.out.1 g4 y y0 (by simpa using y1)
      have hz3 : 0 ≤ z ∧ z ≤ 4 := by simp at hz; omega
      obtain ⟨hz4, hz5⟩ := hz3
      have DD := Lib.hid (dA.pick g4 r4)
      have OD := Lib.hid (own_pick (OC.out.alloc (.cells #[.int .i64 0, .int .i64 p] 3)) hBw g4)
      have hws := DD.out.size
      clear dA r4 g4 DC OC hz
      go_wp2_with (at_builtin; refine wpList_append_own _ rfl _ _ 25 rfl w.heap.size 33 i0 (.agg #[.int .i64 0, .int .i64 0]) 2 16 Try.underlying25 hi hz0 hz1 hz2 rfl (by decide) _ _ _ rfl (OD.out.alloc _) ⟨w4.heap.size, 0, none⟩ 1 1 [.int .i64 (f + 1 + q), .int .i64 (f + 1 + q + z)] rfl rfl (cells_new _ [_, _] _) (by intro u hu; simp at hu; rcases hu with rfl | rfl <;> rfl) (by unfold maxLen; omega) (by omega) (by simp; omega) ?_; intro v' w9 hown' hgrow hiff)
      have dF := (DD.out.alloc (.cells #[.int .i64 (f + 1 + q), .int .i64 (f + 1 + q + z)] 33)).push (OD.out.alloc _) (Nat.le_refl _) hgrow
      have hv' : Hid (v' ≠ .slice none 0 0) := fun e => by have := (hiff.1 e).2; omega
      clear hiff
      go_roundw
      case rel => exact ⟨k + 1, j - 1, f + 1 + q + z + 1, by omega, by go_num, rfl, by omega, by omega, hv', ⟨xs ++ [⟨f + 1 + q, f + 1 + q + z⟩], by simp [hxl], by simpa [encSpan] using hown'⟩, dF.mono (by omega)⟩
      case measure => simp [intOf]; omega
    · obtain rfl : j = 0 := by omega
      go_wp2_with fail
      refine (odd_to B (m + 1 + 3 * k) n _ hd.out.1 (by omega) hn hn').mono ?_
      rintro e w2 ⟨b, rfl, r3, g3⟩
      obtain ⟨xs, hxl, hown⟩ := ho.out
      have DB := Lib.hid (hd.out.pick g3 r3)
      have OB := Lib.hid (own_pick hown hBw g3)
      clear hd ho hown r3 g3
      cases b
      · go_wp2_with fail
        go_ret
        exact ⟨xs, _, by omega, hv.out, rfl, by rw [hxl]; exact OB.out, DB.out.mono (by omega)⟩
      · go_wp2_with fail
        have dA := DB.out.alloc (.cells #[.int .i64 f, .int .i64 f, .int .i64 5, .int .i64 4, .int .i64 999, .int .i64 1000, .int .i64 0, .int .i64 3] 33)
        refine (pick_to B (m + 1 + 3 * k + 1) 4 _ dA.1 (by omega) (by omega) (by omega)).mono ?_
        rintro e w3 ⟨q, q0, q1, rfl, r2, g2⟩
        have hc := fun i (u : Value) (hu : (#[.int .i64 f, .int .i64 f, .int .i64 5, .int .i64 4, .int .i64 999, .int .i64 1000, .int .i64 0, .int .i64 3] : Array Value)[i]? = some u) => g2.cell (a := ⟨w2.heap.size, i, none⟩) (v := u) ((World.cell?_alloc_at _ _ _ _ rfl).trans hu) (by have := DB.out.1.lt; simp; omega)
        have DC := Lib.hid (dA.pick g2 r2)
        have OC := Lib.hid (own_pick (OB.out.alloc (.cells #[.int .i64 f, .int .i64 f, .int .i64 5, .int .i64 4, .int .i64 999, .int .i64 1000, .int .i64 0, .int .i64 3] 33)) hBw g2)
        have hws := DC.out.size
        obtain ⟨T, hTe⟩ : ∃ T, T = w2.heap.size := ⟨_, rfl⟩
        obtain ⟨qn, rfl⟩ := Int.eq_ofNat_of_zero_le q0
        obtain ⟨y0, y1, e0, e1⟩ : ∃ y0 y1 : Int, w3.cell? ⟨T, qn * 2, none⟩ = some (.int .i64 y0) ∧ w3.cell? ⟨T, qn * 2 + 1, none⟩ = some (.int .i64 y1) := by
          rw [hTe]
          rcases (by omega : qn = 0 ∨ qn = 1 ∨ qn = 2 ∨ qn = 3) with rfl | rfl | rfl | rfl
          · exact ⟨_, _, hc 0 _ rfl, hc 1 _ rfl⟩
          · exact ⟨_, _, hc 2 _ rfl, hc 3 _ rfl⟩
          · exact ⟨_, _, hc 4 _ rfl, hc 5 _ rfl⟩
          · exact ⟨_, _, hc 6 _ rfl, hc 7 _ rfl⟩
        rw [← hTe]
        clear hc r2 g2 dA DB OB hTe
        go_wp2_with (at_builtin; refine wpList_append_own _ rfl _ _ 25 rfl w.heap.size 33 i0 (.agg #[.int .i64 0, .int .i64 0]) 2 16 Try.underlying25 hi hz0 hz1 hz2 rfl (by decide) _ _ _ rfl (OC.out.alloc _) ⟨w3.heap.size, 0, none⟩ 1 1 [.int .i64 y0, .int .i64 y1] rfl rfl (cells_new _ [_, _] _) (by intro u hu; simp at hu; rcases hu with rfl | rfl <;> rfl) (by unfold maxLen; omega) (by omega) (by simp; omega) ?_; intro v' w9 hown' hgrow hiff)
        have dF := (DC.out.alloc (.cells #[.int .i64 y0, .int .i64 y1] 33)).push (OC.out.alloc _) (Nat.le_refl _) hgrow
        have hv' : Hid (v' ≠ .slice none 0 0) := fun e => by have := (hiff.1 e).2; omega
        clear hiff
        go_ret
        exact ⟨xs ++ [⟨y0, y1⟩], v', by simp; omega, hv'.out, rfl, by simpa [encSpan, hxl] using hown', dF.mono (by omega)⟩

/-- It returns ranges that are its own; nothing that was there turns. -/
def DrawSp (w : World) (e : Ending) (w' : World) : Prop :=
  ∃ (xs : List DSpan) (v : Value), xs.length ≤ 6 ∧ v ≠ .slice none 0 0 ∧ e = .returned v ∧ w'.ownsRow w.heap.size 33 2 v xs.length (xs.flatMap encSpan) ∧ Below w.heap.size w w'

theorem drawSpansValid_any (a : Option Addr) (n cap : Nat) (w : World) (h : Code8 w a n cap) : Calls Try.prog 12 #[.slice a n cap] w (DrawSp w) := by
  have H := Lib.hid h
  clear h
  go_enter Try.func12, Try.ntmps12
  go_wp2_with fail
  refine (open_any a n cap w H.out).mono ?_
  rintro e w1 ⟨B, rfl, hr, hB, hb⟩
  go_wp2_with fail
  refine (l20Spans_to B 0 2 w1 ⟨0, Nat.le_refl _, hr⟩ (by omega) (by omega) (by omega)).mono ?_
  rintro e w2 ⟨xs, v, hl, hvn, rfl, ho, hd⟩
  go_wp2
  go_ret
  exact ⟨xs, v, hl, hvn, rfl, World.ownsRow.mono ho hb.size, hd.below hb hB⟩

/-- It returns ranges that are its own, and a number; nothing that was there turns. -/
def DrawSpN (w : World) (e : Ending) (w' : World) : Prop :=
  ∃ (xs : List DSpan) (v : Value) (l : Int), xs.length ≤ 6 ∧ -1 ≤ l ∧ l ≤ 49 ∧ e = .returned (.tuple #[v, .int .i64 l]) ∧ w'.ownsRow w.heap.size 33 2 v xs.length (xs.flatMap encSpan) ∧ Below w.heap.size w w'

set_option maxRecDepth 100000 in
set_option maxHeartbeats 1000000 in
theorem drawSpanPages_any (a : Option Addr) (n cap : Nat) (w : World) (h : Code8 w a n cap) : Calls Try.prog 14 #[.slice a n cap] w (DrawSpN w) := by
  have H := Lib.hid h
  clear h
  go_enter Try.func14, Try.ntmps14
  go_wp2_with fail
  refine (open_any a n cap w H.out).mono ?_
  rintro e w1 ⟨B, rfl, hr0, hB, hb⟩
  go_wp2_with fail
  refine (l20Spans_to B 0 9 w1 ⟨0, Nat.le_refl _, hr0⟩ (by omega) (by omega) (by omega)).mono ?_
  rintro e w3 ⟨xs, V, hk, hvn, rfl, ho, hd⟩
  obtain ⟨p0, hp0, hr⟩ := hd.1
  go_wp2_with fail
  refine draw_region _ _ B p0 13 [10, 11, 12, 13, 14, 15, 16, 17, 18, 19, 20, 2, 3] [Ty.is (V), Ty.rd, Ty.num (0) (49), Ty.sl 3 (-1) (49), Ty.sl 6 (0) (2), Ty.rd, Ty.num (0) (5), Ty.el (0) (2), Ty.num (0) (2), Ty.el (-1) (49), Ty.num (-1) (49), Ty.is (V), Ty.num (-1) (49)] (by kernel_rfl) (by kernel_rfl) hr (by omega) ?_ ?_
  · intro m i o a w hm ho hF hI hA
    have hrd : a.tmps.getD 4 undef = .pointer (some ⟨B, 0, none⟩) := by
      have h := hF.2.2 4 (by intro i hi; revert i; decide)
      rw [Array.getD_eq_getD_getElem?, h]
      rfl
    have hw5 : a.tmps.getD 5 undef = V := by
      have h := hF.2.2 5 (by intro i hi; revert i; decide)
      rw [Array.getD_eq_getD_getElem?, h]
      rfl
    match i, ho with
    | 0, ho =>
      obtain rfl := Option.some.inj ho
      refine wpOp_of rfl rfl ?_
      exact step_move _ (.inl rfl) rfl hI hw5
    | 1, ho =>
      obtain rfl := Option.some.inj ho
      refine wpOp_of rfl rfl ?_
      exact step_move _ (.inl rfl) rfl hI hrd
    | 2, ho =>
      obtain rfl := Option.some.inj ho
      have h1 := hA ⟨1, .data⟩ (by simp) rfl
      refine wpOp_of rfl rfl ?_
      exact step_pick _ _ rfl rfl hI (by omega) h1 (by decide) (by decide) (by decide)
    | 3, ho =>
      obtain rfl := Option.some.inj ho
      have h2 := hA ⟨2, .data⟩ (by simp) rfl
      refine wpOp_of rfl rfl ?_
      obtain ⟨k2, e2, q2⟩ := h2
      have e2' : a.tmps[12]?.getD undef = .int .i64 k2 := by simpa using e2
      exact step_build [k2, 0, -1] 3 3 rfl hI rfl (by simp [go_sem, e2']) (by simp; omega)
    | 4, ho =>
      obtain rfl := Option.some.inj ho
      refine wpOp_of rfl rfl ?_
      exact step_build [0, 0, 0, 0, 1, 2] 6 3 rfl hI rfl (by simp [go_sem]) (by decide)
    | 5, ho =>
      obtain rfl := Option.some.inj ho
      refine wpOp_of rfl rfl ?_
      exact step_move _ (.inl rfl) rfl hI hrd
    | 6, ho =>
      obtain rfl := Option.some.inj ho
      have h5 := hA ⟨5, .data⟩ (by simp) rfl
      refine wpOp_of rfl rfl ?_
      exact step_pick _ _ rfl rfl hI (by omega) h5 (by decide) (by decide) (by decide)
    | 7, ho =>
      obtain rfl := Option.some.inj ho
      have h4 := hA ⟨4, .data⟩ (by simp) rfl
      have h6 := hA ⟨6, .data⟩ (by simp) rfl
      refine wpOp_of rfl rfl ?_
      exact step_index _ _ _ rfl Try.underlying37 rfl hI h4 h6 (by decide) (by decide)
    | 8, ho =>
      obtain rfl := Option.some.inj ho
      have h7 := hA ⟨7, .data⟩ (by simp) rfl
      refine wpOp_of rfl rfl ?_
      exact step_load _ rfl rfl hI h7
    | 9, ho =>
      obtain rfl := Option.some.inj ho
      have h3 := hA ⟨3, .data⟩ (by simp) rfl
      have h8 := hA ⟨8, .data⟩ (by simp) rfl
      refine wpOp_of rfl rfl ?_
      exact step_index _ _ _ rfl Try.underlying37 rfl hI h3 h8 (by decide) (by decide)
    | 10, ho =>
      obtain rfl := Option.some.inj ho
      have h9 := hA ⟨9, .data⟩ (by simp) rfl
      refine wpOp_of rfl rfl ?_
      exact step_load _ rfl rfl hI h9
    | 11, ho =>
      obtain rfl := Option.some.inj ho
      have h0 := hA ⟨0, .data⟩ (by simp) rfl
      refine wpOp_of rfl rfl ?_
      exact step_move _ (.inr rfl) rfl hI h0
    | 12, ho =>
      obtain rfl := Option.some.inj ho
      have h10 := hA ⟨10, .data⟩ (by simp) rfl
      refine wpOp_of rfl rfl ?_
      exact step_move _ (.inr rfl) rfl hI h10
    | _ + 13, ho => exact absurd ho (by simp)
  · intro vs w2 hvs hA hr2 hg2
    match vs, hvs with
    | x0 :: x1 :: x2 :: x3 :: x4 :: x5 :: x6 :: x7 :: x8 :: x9 :: x10 :: x11 :: x12 :: [], _ =>
      obtain rfl : V = x11 := Eq.symm (hA 11 (by decide))
      obtain ⟨l, hxl, hql⟩ := hA 12 (by decide)
      subst hxl
      go_wp2
      go_ret2
      have hBw := hd.2.2
      have d2 := hd.pick hg2 ⟨_, Nat.le_refl _, hr2.choose_spec.2⟩
      refine ⟨xs, V, l, hk, hql.1, by have := hql.2; omega, by kernel_rfl, World.ownsRow.mono (own_pick ho hBw hg2) hb.size, d2.below hb hB⟩
end Go.Proofs.Ytjkahdmmejmilaa

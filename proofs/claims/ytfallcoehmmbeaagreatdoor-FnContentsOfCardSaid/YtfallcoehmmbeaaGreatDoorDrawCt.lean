/-
  PROVED HERE: what drawing titles for contents hands back. Conditions: each theorem's own.
-/
import Derived.Test.YtfallcoehmmbeaaGreatDoorTitF
import Derived.Test.YtfallcoehmmbeaaGreatDoorTitR
import Derived.Test.YtfallcoehmmbeaaGreatDoorOpen
import Derived.Test.YtfallcoehmmbeaaGreatDoorRegDraw
import Derived.Deep.Onto
set_option linter.unusedVariables false
set_option linter.unusedSimpArgs false
namespace Go.Proofs.YtfallcoehmmbeaaGreatDoor
open Go.RowKit

def Sh41 (xs : List DTitle) : Prop := ∀ x ∈ xs, x.f0.length ≤ 41
theorem Sh41.snoc {xs : List DTitle} (h : Sh41 xs) {x : DTitle} (hx : x.f0.length ≤ 41) : Sh41 (xs ++ [x]) := fun y hy => by
  rcases List.mem_append.1 hy with hy | hy
  · exact h y hy
  · rw [List.mem_singleton.1 hy]; exact hx
/-- It returns titles of its own, and a width; nothing that was there turns. -/
def DrawCt (w : World) (e : Ending) (w' : World) : Prop :=
  ∃ (xs : List DTitle) (v : Value) (l : Int), xs.length ≤ 4 ∧ Sh41 xs ∧ 20 ≤ l ∧ l ≤ 60 ∧ e = .returned (.tuple #[v, .int .i64 l]) ∧ w'.ownsRow w.heap.size 32 3 v xs.length (xs.flatMap encTitle) ∧ Below w.heap.size w w'

set_option maxRecDepth 100000 in
set_option maxHeartbeats 8000000 in
theorem drawCt_any (a : Option Addr) (n cap : Nat) (w : World) (h : Code8 w a n cap) : Calls Tryz.prog 4 #[.slice a n cap] w (DrawCt w) := by
  have H := Lib.hid h
  obtain ⟨i0, hi, hz0, hz1, hz2⟩ := info_parts info_Title
  clear h
  go_enter Tryz.func4, Tryz.ntmps4
  go_wp2_with fail
  refine (open_any a n cap w H.out).mono ?_
  rintro e w1 ⟨B, rfl, hr, hB, hb⟩
  have hBw := hr.lt
  have HB := Lib.hid hb
  have D0 := Lib.hid ((Dr.start (⟨0, Nat.le_refl _, hr⟩ : RdTo B 0 w1)).alloc (.cells #[] 32))
  have O0 := Lib.hid (World.ownsRow_made (base := w1.heap.size) (e := 32) (size := 3) w1 #[] 0 (Nat.le_refl _) (Nat.zero_le _) rfl)
  clear hr hb H
  go_wp2_with fail
  refine (pick_to B 0 5 _ D0.out.1 (by omega) (by omega) (by omega)).mono ?_
  rintro e w2 ⟨k1, a1, b1, rfl, r1, g1⟩
  have D1 := Lib.hid (D0.out.pick g1 r1)
  have O1 := Lib.hid (own_pick O0.out hBw g1)
  clear r1 g1 D0 O0
  go_wp2_with fail
  go_loopw [5, 6] (fun v i wr => ∃ k j : Nat, k + j ≤ 4 ∧ i = .int .i64 j ∧ Hid (∃ xs : List DTitle, xs.length = k ∧ Sh41 xs ∧ wr.ownsRow w1.heap.size 32 3 v k (xs.flatMap encTitle)) ∧ Hid (Dr w1 wr B (1 + 20 * k))) (fun _ i _ => (intOf i).toNat)
  case atStart => exact ⟨0, k1.toNat, by omega, by simp; omega, ⟨[], rfl, (fun s hs => by cases hs), O1.out⟩, D1.out⟩
  case round =>
    obtain ⟨k, j, hk, rfl, ho, hd⟩ := hrel
    clear D1 O1
    by_cases hj : 0 < j
    · obtain ⟨xs, hxl, hxs, hown⟩ := ho.out
      have HXS := Lib.hid hxs
      have HXL := Lib.hid hxl
      clear ho hxs hxl
      go_wp2_with fail
      refine (l20Title_to B (1 + 20 * k) 30 _ hd.out.1 (by omega) (by omega) (by omega)).mono ?_
      rintro e w3 ⟨l, lev, pg, hl, rfl, hdr⟩
      have D3 := Lib.hid (hd.out.pick hdr.2.1 hdr.1)
      have O3 := Lib.hid (own_pick hown hBw hdr.2.1)
      have hws := D3.out.size
      clear hown hd hdr
      go_wp2_with (at_builtin; refine wpList_append_own _ rfl _ _ 23 rfl w1.heap.size 32 i0 (.agg #[.string ⟨#[]⟩, .int .i64 0, .int .i64 0]) 3 32 Tryz.underlying23 hi hz0 hz1 hz2 rfl (by decide) _ _ _ rfl (O3.out.alloc _) ⟨w3.heap.size, 0, none⟩ 1 1 [.string (bs l), .int .i64 lev, .int .i64 pg] rfl rfl (cells_new _ [_, _, _] _) (by intro u hu; simp at hu; rcases hu with rfl | rfl | rfl <;> rfl) (by unfold maxLen; omega) (by omega) (by simp; omega) ?_; intro v' w9 hown' hgrow hiff)
      have dF := (D3.out.alloc (.cells #[.string (bs l), .int .i64 lev, .int .i64 pg] 32)).push (O3.out.alloc _) (Nat.le_refl _) hgrow
      clear hiff
      go_roundw
      case rel => exact ⟨k + 1, j - 1, by omega, by go_num, ⟨xs ++ [⟨l, lev, pg⟩], by have := HXL.out; simp [this], HXS.out.snoc hl, by simpa [encTitle] using hown'⟩, dF.mono (by omega)⟩
      case measure => simp [intOf]; omega
    · obtain ⟨xs, hxk, hxs, hown⟩ := ho.out
      have HXS := Lib.hid hxs
      have HXK := Lib.hid hxk
      have O4 := Lib.hid hown
      have D4 := Lib.hid hd.out
      have hk7 : k ≤ 4 := by omega
      clear ho hxs hxk hown hd
      go_wp2_with fail
      obtain ⟨p0, hp0, hr⟩ := D4.out.1
      refine draw_region _ _ B p0 15 [21, 22, 23, 24, 25, 26, 27, 28, 29, 30, 31, 32, 33, 2, 3] [Ty.is (u5), Ty.rd, Ty.num (0) (20), Ty.num (40) (60), Ty.rd, Ty.num (0) (19), Ty.num (20) (39), Ty.sl 2 (20) (60), Ty.rd, Ty.num (0) (2), Ty.num (0) (1), Ty.el (20) (60), Ty.num (20) (60), Ty.is (u5), Ty.num (20) (60)] (by kernel_rfl) (by kernel_rfl) hr (by omega) ?_ ?_
      · intro m i o a w hm ho hF hI hA
        have hrd : a.tmps.getD 4 undef = .pointer (some ⟨B, 0, none⟩) := by
          have h := hF.2.2 4 (by intro i hi; revert i; decide)
          rw [Array.getD_eq_getD_getElem?, h]
          rfl
        have hw5 : a.tmps.getD 5 undef = u5 := by
          have h := hF.2.2 5 (by intro i hi; revert i; decide)
          rw [Array.getD_eq_getD_getElem?, h]
          rfl
        match i, ho with
        | 0, ho =>
          obtain rfl := Option.some.inj ho
          refine wpOp_of rfl rfl ?_
          exact step_move _ (.inl rfl) rfl hI hw5
        | 1, ho =>
          obtain rfl := Option.some.inj ho
          refine wpOp_of rfl rfl ?_
          exact step_move _ (.inl rfl) rfl hI hrd
        | 2, ho =>
          obtain rfl := Option.some.inj ho
          have h1 := hA ⟨1, .data⟩ (by simp) rfl
          refine wpOp_of rfl rfl ?_
          exact step_pick _ _ rfl rfl hI (by omega) h1 (by decide) (by decide) (by decide)
        | 3, ho =>
          obtain rfl := Option.some.inj ho
          have h2 := hA ⟨2, .data⟩ (by simp) rfl
          refine wpOp_of rfl rfl ?_
          obtain ⟨k2, e2, q2⟩ := h2
          exact step_add _ _ _ _ rfl rfl hI rfl ⟨Int.le_refl _, Int.le_refl _⟩ e2 q2 (by decide) (by decide) (by decide) (by decide)
        | 4, ho =>
          obtain rfl := Option.some.inj ho
          refine wpOp_of rfl rfl ?_
          exact step_move _ (.inl rfl) rfl hI hrd
        | 5, ho =>
          obtain rfl := Option.some.inj ho
          have h4 := hA ⟨4, .data⟩ (by simp) rfl
          refine wpOp_of rfl rfl ?_
          exact step_pick _ _ rfl rfl hI (by omega) h4 (by decide) (by decide) (by decide)
        | 6, ho =>
          obtain rfl := Option.some.inj ho
          have h5 := hA ⟨5, .data⟩ (by simp) rfl
          refine wpOp_of rfl rfl ?_
          obtain ⟨k5, e5, q5⟩ := h5
          exact step_add _ _ _ _ rfl rfl hI rfl ⟨Int.le_refl _, Int.le_refl _⟩ e5 q5 (by decide) (by decide) (by decide) (by decide)
        | 7, ho =>
          obtain rfl := Option.some.inj ho
          have h3 := hA ⟨3, .data⟩ (by simp) rfl
          have h6 := hA ⟨6, .data⟩ (by simp) rfl
          refine wpOp_of rfl rfl ?_
          obtain ⟨k3, e3, q3⟩ := h3
          have e3' : a.tmps[24]?.getD undef = .int .i64 k3 := by simpa using e3
          obtain ⟨k6, e6, q6⟩ := h6
          have e6' : a.tmps[27]?.getD undef = .int .i64 k6 := by simpa using e6
          exact step_build [k3, k6] 2 3 rfl hI rfl (by simp [go_sem, e3', e6']) (by simp; omega)
        | 8, ho =>
          obtain rfl := Option.some.inj ho
          refine wpOp_of rfl rfl ?_
          exact step_move _ (.inl rfl) rfl hI hrd
        | 9, ho =>
          obtain rfl := Option.some.inj ho
          have h8 := hA ⟨8, .data⟩ (by simp) rfl
          refine wpOp_of rfl rfl ?_
          exact step_pick _ _ rfl rfl hI (by omega) h8 (by decide) (by decide) (by decide)
        | 10, ho =>
          obtain rfl := Option.some.inj ho
          have h9 := hA ⟨9, .data⟩ (by simp) rfl
          refine wpOp_of rfl rfl ?_
          obtain ⟨k9, e9, q9⟩ := h9
          exact step_quoc _ _ _ rfl rfl hI e9 q9 (by decide) (by decide) (by decide) (by decide) (by decide) (by decide)
        | 11, ho =>
          obtain rfl := Option.some.inj ho
          have h7 := hA ⟨7, .data⟩ (by simp) rfl
          have h10 := hA ⟨10, .data⟩ (by simp) rfl
          refine wpOp_of rfl rfl ?_
          exact step_index _ _ _ rfl Tryz.underlying40 rfl hI h7 h10 (by decide) (by decide)
        | 12, ho =>
          obtain rfl := Option.some.inj ho
          have h11 := hA ⟨11, .data⟩ (by simp) rfl
          refine wpOp_of rfl rfl ?_
          exact step_load _ rfl rfl hI h11
        | 13, ho =>
          obtain rfl := Option.some.inj ho
          have h0 := hA ⟨0, .data⟩ (by simp) rfl
          refine wpOp_of rfl rfl ?_
          exact step_move _ (.inr rfl) rfl hI h0
        | 14, ho =>
          obtain rfl := Option.some.inj ho
          have h12 := hA ⟨12, .data⟩ (by simp) rfl
          refine wpOp_of rfl rfl ?_
          exact step_move _ (.inr rfl) rfl hI h12
        | _ + 15, ho => exact absurd ho (by simp)
      · intro vs w2 hvs hA hr2 hg2
        match vs, hvs with
        | x0 :: x1 :: x2 :: x3 :: x4 :: x5 :: x6 :: x7 :: x8 :: x9 :: x10 :: x11 :: x12 :: x13 :: x14 :: [], _ =>
          obtain rfl : u5 = x13 := Eq.symm (hA 13 (by decide))
          obtain ⟨l, hxl, hql⟩ := hA 14 (by decide)
          subst hxl
          go_wp2
          have d2 := D4.out.pick hg2 ⟨_, Nat.le_refl _, hr2.choose_spec.2⟩
          go_ret2
          refine ⟨xs, u5, l, by rw [HXK.out]; omega, HXS.out, hql.1, hql.2, by kernel_rfl, by rw [HXK.out]; exact World.ownsRow.mono (own_pick O4.out hBw hg2) HB.out.size, d2.below HB.out hB⟩
end Go.Proofs.YtfallcoehmmbeaaGreatDoor

/-
  PROVED HERE: what DrawAvoidLonely hands back. Conditions: the theorem's own.
-/
import Derived.Test.YtaolkplecdbadaaDrawLon2
namespace Go.Proofs.Ytaolkplecdbadaa
open Go.RowKit

/-- It returns a number, a row of numbers, and a number; nothing that was there turns. -/
def DrawAv (w : World) (e : Ending) (w' : World) : Prop :=
  ∃ (M : Int) (ps : List Int) (v : Value) (l : Int), 0 ≤ M ∧ M ≤ 40 ∧ ps.length ≤ 40 ∧ 3 ≤ l ∧ l ≤ 60 ∧ e = .returned (.tuple #[.int .i64 M, v, .int .i64 l]) ∧ IRow w' v ps ∧ Below w.heap.size w w'

set_option maxRecDepth 100000 in
set_option maxHeartbeats 8000000 in
theorem drawAvoid_any (a : Option Addr) (n cap : Nat) (w : World) (h : Code8 w a n cap) : Calls Try.prog 29 #[.slice a n cap] w (DrawAv w) := by
  have H := Lib.hid h
  obtain ⟨i0, hi, hz0, hz1, hz2⟩ := info_parts info_int
  clear h
  go_enter Try.func29, Try.ntmps29
  go_wp2_with fail
  refine (open_any a n cap w H.out).mono ?_
  rintro e w1 ⟨B, rfl, hr, hB, hb⟩
  go_wp2_with fail
  have d0 : Dr w1 w1 B 0 := Dr.start ⟨0, Nat.le_refl _, hr⟩
  refine (pick_to B 0 30 _ d0.1 (by omega) (by omega) (by omega)).mono ?_
  rintro e w2 ⟨M, M0, M1, rfl, r2, g2⟩
  have d2 := d0.pick g2 r2
  have HB := Lib.hid hb
  clear d0 r2 g2 hr hb H
  go_wp2_with fail
  refine (lineEnds_to B 1 M w2 d2.1 (by omega) (by omega) (by omega)).mono ?_
  rintro e w3 ⟨ps, v, hpl, hvn, rfl, ov, d3⟩
  have D3 := Lib.hid (d2.trans d3)
  have hBw := d3.2.2
  have hs23 := d3.size
  have hs12 := d2.size
  have hs01 : w.heap.size ≤ w1.heap.size := HB.out.size
  clear d2 d3 hvn
  go_wp2_with fail
  refine (odd_to B 31 9 _ D3.out.1 (by omega) (by omega) (by omega)).mono ?_
  rintro e w5 ⟨bb, rfl, r5, g5⟩
  have D5 := Lib.hid (D3.out.pick g5 r5)
  have OV5 := Lib.hid (own_pick ov (by omega) g5)
  have hs45 := g5.size
  clear r5 g5 D3 ov
  cases bb
  · have IV := Lib.hid (IRow.of_owns OV5.out)
    have KV : Hid (∀ k, v.ownBlock = some k → B < k ∧ k < w5.heap.size) := fun k hk => by have := OV5.out.lt k hk; omega
    clear OV5
    go_wp2_with fail
    obtain ⟨p0, hp0, hr⟩ := D5.out.1
    refine draw_region _ _ B p0 16 [21, 22, 23, 24, 25, 26, 27, 28, 29, 30, 31, 32, 33, 2, 3, 4] [Ty.is (Value.int .i64 M), Ty.is (v), Ty.rd, Ty.num (0) (5), Ty.num (4) (9), Ty.sl 4 (3) (60), Ty.sl 6 (0) (3), Ty.rd, Ty.num (0) (5), Ty.el (0) (3), Ty.num (0) (3), Ty.el (3) (60), Ty.num (3) (60), Ty.is (Value.int .i64 M), Ty.is (v), Ty.num (3) (60)] (by kernel_rfl) (by kernel_rfl) hr (by omega) ?_ ?_
    · intro m i o a w hm ho hF hI hA
      have hrd : a.tmps.getD 5 undef = .pointer (some ⟨B, 0, none⟩) := by
        have h := hF.2.2 5 (by intro i hi; revert i; decide)
        rw [Array.getD_eq_getD_getElem?, h]
        rfl
      have hw6 : a.tmps.getD 6 undef = Value.int .i64 M := by
        have h := hF.2.2 6 (by intro i hi; revert i; decide)
        rw [Array.getD_eq_getD_getElem?, h]
        rfl
      have hw7 : a.tmps.getD 7 undef = v := by
        have h := hF.2.2 7 (by intro i hi; revert i; decide)
        rw [Array.getD_eq_getD_getElem?, h]
        rfl
      match i, ho with
      | 0, ho =>
        obtain rfl := Option.some.inj ho
        refine wpOp_of rfl rfl ?_
        exact step_move _ (.inl rfl) rfl hI hw6
      | 1, ho =>
        obtain rfl := Option.some.inj ho
        refine wpOp_of rfl rfl ?_
        exact step_move _ (.inl rfl) rfl hI hw7
      | 2, ho =>
        obtain rfl := Option.some.inj ho
        refine wpOp_of rfl rfl ?_
        exact step_move _ (.inl rfl) rfl hI hrd
      | 3, ho =>
        obtain rfl := Option.some.inj ho
        have h2 := hA ⟨2, .data⟩ (by simp) rfl
        refine wpOp_of rfl rfl ?_
        exact step_pick _ _ rfl rfl hI (by omega) h2 (by decide) (by decide) (by decide)
      | 4, ho =>
        obtain rfl := Option.some.inj ho
        have h3 := hA ⟨3, .data⟩ (by simp) rfl
        refine wpOp_of rfl rfl ?_
        obtain ⟨k3, e3, q3⟩ := h3
        exact step_add _ _ _ _ rfl rfl hI rfl ⟨Int.le_refl _, Int.le_refl _⟩ e3 q3 (by decide) (by decide) (by decide) (by decide)
      | 5, ho =>
        obtain rfl := Option.some.inj ho
        have h4 := hA ⟨4, .data⟩ (by simp) rfl
        refine wpOp_of rfl rfl ?_
        obtain ⟨k4, e4, q4⟩ := h4
        have e4' : a.tmps[25]?.getD undef = .int .i64 k4 := by simpa using e4
        exact step_build [k4, 4, 3, 60] 4 3 rfl hI rfl (by simp [go_sem, e4']) (by simp; omega)
      | 6, ho =>
        obtain rfl := Option.some.inj ho
        refine wpOp_of rfl rfl ?_
        exact step_build [0, 0, 0, 1, 2, 3] 6 3 rfl hI rfl (by simp [go_sem]) (by decide)
      | 7, ho =>
        obtain rfl := Option.some.inj ho
        refine wpOp_of rfl rfl ?_
        exact step_move _ (.inl rfl) rfl hI hrd
      | 8, ho =>
        obtain rfl := Option.some.inj ho
        have h7 := hA ⟨7, .data⟩ (by simp) rfl
        refine wpOp_of rfl rfl ?_
        exact step_pick _ _ rfl rfl hI (by omega) h7 (by decide) (by decide) (by decide)
      | 9, ho =>
        obtain rfl := Option.some.inj ho
        have h6 := hA ⟨6, .data⟩ (by simp) rfl
        have h8 := hA ⟨8, .data⟩ (by simp) rfl
        refine wpOp_of rfl rfl ?_
        exact step_index _ _ _ rfl Try.underlying32 rfl hI h6 h8 (by decide) (by decide)
      | 10, ho =>
        obtain rfl := Option.some.inj ho
        have h9 := hA ⟨9, .data⟩ (by simp) rfl
        refine wpOp_of rfl rfl ?_
        exact step_load _ rfl rfl hI h9
      | 11, ho =>
        obtain rfl := Option.some.inj ho
        have h5 := hA ⟨5, .data⟩ (by simp) rfl
        have h10 := hA ⟨10, .data⟩ (by simp) rfl
        refine wpOp_of rfl rfl ?_
        exact step_index _ _ _ rfl Try.underlying32 rfl hI h5 h10 (by decide) (by decide)
      | 12, ho =>
        obtain rfl := Option.some.inj ho
        have h11 := hA ⟨11, .data⟩ (by simp) rfl
        refine wpOp_of rfl rfl ?_
        exact step_load _ rfl rfl hI h11
      | 13, ho =>
        obtain rfl := Option.some.inj ho
        have h0 := hA ⟨0, .data⟩ (by simp) rfl
        refine wpOp_of rfl rfl ?_
        exact step_move _ (.inr rfl) rfl hI h0
      | 14, ho =>
        obtain rfl := Option.some.inj ho
        have h1 := hA ⟨1, .data⟩ (by simp) rfl
        refine wpOp_of rfl rfl ?_
        exact step_move _ (.inr rfl) rfl hI h1
      | 15, ho =>
        obtain rfl := Option.some.inj ho
        have h12 := hA ⟨12, .data⟩ (by simp) rfl
        refine wpOp_of rfl rfl ?_
        exact step_move _ (.inr rfl) rfl hI h12
      | _ + 16, ho => exact absurd ho (by simp)
    · intro vs w2 hvs hA hr2 hg2
      match vs, hvs with
      | x0 :: x1 :: x2 :: x3 :: x4 :: x5 :: x6 :: x7 :: x8 :: x9 :: x10 :: x11 :: x12 :: x13 :: x14 :: x15 :: [], _ =>
        obtain rfl : (Value.int .i64 M) = x13 := Eq.symm (hA 13 (by decide))
        obtain rfl : v = x14 := Eq.symm (hA 14 (by decide))
        obtain ⟨l, hxl, hql⟩ := hA 15 (by decide)
        subst hxl
        go_wp2
        have d2 := D5.out.pick hg2 ⟨_, Nat.le_refl _, hr2.choose_spec.2⟩
        have iv2 := IV.out.grown hg2 (fun b hb => by have := KV.out b hb; simp; omega)
        go_ret3
        refine ⟨M, ps, v, l, by omega, by omega, by omega, by have := hql.1; omega, by have := hql.2; omega, by kernel_rfl, iv2, d2.below HB.out hB⟩
  · go_wp2_with (at_builtin; refine wpList_append_own _ rfl _ _ 32 rfl w2.heap.size 3 i0 (.int .i64 0) 1 8 Try.underlying32 hi hz0 hz1 hz2 rfl (by decide) _ _ _ rfl (OV5.out.alloc _) ⟨w5.heap.size, 0, none⟩ 1 1 [.int .i64 M] rfl rfl (by simpa using cells_new w5 [_] _) (by intro u hu; simp at hu; subst hu; rfl) (by unfold maxLen; omega) (by omega) (by simp; omega) ?_; intro u' w6 hown' hgrow _)
    have D6 := Lib.hid ((D5.out.alloc (.cells #[.int .i64 M] 3)).push (OV5.out.alloc _) (by omega) hgrow)
    have IV : Hid (IRow w6 u' (ps ++ [M])) := IRow.of_owns (n := ps.length + 1) (by simpa using hown')
    have KV : Hid (∀ k, u'.ownBlock = some k → B < k ∧ k < w6.heap.size) := fun k hk => by have := hown'.lt k hk; omega
    clear hown' hgrow D5 OV5
    obtain ⟨p0, hp0, hr⟩ := D6.out.1
    refine draw_region _ _ B p0 16 [21, 22, 23, 24, 25, 26, 27, 28, 29, 30, 31, 32, 33, 2, 3, 4] [Ty.is (Value.int .i64 M), Ty.is (u'), Ty.rd, Ty.num (0) (5), Ty.num (4) (9), Ty.sl 4 (3) (60), Ty.sl 6 (0) (3), Ty.rd, Ty.num (0) (5), Ty.el (0) (3), Ty.num (0) (3), Ty.el (3) (60), Ty.num (3) (60), Ty.is (Value.int .i64 M), Ty.is (u'), Ty.num (3) (60)] (by kernel_rfl) (by kernel_rfl) hr (by omega) ?_ ?_
    · intro m i o a w hm ho hF hI hA
      have hrd : a.tmps.getD 5 undef = .pointer (some ⟨B, 0, none⟩) := by
        have h := hF.2.2 5 (by intro i hi; revert i; decide)
        rw [Array.getD_eq_getD_getElem?, h]
        rfl
      have hw6 : a.tmps.getD 6 undef = Value.int .i64 M := by
        have h := hF.2.2 6 (by intro i hi; revert i; decide)
        rw [Array.getD_eq_getD_getElem?, h]
        rfl
      have hw7 : a.tmps.getD 7 undef = u' := by
        have h := hF.2.2 7 (by intro i hi; revert i; decide)
        rw [Array.getD_eq_getD_getElem?, h]
        rfl
      match i, ho with
      | 0, ho =>
        obtain rfl := Option.some.inj ho
        refine wpOp_of rfl rfl ?_
        exact step_move _ (.inl rfl) rfl hI hw6
      | 1, ho =>
        obtain rfl := Option.some.inj ho
        refine wpOp_of rfl rfl ?_
        exact step_move _ (.inl rfl) rfl hI hw7
      | 2, ho =>
        obtain rfl := Option.some.inj ho
        refine wpOp_of rfl rfl ?_
        exact step_move _ (.inl rfl) rfl hI hrd
      | 3, ho =>
        obtain rfl := Option.some.inj ho
        have h2 := hA ⟨2, .data⟩ (by simp) rfl
        refine wpOp_of rfl rfl ?_
        exact step_pick _ _ rfl rfl hI (by omega) h2 (by decide) (by decide) (by decide)
      | 4, ho =>
        obtain rfl := Option.some.inj ho
        have h3 := hA ⟨3, .data⟩ (by simp) rfl
        refine wpOp_of rfl rfl ?_
        obtain ⟨k3, e3, q3⟩ := h3
        exact step_add _ _ _ _ rfl rfl hI rfl ⟨Int.le_refl _, Int.le_refl _⟩ e3 q3 (by decide) (by decide) (by decide) (by decide)
      | 5, ho =>
        obtain rfl := Option.some.inj ho
        have h4 := hA ⟨4, .data⟩ (by simp) rfl
        refine wpOp_of rfl rfl ?_
        obtain ⟨k4, e4, q4⟩ := h4
        have e4' : a.tmps[25]?.getD undef = .int .i64 k4 := by simpa using e4
        exact step_build [k4, 4, 3, 60] 4 3 rfl hI rfl (by simp [go_sem, e4']) (by simp; omega)
      | 6, ho =>
        obtain rfl := Option.some.inj ho
        refine wpOp_of rfl rfl ?_
        exact step_build [0, 0, 0, 1, 2, 3] 6 3 rfl hI rfl (by simp [go_sem]) (by decide)
      | 7, ho =>
        obtain rfl := Option.some.inj ho
        refine wpOp_of rfl rfl ?_
        exact step_move _ (.inl rfl) rfl hI hrd
      | 8, ho =>
        obtain rfl := Option.some.inj ho
        have h7 := hA ⟨7, .data⟩ (by simp) rfl
        refine wpOp_of rfl rfl ?_
        exact step_pick _ _ rfl rfl hI (by omega) h7 (by decide) (by decide) (by decide)
      | 9, ho =>
        obtain rfl := Option.some.inj ho
        have h6 := hA ⟨6, .data⟩ (by simp) rfl
        have h8 := hA ⟨8, .data⟩ (by simp) rfl
        refine wpOp_of rfl rfl ?_
        exact step_index _ _ _ rfl Try.underlying32 rfl hI h6 h8 (by decide) (by decide)
      | 10, ho =>
        obtain rfl := Option.some.inj ho
        have h9 := hA ⟨9, .data⟩ (by simp) rfl
        refine wpOp_of rfl rfl ?_
        exact step_load _ rfl rfl hI h9
      | 11, ho =>
        obtain rfl := Option.some.inj ho
        have h5 := hA ⟨5, .data⟩ (by simp) rfl
        have h10 := hA ⟨10, .data⟩ (by simp) rfl
        refine wpOp_of rfl rfl ?_
        exact step_index _ _ _ rfl Try.underlying32 rfl hI h5 h10 (by decide) (by decide)
      | 12, ho =>
        obtain rfl := Option.some.inj ho
        have h11 := hA ⟨11, .data⟩ (by simp) rfl
        refine wpOp_of rfl rfl ?_
        exact step_load _ rfl rfl hI h11
      | 13, ho =>
        obtain rfl := Option.some.inj ho
        have h0 := hA ⟨0, .data⟩ (by simp) rfl
        refine wpOp_of rfl rfl ?_
        exact step_move _ (.inr rfl) rfl hI h0
      | 14, ho =>
        obtain rfl := Option.some.inj ho
        have h1 := hA ⟨1, .data⟩ (by simp) rfl
        refine wpOp_of rfl rfl ?_
        exact step_move _ (.inr rfl) rfl hI h1
      | 15, ho =>
        obtain rfl := Option.some.inj ho
        have h12 := hA ⟨12, .data⟩ (by simp) rfl
        refine wpOp_of rfl rfl ?_
        exact step_move _ (.inr rfl) rfl hI h12
      | _ + 16, ho => exact absurd ho (by simp)
    · intro vs w2 hvs hA hr2 hg2
      match vs, hvs with
      | x0 :: x1 :: x2 :: x3 :: x4 :: x5 :: x6 :: x7 :: x8 :: x9 :: x10 :: x11 :: x12 :: x13 :: x14 :: x15 :: [], _ =>
        obtain rfl : (Value.int .i64 M) = x13 := Eq.symm (hA 13 (by decide))
        obtain rfl : u' = x14 := Eq.symm (hA 14 (by decide))
        obtain ⟨l, hxl, hql⟩ := hA 15 (by decide)
        subst hxl
        go_wp2
        have d2 := D6.out.pick hg2 ⟨_, Nat.le_refl _, hr2.choose_spec.2⟩
        have iv2 := IV.out.grown hg2 (fun b hb => by have := KV.out b hb; simp; omega)
        go_ret3
        refine ⟨M, ps ++ [M], u', l, by omega, by omega, by simp; omega, by have := hql.1; omega, by have := hql.2; omega, by kernel_rfl, iv2, d2.below HB.out hB⟩
end Go.Proofs.Ytaolkplecdbadaa

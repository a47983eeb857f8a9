/-
  PROVED HERE: what DrawUpAreas hands back. Conditions: the theorem's own.
-/
import Derived.Test.YtgbbodmggbeflaaRegDraw
set_option linter.unusedVariables false
set_option linter.unusedSimpArgs false
namespace Go.Proofs.Ytgbbodmggbeflaa
open Go.RowKit

/-- It returns five numbers in ranges; nothing that was there turns. -/
def Draw5 (w : World) (e : Ending) (w' : World) : Prop :=
  ∃ a b c d f : Int, (0 ≤ a ∧ a ≤ 7) ∧ (1 ≤ b ∧ b ≤ 12) ∧ (0 ≤ c ∧ c ≤ 10000) ∧ (1 ≤ d ∧ d ≤ 256) ∧ (-1 ≤ f ∧ f ≤ 8) ∧ e = .returned (.tuple #[.int .i64 a, .int .i64 b, .int .i64 c, .int .i64 d, .int .i64 f]) ∧ Below w.heap.size w w'

set_option maxRecDepth 100000 in
set_option maxHeartbeats 2000000 in
theorem drawUpAreas_any (a : Option Addr) (n cap : Nat) (w : World) (h : Code8 w a n cap) : Calls Try.prog 31 #[.slice a n cap] w (Draw5 w) := by
  have H := Lib.hid h
  clear h
  go_enter Try.func31, Try.ntmps31
  go_wp2_with fail
  refine (open_any a n cap w H.out).mono ?_
  rintro e w1 ⟨B, rfl, hr, hB, hb⟩
  go_wp2_with fail
  refine draw_region _ _ B 0 48 [10, 11, 12, 13, 14, 15, 16, 17, 18, 19, 20, 21, 22, 23, 24, 25, 26, 27, 28, 29, 30, 31, 32, 33, 34, 35, 36, 37, 38, 39, 40, 41, 42, 43, 44, 45, 46, 47, 48, 49, 50, 51, 52, 2, 3, 4, 5, 6] [Ty.rd, Ty.num (0) (5), Ty.num (1) (6), Ty.sl 3 (0) (7), Ty.sl 7 (0) (2), Ty.rd, Ty.num (0) (6), Ty.el (0) (2), Ty.num (0) (2), Ty.el (0) (7), Ty.num (0) (7), Ty.rd, Ty.num (0) (5), Ty.num (1) (6), Ty.rd, Ty.num (0) (13), Ty.num (0) (1), Ty.num (0) (6), Ty.num (1) (12), Ty.rd, Ty.num (0) (255), Ty.num (1) (256), Ty.sl 3 (0) (10000), Ty.sl 5 (0) (2), Ty.rd, Ty.num (0) (4), Ty.el (0) (2), Ty.num (0) (2), Ty.el (0) (10000), Ty.num (0) (10000), Ty.rd, Ty.num (0) (255), Ty.num (1) (256), Ty.rd, Ty.num (0) (8), Ty.sl 3 (-1) (8), Ty.sl 5 (0) (2), Ty.rd, Ty.num (0) (4), Ty.el (0) (2), Ty.num (0) (2), Ty.el (-1) (8), Ty.num (-1) (8), Ty.num (0) (7), Ty.num (1) (12), Ty.num (0) (10000), Ty.num (1) (256), Ty.num (-1) (8)] (by kernel_rfl) (by kernel_rfl) hr (by omega) ?_ ?_
  · intro m i o a w hm ho hF hI hA
    have hrd : a.tmps.getD 7 undef = .pointer (some ⟨B, 0, none⟩) := by
      have h := hF.2.2 7 (by intro i hi; revert i; decide)
      rw [Array.getD_eq_getD_getElem?, h]
      rfl
    match i, ho with
    | 0, ho =>
      obtain rfl := Option.some.inj ho
      refine wpOp_of rfl rfl ?_
      exact step_move _ (.inl rfl) rfl hI hrd
    | 1, ho =>
      obtain rfl := Option.some.inj ho
      have h0 := hA ⟨0, .data⟩ (by simp) rfl
      refine wpOp_of rfl rfl ?_
      exact step_pick _ _ rfl rfl hI (by omega) h0 (by decide) (by decide) (by decide)
    | 2, ho =>
      obtain rfl := Option.some.inj ho
      have h1 := hA ⟨1, .data⟩ (by simp) rfl
      refine wpOp_of rfl rfl ?_
      obtain ⟨k1, e1, q1⟩ := h1
      exact step_add _ _ _ _ rfl rfl hI rfl ⟨Int.le_refl _, Int.le_refl _⟩ e1 q1 (by decide) (by decide) (by decide) (by decide)
    | 3, ho =>
      obtain rfl := Option.some.inj ho
      have h2 := hA ⟨2, .data⟩ (by simp) rfl
      refine wpOp_of rfl rfl ?_
      obtain ⟨k2, e2, q2⟩ := h2
      have e2' : a.tmps[12]?.getD undef = .int .i64 k2 := by simpa using e2
      exact step_build [k2, 0, 7] 3 3 rfl hI rfl (by simp [go_sem, e2']) (by simp; omega)
    | 4, ho =>
      obtain rfl := Option.some.inj ho
      refine wpOp_of rfl rfl ?_
      exact step_build [0, 0, 0, 0, 0, 1, 2] 7 3 rfl hI rfl (by simp [go_sem]) (by decide)
    | 5, ho =>
      obtain rfl := Option.some.inj ho
      refine wpOp_of rfl rfl ?_
      exact step_move _ (.inl rfl) rfl hI hrd
    | 6, ho =>
      obtain rfl := Option.some.inj ho
      have h5 := hA ⟨5, .data⟩ (by simp) rfl
      refine wpOp_of rfl rfl ?_
      exact step_pick _ _ rfl rfl hI (by omega) h5 (by decide) (by decide) (by decide)
    | 7, ho =>
      obtain rfl := Option.some.inj ho
      have h4 := hA ⟨4, .data⟩ (by simp) rfl
      have h6 := hA ⟨6, .data⟩ (by simp) rfl
      refine wpOp_of rfl rfl ?_
      exact step_index _ _ _ rfl Try.underlying28 rfl hI h4 h6 (by decide) (by decide)
    | 8, ho =>
      obtain rfl := Option.some.inj ho
      have h7 := hA ⟨7, .data⟩ (by simp) rfl
      refine wpOp_of rfl rfl ?_
      exact step_load _ rfl rfl hI h7
    | 9, ho =>
      obtain rfl := Option.some.inj ho
      have h3 := hA ⟨3, .data⟩ (by simp) rfl
      have h8 := hA ⟨8, .data⟩ (by simp) rfl
      refine wpOp_of rfl rfl ?_
      exact step_index _ _ _ rfl Try.underlying28 rfl hI h3 h8 (by decide) (by decide)
    | 10, ho =>
      obtain rfl := Option.some.inj ho
      have h9 := hA ⟨9, .data⟩ (by simp) rfl
      refine wpOp_of rfl rfl ?_
      exact step_load _ rfl rfl hI h9
    | 11, ho =>
      obtain rfl := Option.some.inj ho
      refine wpOp_of rfl rfl ?_
      exact step_move _ (.inl rfl) rfl hI hrd
    | 12, ho =>
      obtain rfl := Option.some.inj ho
      have h11 := hA ⟨11, .data⟩ (by simp) rfl
      refine wpOp_of rfl rfl ?_
      exact step_pick _ _ rfl rfl hI (by omega) h11 (by decide) (by decide) (by decide)
    | 13, ho =>
      obtain rfl := Option.some.inj ho
      have h12 := hA ⟨12, .data⟩ (by simp) rfl
      refine wpOp_of rfl rfl ?_
      obtain ⟨k12, e12, q12⟩ := h12
      exact step_add _ _ _ _ rfl rfl hI rfl ⟨Int.le_refl _, Int.le_refl _⟩ e12 q12 (by decide) (by decide) (by decide) (by decide)
    | 14, ho =>
      obtain rfl := Option.some.inj ho
      refine wpOp_of rfl rfl ?_
      exact step_move _ (.inl rfl) rfl hI hrd
    | 15, ho =>
      obtain rfl := Option.some.inj ho
      have h14 := hA ⟨14, .data⟩ (by simp) rfl
      refine wpOp_of rfl rfl ?_
      exact step_pick _ _ rfl rfl hI (by omega) h14 (by decide) (by decide) (by decide)
    | 16, ho =>
      obtain rfl := Option.some.inj ho
      have h15 := hA ⟨15, .data⟩ (by simp) rfl
      refine wpOp_of rfl rfl ?_
      obtain ⟨k15, e15, q15⟩ := h15
      exact step_quoc _ _ _ rfl rfl hI e15 q15 (by decide) (by decide) (by decide) (by decide) (by decide) (by decide)
    | 17, ho =>
      obtain rfl := Option.some.inj ho
      have h16 := hA ⟨16, .data⟩ (by simp) rfl
      refine wpOp_of rfl rfl ?_
      obtain ⟨k16, e16, q16⟩ := h16
      exact step_mulc _ _ _ rfl rfl hI e16 q16 (by decide) (by decide) (by decide) (by decide) (by decide)
    | 18, ho =>
      obtain rfl := Option.some.inj ho
      have h13 := hA ⟨13, .data⟩ (by simp) rfl
      have h17 := hA ⟨17, .data⟩ (by simp) rfl
      refine wpOp_of rfl rfl ?_
      obtain ⟨k13, e13, q13⟩ := h13
      obtain ⟨k17, e17, q17⟩ := h17
      exact step_add _ _ _ _ rfl rfl hI e13 q13 e17 q17 (by decide) (by decide) (by decide) (by decide)
    | 19, ho =>
      obtain rfl := Option.some.inj ho
      refine wpOp_of rfl rfl ?_
      exact step_move _ (.inl rfl) rfl hI hrd
    | 20, ho =>
      obtain rfl := Option.some.inj ho
      have h19 := hA ⟨19, .data⟩ (by simp) rfl
      refine wpOp_of rfl rfl ?_
      exact step_pick _ _ rfl rfl hI (by omega) h19 (by decide) (by decide) (by decide)
    | 21, ho =>
      obtain rfl := Option.some.inj ho
      have h20 := hA ⟨20, .data⟩ (by simp) rfl
      refine wpOp_of rfl rfl ?_
      obtain ⟨k20, e20, q20⟩ := h20
      exact step_add _ _ _ _ rfl rfl hI rfl ⟨Int.le_refl _, Int.le_refl _⟩ e20 q20 (by decide) (by decide) (by decide) (by decide)
    | 22, ho =>
      obtain rfl := Option.some.inj ho
      have h21 := hA ⟨21, .data⟩ (by simp) rfl
      refine wpOp_of rfl rfl ?_
      obtain ⟨k21, e21, q21⟩ := h21
      have e21' : a.tmps[31]?.getD undef = .int .i64 k21 := by simpa using e21
      exact step_build [k21, 10000, 0] 3 3 rfl hI rfl (by simp [go_sem, e21']) (by simp; omega)
    | 23, ho =>
      obtain rfl := Option.some.inj ho
      refine wpOp_of rfl rfl ?_
      exact step_build [0, 0, 0, 1, 2] 5 3 rfl hI rfl (by simp [go_sem]) (by decide)
    | 24, ho =>
      obtain rfl := Option.some.inj ho
      refine wpOp_of rfl rfl ?_
      exact step_move _ (.inl rfl) rfl hI hrd
    | 25, ho =>
      obtain rfl := Option.some.inj ho
      have h24 := hA ⟨24, .data⟩ (by simp) rfl
      refine wpOp_of rfl rfl ?_
      exact step_pick _ _ rfl rfl hI (by omega) h24 (by decide) (by decide) (by decide)
    | 26, ho =>
      obtain rfl := Option.some.inj ho
      have h23 := hA ⟨23, .data⟩ (by simp) rfl
      have h25 := hA ⟨25, .data⟩ (by simp) rfl
      refine wpOp_of rfl rfl ?_
      exact step_index _ _ _ rfl Try.underlying28 rfl hI h23 h25 (by decide) (by decide)
    | 27, ho =>
      obtain rfl := Option.some.inj ho
      have h26 := hA ⟨26, .data⟩ (by simp) rfl
      refine wpOp_of rfl rfl ?_
      exact step_load _ rfl rfl hI h26
    | 28, ho =>
      obtain rfl := Option.some.inj ho
      have h22 := hA ⟨22, .data⟩ (by simp) rfl
      have h27 := hA ⟨27, .data⟩ (by simp) rfl
      refine wpOp_of rfl rfl ?_
      exact step_index _ _ _ rfl Try.underlying28 rfl hI h22 h27 (by decide) (by decide)
    | 29, ho =>
      obtain rfl := Option.some.inj ho
      have h28 := hA ⟨28, .data⟩ (by simp) rfl
      refine wpOp_of rfl rfl ?_
      exact step_load _ rfl rfl hI h28
    | 30, ho =>
      obtain rfl := Option.some.inj ho
      refine wpOp_of rfl rfl ?_
      exact step_move _ (.inl rfl) rfl hI hrd
    | 31, ho =>
      obtain rfl := Option.some.inj ho
      have h30 := hA ⟨30, .data⟩ (by simp) rfl
      refine wpOp_of rfl rfl ?_
      exact step_pick _ _ rfl rfl hI (by omega) h30 (by decide) (by decide) (by decide)
    | 32, ho =>
      obtain rfl := Option.some.inj ho
      have h31 := hA ⟨31, .data⟩ (by simp) rfl
      refine wpOp_of rfl rfl ?_
      obtain ⟨k31, e31, q31⟩ := h31
      exact step_add _ _ _ _ rfl rfl hI rfl ⟨Int.le_refl _, Int.le_refl _⟩ e31 q31 (by decide) (by decide) (by decide) (by decide)
    | 33, ho =>
      obtain rfl := Option.some.inj ho
      refine wpOp_of rfl rfl ?_
      exact step_move _ (.inl rfl) rfl hI hrd
    | 34, ho =>
      obtain rfl := Option.some.inj ho
      have h33 := hA ⟨33, .data⟩ (by simp) rfl
      refine wpOp_of rfl rfl ?_
      exact step_pick _ _ rfl rfl hI (by omega) h33 (by decide) (by decide) (by decide)
    | 35, ho =>
      obtain rfl := Option.some.inj ho
      have h34 := hA ⟨34, .data⟩ (by simp) rfl
      refine wpOp_of rfl rfl ?_
      obtain ⟨k34, e34, q34⟩ := h34
      have e34' : a.tmps[44]?.getD undef = .int .i64 k34 := by simpa using e34
      exact step_build [k34, 0, -1] 3 3 rfl hI rfl (by simp [go_sem, e34']) (by simp; omega)
    | 36, ho =>
      obtain rfl := Option.some.inj ho
      refine wpOp_of rfl rfl ?_
      exact step_build [0, 0, 0, 1, 2] 5 3 rfl hI rfl (by simp [go_sem]) (by decide)
    | 37, ho =>
      obtain rfl := Option.some.inj ho
      refine wpOp_of rfl rfl ?_
      exact step_move _ (.inl rfl) rfl hI hrd
    | 38, ho =>
      obtain rfl := Option.some.inj ho
      have h37 := hA ⟨37, .data⟩ (by simp) rfl
      refine wpOp_of rfl rfl ?_
      exact step_pick _ _ rfl rfl hI (by omega) h37 (by decide) (by decide) (by decide)
    | 39, ho =>
      obtain rfl := Option.some.inj ho
      have h36 := hA ⟨36, .data⟩ (by simp) rfl
      have h38 := hA ⟨38, .data⟩ (by simp) rfl
      refine wpOp_of rfl rfl ?_
      exact step_index _ _ _ rfl Try.underlying28 rfl hI h36 h38 (by decide) (by decide)
    | 40, ho =>
      obtain rfl := Option.some.inj ho
      have h39 := hA ⟨39, .data⟩ (by simp) rfl
      refine wpOp_of rfl rfl ?_
      exact step_load _ rfl rfl hI h39
    | 41, ho =>
      obtain rfl := Option.some.inj ho
      have h35 := hA ⟨35, .data⟩ (by simp) rfl
      have h40 := hA ⟨40, .data⟩ (by simp) rfl
      refine wpOp_of rfl rfl ?_
      exact step_index _ _ _ rfl Try.underlying28 rfl hI h35 h40 (by decide) (by decide)
    | 42, ho =>
      obtain rfl := Option.some.inj ho
      have h41 := hA ⟨41, .data⟩ (by simp) rfl
      refine wpOp_of rfl rfl ?_
      exact step_load _ rfl rfl hI h41
    | 43, ho =>
      obtain rfl := Option.some.inj ho
      have h10 := hA ⟨10, .data⟩ (by simp) rfl
      refine wpOp_of rfl rfl ?_
      exact step_move _ (.inr rfl) rfl hI h10
    | 44, ho =>
      obtain rfl := Option.some.inj ho
      have h18 := hA ⟨18, .data⟩ (by simp) rfl
      refine wpOp_of rfl rfl ?_
      exact step_move _ (.inr rfl) rfl hI h18
    | 45, ho =>
      obtain rfl := Option.some.inj ho
      have h29 := hA ⟨29, .data⟩ (by simp) rfl
      refine wpOp_of rfl rfl ?_
      exact step_move _ (.inr rfl) rfl hI h29
    | 46, ho =>
      obtain rfl := Option.some.inj ho
      have h32 := hA ⟨32, .data⟩ (by simp) rfl
      refine wpOp_of rfl rfl ?_
      exact step_move _ (.inr rfl) rfl hI h32
    | 47, ho =>
      obtain rfl := Option.some.inj ho
      have h42 := hA ⟨42, .data⟩ (by simp) rfl
      refine wpOp_of rfl rfl ?_
      exact step_move _ (.inr rfl) rfl hI h42
    | _ + 48, ho => exact absurd ho (by simp)
  · intro vs w2 hvs hA hr2 hg2
    match vs, hvs with
    | x0 :: x1 :: x2 :: x3 :: x4 :: x5 :: x6 :: x7 :: x8 :: x9 :: x10 :: x11 :: x12 :: x13 :: x14 :: x15 :: x16 :: x17 :: x18 :: x19 :: x20 :: x21 :: x22 :: x23 :: x24 :: x25 :: x26 :: x27 :: x28 :: x29 :: x30 :: x31 :: x32 :: x33 :: x34 :: x35 :: x36 :: x37 :: x38 :: x39 :: x40 :: x41 :: x42 :: x43 :: x44 :: x45 :: x46 :: x47 :: [], _ =>
      obtain ⟨k, hxk, hqk⟩ := hA 43 (by decide)
      obtain ⟨l, hxl, hql⟩ := hA 44 (by decide)
      obtain ⟨m, hxm, hqm⟩ := hA 45 (by decide)
      obtain ⟨d, hxd, hqd⟩ := hA 46 (by decide)
      obtain ⟨f, hxf, hqf⟩ := hA 47 (by decide)
      subst hxk hxl hxm hxd hxf
      go_wp2
      have fin : Below w.heap.size w w2 := hb.grown hg2 (by have := hb.size; omega) (fun j hj => by cases hj; exact hB)
      refine bodyPost_ret (v := .tuple #[.int .i64 k, .int .i64 l, .int .i64 m, .int .i64 d, .int .i64 f]) ?_ (by kernel_rfl) ⟨k, l, m, d, f, hqk, ⟨by omega, by omega⟩, hqm, hqd, hqf, rfl, fin⟩
      kernel_rfl
end Go.Proofs.Ytgbbodmggbeflaa

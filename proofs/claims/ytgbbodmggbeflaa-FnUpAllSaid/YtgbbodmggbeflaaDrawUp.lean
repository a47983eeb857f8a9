/-
  PROVED HERE: what DrawUpSheet hands back. Conditions: the theorem's own.
-/
import Derived.Test.YtgbbodmggbeflaaRegDraw
import Derived.Test.YtgbbodmggbeflaaDraw2
namespace Go.Proofs.Ytgbbodmggbeflaa
open Go.RowKit

/-- It returns three numbers in ranges; nothing that was there turns. -/
def Draw3 (a1 b1 a2 b2 a3 b3 : Int) (w : World) (e : Ending) (w' : World) : Prop :=
  ∃ k l m : Int, a1 ≤ k ∧ k ≤ b1 ∧ a2 ≤ l ∧ l ≤ b2 ∧ a3 ≤ m ∧ m ≤ b3 ∧ e = .returned (.tuple #[.int .i64 k, .int .i64 l, .int .i64 m]) ∧ Below w.heap.size w w'

set_option maxRecDepth 100000 in
set_option maxHeartbeats 1000000 in
theorem drawUpSheet_any (a : Option Addr) (n cap : Nat) (w : World) (h : Code8 w a n cap) : Calls Try.prog 24 #[.slice a n cap] w (Draw3 (-1) 5 0 37 0 1000 w) := by
  have H := Lib.hid h
  clear h
  go_enter Try.func24, Try.ntmps24
  go_wp2_with fail
  refine (open_any a n cap w H.out).mono ?_
  rintro e w1 ⟨B, rfl, hr, hB, hb⟩
  go_wp2_with fail
  refine draw_region _ _ B 0 30 [8, 9, 10, 11, 12, 13, 14, 15, 16, 17, 18, 19, 20, 21, 22, 23, 24, 25, 26, 27, 28, 29, 30, 31, 32, 33, 34, 2, 3, 4] [Ty.rd, Ty.num (0) (5), Ty.rd, Ty.num (0) (8), Ty.num (0) (1), Ty.num (-1) (5), Ty.rd, Ty.num (0) (8), Ty.num (1) (9), Ty.sl 4 (0) (37), Ty.sl 7 (0) (3), Ty.rd, Ty.num (0) (6), Ty.el (0) (3), Ty.num (0) (3), Ty.el (0) (37), Ty.num (0) (37), Ty.rd, Ty.num (0) (39), Ty.sl 3 (0) (1000), Ty.sl 5 (0) (2), Ty.rd, Ty.num (0) (4), Ty.el (0) (2), Ty.num (0) (2), Ty.el (0) (1000), Ty.num (0) (1000), Ty.num (-1) (5), Ty.num (0) (37), Ty.num (0) (1000)] (by kernel_rfl) (by kernel_rfl) hr (by omega) ?_ ?_
  · intro m i o a w hm ho hF hI hA
    have hrd : a.tmps.getD 5 undef = .pointer (some ⟨B, 0, none⟩) := by
      have h := hF.2.2 5 (by intro i hi; revert i; decide)
      rw [Array.getD_eq_getD_getElem?, h]
      rfl
    match i, ho with
    | 0, ho =>
      obtain rfl := Option.some.inj ho
      refine wpOp_of rfl rfl ?_
      exact step_move _ (.inl rfl) rfl hI hrd
    | 1, ho =>
      obtain rfl := Option.some.inj ho
      have h0 := hA ⟨0, .data⟩ (by simp) rfl
      refine wpOp_of rfl rfl ?_
      exact step_pick _ _ rfl rfl hI (by omega) h0 (by decide) (by decide) (by decide)
    | 2, ho =>
      obtain rfl := Option.some.inj ho
      refine wpOp_of rfl rfl ?_
      exact step_move _ (.inl rfl) rfl hI hrd
    | 3, ho =>
      obtain rfl := Option.some.inj ho
      have h2 := hA ⟨2, .data⟩ (by simp) rfl
      refine wpOp_of rfl rfl ?_
      exact step_pick _ _ rfl rfl hI (by omega) h2 (by decide) (by decide) (by decide)
    | 4, ho =>
      obtain rfl := Option.some.inj ho
      have h3 := hA ⟨3, .data⟩ (by simp) rfl
      refine wpOp_of rfl rfl ?_
      obtain ⟨k3, e3, q3⟩ := h3
      exact step_quoc _ _ _ rfl rfl hI e3 q3 (by decide) (by decide) (by decide) (by decide) (by decide) (by decide)
    | 5, ho =>
      obtain rfl := Option.some.inj ho
      have h1 := hA ⟨1, .data⟩ (by simp) rfl
      have h4 := hA ⟨4, .data⟩ (by simp) rfl
      refine wpOp_of rfl rfl ?_
      obtain ⟨k1, e1, q1⟩ := h1
      obtain ⟨k4, e4, q4⟩ := h4
      exact step_sub _ _ _ _ rfl rfl hI e1 q1 e4 q4 (by decide) (by decide) (by decide) (by decide)
    | 6, ho =>
      obtain rfl := Option.some.inj ho
      refine wpOp_of rfl rfl ?_
      exact step_move _ (.inl rfl) rfl hI hrd
    | 7, ho =>
      obtain rfl := Option.some.inj ho
      have h6 := hA ⟨6, .data⟩ (by simp) rfl
      refine wpOp_of rfl rfl ?_
      exact step_pick _ _ rfl rfl hI (by omega) h6 (by decide) (by decide) (by decide)
    | 8, ho =>
      obtain rfl := Option.some.inj ho
      have h7 := hA ⟨7, .data⟩ (by simp) rfl
      refine wpOp_of rfl rfl ?_
      obtain ⟨k7, e7, q7⟩ := h7
      exact step_add _ _ _ _ rfl rfl hI rfl ⟨Int.le_refl _, Int.le_refl _⟩ e7 q7 (by decide) (by decide) (by decide) (by decide)
    | 9, ho =>
      obtain rfl := Option.some.inj ho
      have h8 := hA ⟨8, .data⟩ (by simp) rfl
      refine wpOp_of rfl rfl ?_
      obtain ⟨k8, e8, q8⟩ := h8
      have e8' : a.tmps[16]?.getD undef = .int .i64 k8 := by simpa using e8
      exact step_build [k8, 36, 0, 37] 4 3 rfl hI rfl (by simp [go_sem, e8']) (by simp; omega)
    | 10, ho =>
      obtain rfl := Option.some.inj ho
      refine wpOp_of rfl rfl ?_
      exact step_build [0, 0, 0, 0, 1, 2, 3] 7 3 rfl hI rfl (by simp [go_sem]) (by decide)
    | 11, ho =>
      obtain rfl := Option.some.inj ho
      refine wpOp_of rfl rfl ?_
      exact step_move _ (.inl rfl) rfl hI hrd
    | 12, ho =>
      obtain rfl := Option.some.inj ho
      have h11 := hA ⟨11, .data⟩ (by simp) rfl
      refine wpOp_of rfl rfl ?_
      exact step_pick _ _ rfl rfl hI (by omega) h11 (by decide) (by decide) (by decide)
    | 13, ho =>
      obtain rfl := Option.some.inj ho
      have h10 := hA ⟨10, .data⟩ (by simp) rfl
      have h12 := hA ⟨12, .data⟩ (by simp) rfl
      refine wpOp_of rfl rfl ?_
      exact step_index _ _ _ rfl Try.underlying28 rfl hI h10 h12 (by decide) (by decide)
    | 14, ho =>
      obtain rfl := Option.some.inj ho
      have h13 := hA ⟨13, .data⟩ (by simp) rfl
      refine wpOp_of rfl rfl ?_
      exact step_load _ rfl rfl hI h13
    | 15, ho =>
      obtain rfl := Option.some.inj ho
      have h9 := hA ⟨9, .data⟩ (by simp) rfl
      have h14 := hA ⟨14, .data⟩ (by simp) rfl
      refine wpOp_of rfl rfl ?_
      exact step_index _ _ _ rfl Try.underlying28 rfl hI h9 h14 (by decide) (by decide)
    | 16, ho =>
      obtain rfl := Option.some.inj ho
      have h15 := hA ⟨15, .data⟩ (by simp) rfl
      refine wpOp_of rfl rfl ?_
      exact step_load _ rfl rfl hI h15
    | 17, ho =>
      obtain rfl := Option.some.inj ho
      refine wpOp_of rfl rfl ?_
      exact step_move _ (.inl rfl) rfl hI hrd
    | 18, ho =>
      obtain rfl := Option.some.inj ho
      have h17 := hA ⟨17, .data⟩ (by simp) rfl
      refine wpOp_of rfl rfl ?_
      exact step_pick _ _ rfl rfl hI (by omega) h17 (by decide) (by decide) (by decide)
    | 19, ho =>
      obtain rfl := Option.some.inj ho
      have h18 := hA ⟨18, .data⟩ (by simp) rfl
      refine wpOp_of rfl rfl ?_
      obtain ⟨k18, e18, q18⟩ := h18
      have e18' : a.tmps[26]?.getD undef = .int .i64 k18 := by simpa using e18
      exact step_build [k18, 999, 1000] 3 3 rfl hI rfl (by simp [go_sem, e18']) (by simp; omega)
    | 20, ho =>
      obtain rfl := Option.some.inj ho
      refine wpOp_of rfl rfl ?_
      exact step_build [0, 0, 0, 1, 2] 5 3 rfl hI rfl (by simp [go_sem]) (by decide)
    | 21, ho =>
      obtain rfl := Option.some.inj ho
      refine wpOp_of rfl rfl ?_
      exact step_move _ (.inl rfl) rfl hI hrd
    | 22, ho =>
      obtain rfl := Option.some.inj ho
      have h21 := hA ⟨21, .data⟩ (by simp) rfl
      refine wpOp_of rfl rfl ?_
      exact step_pick _ _ rfl rfl hI (by omega) h21 (by decide) (by decide) (by decide)
    | 23, ho =>
      obtain rfl := Option.some.inj ho
      have h20 := hA ⟨20, .data⟩ (by simp) rfl
      have h22 := hA ⟨22, .data⟩ (by simp) rfl
      refine wpOp_of rfl rfl ?_
      exact step_index _ _ _ rfl Try.underlying28 rfl hI h20 h22 (by decide) (by decide)
    | 24, ho =>
      obtain rfl := Option.some.inj ho
      have h23 := hA ⟨23, .data⟩ (by simp) rfl
      refine wpOp_of rfl rfl ?_
      exact step_load _ rfl rfl hI h23
    | 25, ho =>
      obtain rfl := Option.some.inj ho
      have h19 := hA ⟨19, .data⟩ (by simp) rfl
      have h24 := hA ⟨24, .data⟩ (by simp) rfl
      refine wpOp_of rfl rfl ?_
      exact step_index _ _ _ rfl Try.underlying28 rfl hI h19 h24 (by decide) (by decide)
    | 26, ho =>
      obtain rfl := Option.some.inj ho
      have h25 := hA ⟨25, .data⟩ (by simp) rfl
      refine wpOp_of rfl rfl ?_
      exact step_load _ rfl rfl hI h25
    | 27, ho =>
      obtain rfl := Option.some.inj ho
      have h5 := hA ⟨5, .data⟩ (by simp) rfl
      refine wpOp_of rfl rfl ?_
      exact step_move _ (.inr rfl) rfl hI h5
    | 28, ho =>
      obtain rfl := Option.some.inj ho
      have h16 := hA ⟨16, .data⟩ (by simp) rfl
      refine wpOp_of rfl rfl ?_
      exact step_move _ (.inr rfl) rfl hI h16
    | 29, ho =>
      obtain rfl := Option.some.inj ho
      have h26 := hA ⟨26, .data⟩ (by simp) rfl
      refine wpOp_of rfl rfl ?_
      exact step_move _ (.inr rfl) rfl hI h26
    | _ + 30, ho => exact absurd ho (by simp)
  · intro vs w2 hvs hA hr2 hg2
    match vs, hvs with
    | [x0, x1, x2, x3, x4, x5, x6, x7, x8, x9, x10, x11, x12, x13, x14, x15, x16, x17, x18, x19, x20, x21, x22, x23, x24, x25, x26, x27, x28, x29], _ =>
      obtain ⟨k, hxk, hqk⟩ := hA 27 (by decide)
      obtain ⟨l, hxl, hql⟩ := hA 28 (by decide)
      obtain ⟨m, hxm, hqm⟩ := hA 29 (by decide)
      subst hxk hxl hxm
      go_wp2
      go_ret3
      exact ⟨k, l, m, hqk.1, hqk.2, hql.1, hql.2, hqm.1, hqm.2, by kernel_rfl, hb.grown hg2 (by have := hb.size; omega) (fun j hj => by cases hj; exact hB)⟩
end Go.Proofs.Ytgbbodmggbeflaa

/-
  PROVED HERE: what DrawPageText hands back. Conditions: the theorem's own.
-/
import Derived.Test.YtgdiciaddhbogaaDoorRegDraw
import Derived.Test.YtgdiciaddhbogaaDoorOpen
namespace Go.Proofs.YtgdiciaddhbogaaDoor
open Go.RowKit

/-- It returns two numbers in ranges; nothing that was there turns. -/
def DrawTwo (a1 b1 a2 b2 : Int) (w : World) (e : Ending) (w' : World) : Prop :=
  ∃ k l : Int, a1 ≤ k ∧ k ≤ b1 ∧ a2 ≤ l ∧ l ≤ b2 ∧ e = .returned (.tuple #[.int .i64 k, .int .i64 l]) ∧ Below w.heap.size w w'

set_option maxRecDepth 100000 in
set_option maxHeartbeats 1000000 in
theorem drawPageText_any (a : Option Addr) (n cap : Nat) (w : World) (h : Code8 w a n cap) : Calls Tryd.prog 7 #[.slice a n cap] w (DrawTwo 0 1020 0 4 w) := by
  have H := Lib.hid h
  clear h
  go_enter Tryd.func7, Tryd.ntmps7
  go_wp2_with fail
  refine (open_any a n cap w H.out).mono ?_
  rintro e w1 ⟨B, rfl, hr, hB, hb⟩
  go_wp2_with fail
  refine draw_region _ _ B 0 17 [7, 8, 9, 10, 11, 12, 13, 14, 15, 16, 17, 18, 19, 20, 21, 2, 3] [Ty.rd, Ty.num (0) (255), Ty.rd, Ty.num (0) (255), Ty.num (0) (1020), Ty.sl 4 (0) (1020), Ty.sl 6 (0) (3), Ty.rd, Ty.num (0) (5), Ty.el (0) (3), Ty.num (0) (3), Ty.el (0) (1020), Ty.num (0) (1020), Ty.rd, Ty.num (0) (4), Ty.num (0) (1020), Ty.num (0) (4)] (by kernel_rfl) (by kernel_rfl) hr (by omega) ?_ ?_
  · intro m i o a w hm ho hF hI hA
    have hrd : a.tmps.getD 4 undef = .pointer (some ⟨B, 0, none⟩) := by
      have h := hF.2.2 4 (by intro i hi; revert i; decide)
      rw [Array.getD_eq_getD_getElem?, h]
      rfl
    match i, ho with
    | 0, ho =>
      obtain rfl := Option.some.inj ho
      refine wpOp_of rfl rfl ?_
      exact step_move _ (.inl rfl) rfl hI hrd
    | 1, ho =>
      obtain rfl := Option.some.inj ho
      have h0 := hA ⟨0, .data⟩ (by simp) rfl
      refine wpOp_of rfl rfl ?_
      exact step_pick _ _ rfl rfl hI (by omega) h0 (by decide) (by decide) (by decide)
    | 2, ho =>
      obtain rfl := Option.some.inj ho
      refine wpOp_of rfl rfl ?_
      exact step_move _ (.inl rfl) rfl hI hrd
    | 3, ho =>
      obtain rfl := Option.some.inj ho
      have h2 := hA ⟨2, .data⟩ (by simp) rfl
      refine wpOp_of rfl rfl ?_
      exact step_pick _ _ rfl rfl hI (by omega) h2 (by decide) (by decide) (by decide)
    | 4, ho =>
      obtain rfl := Option.some.inj ho
      have h3 := hA ⟨3, .data⟩ (by simp) rfl
      refine wpOp_of rfl rfl ?_
      obtain ⟨k3, e3, q3⟩ := h3
      exact step_mulc _ _ _ rfl rfl hI e3 q3 (by decide) (by decide) (by decide) (by decide) (by decide)
    | 5, ho =>
      obtain rfl := Option.some.inj ho
      have h1 := hA ⟨1, .data⟩ (by simp) rfl
      have h4 := hA ⟨4, .data⟩ (by simp) rfl
      refine wpOp_of rfl rfl ?_
      obtain ⟨k1, e1, q1⟩ := h1
      have e1' : a.tmps[8]?.getD undef = .int .i64 k1 := by simpa using e1
      obtain ⟨k4, e4, q4⟩ := h4
      have e4' : a.tmps[11]?.getD undef = .int .i64 k4 := by simpa using e4
      exact step_build [k1, k4, 999, 1000] 4 3 rfl hI rfl (by simp [go_sem, e1', e4']) (by simp; omega)
    | 6, ho =>
      obtain rfl := Option.some.inj ho
      refine wpOp_of rfl rfl ?_
      exact step_build [0, 0, 1, 1, 2, 3] 6 3 rfl hI rfl (by simp [go_sem]) (by decide)
    | 7, ho =>
      obtain rfl := Option.some.inj ho
      refine wpOp_of rfl rfl ?_
      exact step_move _ (.inl rfl) rfl hI hrd
    | 8, ho =>
      obtain rfl := Option.some.inj ho
      have h7 := hA ⟨7, .data⟩ (by simp) rfl
      refine wpOp_of rfl rfl ?_
      exact step_pick _ _ rfl rfl hI (by omega) h7 (by decide) (by decide) (by decide)
    | 9, ho =>
      obtain rfl := Option.some.inj ho
      have h6 := hA ⟨6, .data⟩ (by simp) rfl
      have h8 := hA ⟨8, .data⟩ (by simp) rfl
      refine wpOp_of rfl rfl ?_
      exact step_index _ _ _ rfl Tryd.underlying36 rfl hI h6 h8 (by decide) (by decide)
    | 10, ho =>
      obtain rfl := Option.some.inj ho
      have h9 := hA ⟨9, .data⟩ (by simp) rfl
      refine wpOp_of rfl rfl ?_
      exact step_load _ rfl rfl hI h9
    | 11, ho =>
      obtain rfl := Option.some.inj ho
      have h5 := hA ⟨5, .data⟩ (by simp) rfl
      have h10 := hA ⟨10, .data⟩ (by simp) rfl
      refine wpOp_of rfl rfl ?_
      exact step_index _ _ _ rfl Tryd.underlying36 rfl hI h5 h10 (by decide) (by decide)
    | 12, ho =>
      obtain rfl := Option.some.inj ho
      have h11 := hA ⟨11, .data⟩ (by simp) rfl
      refine wpOp_of rfl rfl ?_
      exact step_load _ rfl rfl hI h11
    | 13, ho =>
      obtain rfl := Option.some.inj ho
      refine wpOp_of rfl rfl ?_
      exact step_move _ (.inl rfl) rfl hI hrd
    | 14, ho =>
      obtain rfl := Option.some.inj ho
      have h13 := hA ⟨13, .data⟩ (by simp) rfl
      refine wpOp_of rfl rfl ?_
      exact step_pick _ _ rfl rfl hI (by omega) h13 (by decide) (by decide) (by decide)
    | 15, ho =>
      obtain rfl := Option.some.inj ho
      have h12 := hA ⟨12, .data⟩ (by simp) rfl
      refine wpOp_of rfl rfl ?_
      exact step_move _ (.inr rfl) rfl hI h12
    | 16, ho =>
      obtain rfl := Option.some.inj ho
      have h14 := hA ⟨14, .data⟩ (by simp) rfl
      refine wpOp_of rfl rfl ?_
      exact step_move _ (.inr rfl) rfl hI h14
    | _ + 17, ho => exact absurd ho (by simp)
  · intro vs w2 hvs hA hr2 hg2
    match vs, hvs with
    | x0 :: x1 :: x2 :: x3 :: x4 :: x5 :: x6 :: x7 :: x8 :: x9 :: x10 :: x11 :: x12 :: x13 :: x14 :: x15 :: x16 :: [], _ =>
      obtain ⟨k, hxk, hqk⟩ := hA 15 (by decide)
      obtain ⟨l, hxl, hql⟩ := hA 16 (by decide)
      subst hxk hxl
      go_wp2
      go_ret2
      exact ⟨k, l, hqk.1, hqk.2, hql.1, hql.2, by kernel_rfl, hb.grown hg2 (by have := hb.size; omega) (fun j hj => by cases hj; exact hB)⟩
end Go.Proofs.YtgdiciaddhbogaaDoor

/-
  PROVED HERE: what DrawSnapRows hands back. Conditions: the theorem's own.
-/
import Derived.Test.YtkbpmpndfcdpkaaDrawRows
import Derived.Deep.Onto
namespace Go.Proofs.Ytkbpmpndfcdpkaa
open Go.RowKit

/-- It returns rows that are its own and a number; nothing that was there turns. -/
def DrawRN (w : World) (e : Ending) (w' : World) : Prop :=
  ∃ (xs : List DRow) (v : Value) (l : Int), xs.length ≤ 40 ∧ 0 ≤ l ∧ l ≤ 1000 ∧ e = .returned (.tuple #[v, .int .i64 l]) ∧ w'.ownsRow w.heap.size 44 4 v xs.length (xs.flatMap encRow) ∧ Below w.heap.size w w'

set_option maxRecDepth 100000 in
set_option maxHeartbeats 1000000 in
theorem drawSnapRows_any (a : Option Addr) (n cap : Nat) (w : World) (h : Code8 w a n cap) : Calls Try.prog 22 #[.slice a n cap] w (DrawRN w) := by
  have H := Lib.hid h
  clear h
  go_enter Try.func22, Try.ntmps22
  go_wp2_with fail
  refine (open_any a n cap w H.out).mono ?_
  rintro e w1 ⟨B, rfl, hr0, hB, hb⟩
  have hr1 : RdTo B 0 w1 := ⟨0, Nat.le_refl _, hr0⟩
  go_wp2_with fail
  refine (l20Rows_to B 0 9 w1 hr1 (by omega) (by omega) (by omega)).mono ?_
  rintro e w3 ⟨k, V, hk, rfl, L⟩
  have hr2 := L.choose_spec.2.2.1
  obtain ⟨p0, hp0, hr⟩ := hr2
  go_wp2_with fail
  refine draw_region _ _ B p0 14 [10, 11, 12, 13, 14, 15, 16, 17, 18, 19, 20, 21, 2, 3] [Ty.is (V), Ty.rd, Ty.num (0) (19), Ty.num (1) (20), Ty.sl 3 (0) (1000), Ty.sl 6 (0) (2), Ty.rd, Ty.num (0) (5), Ty.el (0) (2), Ty.num (0) (2), Ty.el (0) (1000), Ty.num (0) (1000), Ty.is (V), Ty.num (0) (1000)] (by kernel_rfl) (by kernel_rfl) hr (by omega) ?_ ?_
  · intro m i o a w hm ho hF hI hA
    have hrd : a.tmps.getD 4 undef = .pointer (some ⟨B, 0, none⟩) := by
      have h := hF.2.2 4 (by intro i hi; revert i; decide)
      rw [Array.getD_eq_getD_getElem?, h]
      rfl
    have hw5 : a.tmps.getD 5 undef = V := by
      have h := hF.2.2 5 (by intro i hi; revert i; decide)
      rw [Array.getD_eq_getD_getElem?, h]
      rfl
    match i, ho with
    | 0, ho =>
      obtain rfl := Option.some.inj ho
      refine wpOp_of rfl rfl ?_
      exact step_move _ (.inl rfl) rfl hI hw5
    | 1, ho =>
      obtain rfl := Option.some.inj ho
      refine wpOp_of rfl rfl ?_
      exact step_move _ (.inl rfl) rfl hI hrd
    | 2, ho =>
      obtain rfl := Option.some.inj ho
      have h1 := hA ⟨1, .data⟩ (by simp) rfl
      refine wpOp_of rfl rfl ?_
      exact step_pick _ _ rfl rfl hI (by omega) h1 (by decide) (by decide) (by decide)
    | 3, ho =>
      obtain rfl := Option.some.inj ho
      have h2 := hA ⟨2, .data⟩ (by simp) rfl
      refine wpOp_of rfl rfl ?_
      obtain ⟨k2, e2, q2⟩ := h2
      exact step_add _ _ _ _ rfl rfl hI rfl ⟨Int.le_refl _, Int.le_refl _⟩ e2 q2 (by decide) (by decide) (by decide) (by decide)
    | 4, ho =>
      obtain rfl := Option.some.inj ho
      have h3 := hA ⟨3, .data⟩ (by simp) rfl
      refine wpOp_of rfl rfl ?_
      obtain ⟨k3, e3, q3⟩ := h3
      have e3' : a.tmps[13]?.getD undef = .int .i64 k3 := by simpa using e3
      exact step_build [k3, 1000, 0] 3 3 rfl hI rfl (by simp [go_sem, e3']) (by simp; omega)
    | 5, ho =>
      obtain rfl := Option.some.inj ho
      refine wpOp_of rfl rfl ?_
      exact step_build [0, 0, 0, 0, 1, 2] 6 3 rfl hI rfl (by simp [go_sem]) (by decide)
    | 6, ho =>
      obtain rfl := Option.some.inj ho
      refine wpOp_of rfl rfl ?_
      exact step_move _ (.inl rfl) rfl hI hrd
    | 7, ho =>
      obtain rfl := Option.some.inj ho
      have h6 := hA ⟨6, .data⟩ (by simp) rfl
      refine wpOp_of rfl rfl ?_
      exact step_pick _ _ rfl rfl hI (by omega) h6 (by decide) (by decide) (by decide)
    | 8, ho =>
      obtain rfl := Option.some.inj ho
      have h5 := hA ⟨5, .data⟩ (by simp) rfl
      have h7 := hA ⟨7, .data⟩ (by simp) rfl
      refine wpOp_of rfl rfl ?_
      exact step_index _ _ _ rfl Try.underlying31 rfl hI h5 h7 (by decide) (by decide)
    | 9, ho =>
      obtain rfl := Option.some.inj ho
      have h8 := hA ⟨8, .data⟩ (by simp) rfl
      refine wpOp_of rfl rfl ?_
      exact step_load _ rfl rfl hI h8
    | 10, ho =>
      obtain rfl := Option.some.inj ho
      have h4 := hA ⟨4, .data⟩ (by simp) rfl
      have h9 := hA ⟨9, .data⟩ (by simp) rfl
      refine wpOp_of rfl rfl ?_
      exact step_index _ _ _ rfl Try.underlying31 rfl hI h4 h9 (by decide) (by decide)
    | 11, ho =>
      obtain rfl := Option.some.inj ho
      have h10 := hA ⟨10, .data⟩ (by simp) rfl
      refine wpOp_of rfl rfl ?_
      exact step_load _ rfl rfl hI h10
    | 12, ho =>
      obtain rfl := Option.some.inj ho
      have h0 := hA ⟨0, .data⟩ (by simp) rfl
      refine wpOp_of rfl rfl ?_
      exact step_move _ (.inr rfl) rfl hI h0
    | 13, ho =>
      obtain rfl := Option.some.inj ho
      have h11 := hA ⟨11, .data⟩ (by simp) rfl
      refine wpOp_of rfl rfl ?_
      exact step_move _ (.inr rfl) rfl hI h11
    | _ + 14, ho => exact absurd ho (by simp)
  · intro vs w2 hvs hA hr2 hg2
    match vs, hvs with
    | x0 :: x1 :: x2 :: x3 :: x4 :: x5 :: x6 :: x7 :: x8 :: x9 :: x10 :: x11 :: x12 :: x13 :: [], _ =>
      obtain rfl : V = x12 := Eq.symm (hA 12 (by decide))
      obtain ⟨l, hxl, hql⟩ := hA 13 (by decide)
      subst hxl
      obtain ⟨xs, q1, q2, q3, q4, q5⟩ := L
      go_wp2
      go_ret2
      have q6 := q2.kept hg2 (.inr (owns_ne q2 (.inl q5)).symm)
      have hs := hb.size
      refine ⟨xs, V, l, by omega, hql.1, by have := hql.2; omega, by kernel_rfl, ?_, (hb.grown q4 (by omega) (fun j hj => by cases hj; exact hB)).grown hg2 (by have := q4.size; omega) (fun j hj => by cases hj; exact hB)⟩
      rw [q1]
      exact World.ownsRow.mono q6 hs
end Go.Proofs.Ytkbpmpndfcdpkaa

/-
  PROVED HERE: what SnapHeight of the program and of the reference return. Conditions: each theorem's own.
-/
import Derived.Test.YtkbpmpndfcdpkaaIn
namespace Go.Proofs.Ytkbpmpndfcdpkaa
open Go.RowKit

/-- The least multiple of s that is at least n. -/
def snapI (n s : Int) : Int := (n + s - 1) / s * s
theorem snapI_bd (n s : Int) (hs : 1 ≤ s) : n ≤ snapI n s ∧ snapI n s < n + s := by
  unfold snapI
  have h1 := Int.ediv_mul_le (n + s - 1) (show s ≠ 0 by omega)
  have h2 := Int.lt_ediv_add_one_mul_self (n + s - 1) (show 0 < s by omega)
  rw [Int.add_mul, Int.one_mul] at h2
  omega
theorem snapI_mod (n s : Int) : snapI n s % s = 0 := by
  unfold snapI
  exact Int.mul_emod_left _ _
def snapOk (h s : Int) : Bool := inB h 0 1000 && inB s 1 1000
def snapH (h s : Int) : Int := if snapOk h s = true then snapI h s else -1

theorem snap_any (n s : Int) (w : World) (h0 : 0 ≤ n) (h1 : n ≤ 1000000000) (h2 : 1 ≤ s) (h3 : s ≤ 1000) :
    Calls Try.prog 30 #[.int .i64 n, .int .i64 s] w fun e w' => e = .returned (.int .i64 (snapI n s)) ∧ w = w' := by
  have b := snapI_bd n s h2
  unfold snapI at b
  obtain ⟨b1, b2⟩ := b
  have q0 : 0 ≤ (n + s - 1) / s := Int.ediv_nonneg (by omega) (by omega)
  have q1 : (n + s - 1) / s ≤ n + s - 1 := Int.ediv_le_self _ (by omega)
  go_enter Try.func30, Try.ntmps30
  go_wp2
  go_ret
  exact ⟨rfl, rfl⟩

theorem isHeight_any (n : Int) (w : World) : Calls Try.prog 29 #[.int .i64 n] w fun e w' => e = .returned (.bool (inB n 1 1000)) ∧ w = w' := by
  go_enter Try.func29, Try.ntmps29
  go_wp2_with (go_at_call 28; refine (in_any _ _ _ _).mono ?_; rintro e w' ⟨rfl, rfl⟩)
  go_ret
  exact ⟨rfl, rfl⟩

theorem implSnapHeight_any (h s : Int) (w : World) : Calls Try.prog 10 #[.int .i64 h, .int .i64 s] w fun e w' => e = .returned (.int .i64 (snapH h s)) ∧ w = w' := by
  unfold snapH snapOk
  cases b1 : inB h 0 1000 <;> cases b2 : inB s 1 1000
  case true.true =>
    have c1 := inB_true b1
    have c2 := inB_true b2
    obtain ⟨c1, c1'⟩ := c1
    obtain ⟨c2, c2'⟩ := c2
    go_enter Try.func10, Try.ntmps10
    go_wp2_with (first | (go_at_call 28; refine (in_any _ _ _ _).mono ?_; rintro e w' ⟨rfl, rfl⟩) | (go_at_call 29; refine (isHeight_any _ _).mono ?_; rintro e w' ⟨rfl, rfl⟩) | (go_at_call 30; refine (snap_any _ _ _ c1 (by omega) c2 c2').mono ?_; rintro e w' ⟨rfl, rfl⟩))
    go_ret
    exact ⟨rfl, rfl⟩
  all_goals
    go_enter Try.func10, Try.ntmps10
    go_wp2_with (first | (go_at_call 28; refine (in_any _ _ _ _).mono ?_; rintro e w' ⟨rfl, rfl⟩) | (go_at_call 29; refine (isHeight_any _ _).mono ?_; rintro e w' ⟨rfl, rfl⟩))
    go_ret
    exact ⟨rfl, rfl⟩

theorem specSnapHeight_any (h s : Int) (w : World) : Calls Try.prog 9 #[.int .i64 h, .int .i64 s] w fun e w' => e = .returned (.int .i64 (snapH h s)) ∧ w = w' := by
  unfold snapH snapOk
  cases b1 : inB h 0 1000 <;> cases b2 : inB s 1 1000
  case true.true =>
    have c1 := inB_true b1
    have c2 := inB_true b2
    obtain ⟨c1, c1'⟩ := c1
    obtain ⟨c2, c2'⟩ := c2
    have b := snapI_bd h s c2
    unfold snapI at b
    obtain ⟨b1, b2⟩ := b
    have q0 : 0 ≤ (h + s - 1) / s := Int.ediv_nonneg (by omega) (by omega)
    have q1 : (h + s - 1) / s ≤ h + s - 1 := Int.ediv_le_self _ (by omega)
    go_enter Try.func9, Try.ntmps9
    go_wp2_with (go_at_call 27; refine (l1In_any _ _ _ _).mono ?_; rintro e w' ⟨rfl, rfl⟩)
    go_ret
    exact ⟨rfl, rfl⟩
  all_goals
    go_enter Try.func9, Try.ntmps9
    go_wp2_with (go_at_call 27; refine (l1In_any _ _ _ _).mono ?_; rintro e w' ⟨rfl, rfl⟩)
    go_ret
    exact ⟨rfl, rfl⟩
end Go.Proofs.Ytkbpmpndfcdpkaa

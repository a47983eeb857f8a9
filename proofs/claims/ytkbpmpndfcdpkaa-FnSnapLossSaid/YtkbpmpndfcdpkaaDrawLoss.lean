/-
  PROVED HERE: what DrawSnapLoss hands back; how much rows lose on a grid. Conditions: each theorem's own.
-/
import Derived.Test.YtkbpmpndfcdpkaaDrawSnapR
import Derived.Test.YtkbpmpndfcdpkaaLoss
namespace Go.Proofs.Ytkbpmpndfcdpkaa
open Go.RowKit

theorem snapI_zero (s : Int) (h : 1 ≤ s) : snapI 0 s = 0 := by
  unfold snapI
  rw [show (0 : Int) + s - 1 = s - 1 by omega, Int.ediv_eq_zero_of_lt (by omega) (by omega), Int.zero_mul]
theorem snapI_one (a : Int) : snapI a 1 = a := by unfold snapI; simp
theorem snapBot_one : ∀ (l : List Int) (a : Int), snapBot 1 a l = a + l.sum
  | [], a => by simp [snapBot]
  | h :: t, a => by rw [snapBot, snapI_one, snapBot_one t, List.sum_cons]; omega
theorem snapBot_loss (s : Int) (hs : 1 ≤ s) : ∀ (l : List Int) (a : Int), a + l.sum ≤ snapBot s a l ∧ snapBot s a l ≤ a + l.sum + l.length * (s - 1)
  | [], a => by simp [snapBot]
  | h :: t, a => by
    have b := snapI_bd a s hs
    have ih := snapBot_loss s hs t (snapI a s + h)
    rw [snapBot, List.sum_cons, List.length_cons]
    have e : ((t.length + 1 : Nat) : Int) * (s - 1) = t.length * (s - 1) + (s - 1) := by
      rw [Int.natCast_add, Int.add_mul]; simp
    rw [e]
    omega
theorem snapBot_loss0 (s : Int) (hs : 1 ≤ s) (l : List Int) : 0 ≤ snapBot s 0 l - l.sum ∧ (snapBot s 0 l - l.sum = 0 ∨ snapBot s 0 l - l.sum ≤ ((l.length : Int) - 1) * (s - 1)) := by
  match l with
  | [] => simp [snapBot]
  | h :: t =>
    have ih := snapBot_loss s hs t h
    rw [snapBot, snapI_zero s hs, List.sum_cons, List.length_cons, Int.zero_add]
    have e : (((t.length + 1 : Nat) : Int) - 1) * (s - 1) = t.length * (s - 1) := by
      rw [Int.natCast_add]; simp
    rw [e]
    omega

set_option maxHeartbeats 1000000 in
theorem drawSnapLoss_any (a : Option Addr) (n cap : Nat) (w : World) (h : Code8 w a n cap) : Calls Try.prog 26 #[.slice a n cap] w (DrawRN w) := by
  have H := Lib.hid h
  clear h
  go_enter Try.func26, Try.ntmps26
  go_wp2_with fail
  refine (drawSnapRows_any a n cap w H.out).mono ?_
  rintro e w1 ⟨xs, v, l, h1, h2, h3, rfl, ho, hb⟩
  have HO := Lib.hid ho
  have HB := Lib.hid hb
  clear ho hb
  go_wp2_with fail
  go_ret2
  exact ⟨xs, v, l, h1, h2, h3, rfl, HO.out, HB.out⟩
end Go.Proofs.Ytkbpmpndfcdpkaa

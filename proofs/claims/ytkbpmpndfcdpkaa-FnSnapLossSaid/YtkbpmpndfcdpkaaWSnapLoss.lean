/-
  PROVED HERE: what the text of the law FnSnapLoss does: it returns true and turns nothing that was there. Conditions: the walk's own.
-/
import Derived.Test.YtkbpmpndfcdpkaaDrawLoss
namespace Go.Proofs.Ytkbpmpndfcdpkaa
open Go.RowKit

set_option maxHeartbeats 2000000 in
theorem fnSnapLoss_walk (a : Option Addr) (n cap : Nat) (w : World) (h : Code8 w a n cap) : Calls Try.prog 8 #[.slice a n cap] w (Ret (.bool true) w) := by
  have hn : n ≤ 9223372036854775807 := by have := h.2.1; unfold maxLen at this; omega
  by_cases hbig : 1048576 < n
  · go_enter Try.func8, Try.ntmps8
    go_wp2
    go_ret
    exact ⟨rfl, Below.refl _ _⟩
  · have H := Lib.hid h
    clear h
    go_enter Try.func8, Try.ntmps8
    go_wp2_with fail
    refine (drawSnapLoss_any a n cap w H.out).mono ?_
    rintro e w1 ⟨xs, v, l, h1, h2, h3, rfl, ho, hb⟩
    have hs : SRow 4 encRow w1 v xs := SRow.of_owns encRow_len rfl ho
    obtain ⟨a2, cap2, rfl⟩ : ∃ a2 cap2, v = .slice a2 xs.length cap2 := by
      rcases ho.2 with ⟨e, q⟩ | ⟨g, cap, _, e, _⟩
      · subst e; exact ⟨_, _, by rw [q]⟩
      · exact ⟨_, _, e⟩
    clear ho
    have HS := Lib.hid hs
    have HB := Lib.hid hb
    clear hs hb
    obtain ⟨k, hk⟩ : ∃ k, k = lossOf l xs := ⟨_, rfl⟩
    obtain ⟨k1, hk1⟩ : ∃ k, k = lossOf 1 xs := ⟨_, rfl⟩
    obtain ⟨m, hm⟩ : ∃ m, m = xs.length := ⟨_, rfl⟩
    have HK := Lib.hid hk
    have HK1 := Lib.hid hk1
    have HM := Lib.hid hm
    rw [← hm] at h1
    go_wp2_with fail
    refine (implLoss_any _ xs l w1 HS.out).mono ?_
    rintro e w2 ⟨rfl, b2⟩
    rw [← hk]
    have hs2 := HS.out.below b2
    have hb2 := below_next HB.out b2 (Nat.le_refl _)
    have HS2 := Lib.hid hs2
    have HB2 := Lib.hid hb2
    clear hk HS HB hs2 hb2 b2
    go_wp2_with fail
    refine (specLoss_any _ xs l w2 HS2.out).mono ?_
    rintro e w3 ⟨rfl, b3⟩
    rw [← HK.out, ← hm]
    have hs3 := HS2.out.below b3
    have hb3 := below_next HB2.out b3 (Nat.le_refl _)
    have HS := Lib.hid hs3
    have HB := Lib.hid hb3
    clear hk1 hm hs3 hb3 b3 HS2 HB2
    by_cases hok : (rowsB xs && inB l 1 1000) = true
    · have e1 : k = snapBot l 0 (xs.map (·.f0)) - (xs.map (·.f0)).sum := by rw [HK.out, lossOf, if_pos hok]
      rw [Bool.and_eq_true] at hok
      obtain ⟨c1, c2⟩ := inB_true hok.2
      have e2 : k1 = 0 := by
        rw [HK1.out, lossOf, if_pos (by rw [hok.1]; decide), snapBot_one]
        omega
      have f := snapBot_loss0 l c1 (xs.map (·.f0))
      rw [← e1, List.length_map, ← HM.out] at f
      obtain ⟨f0, f1⟩ := f
      have C1 := Lib.hid (implLoss_any (.slice a2 m cap2) xs 1 w3 (by rw [HM.out]; exact HS.out))
      rw [← HK1.out, e2] at C1
      have p1 : -1000 ≤ ((m : Int) - 1) * (l - 1) := by
        by_cases h0 : m = 0
        · subst h0; simp; omega
        · exact Int.le_trans (by omega) (Int.mul_nonneg (by omega) (by omega))
      have p2 : ((m : Int) - 1) * (l - 1) ≤ 40000 := by
        by_cases h0 : m = 0
        · subst h0; simp; omega
        · exact Int.le_trans (Int.mul_le_mul (show (m : Int) - 1 ≤ 40 by omega) (show l - 1 ≤ 1000 by omega) (by omega) (by omega)) (by omega)
      clear e1 hok HK HK1 HS e2
      by_cases hk0 : k = 0
      · subst hk0
        clear f1
        go_wp2_with fail
        refine C1.out.mono ?_
        rintro e w4 ⟨rfl, b4⟩
        have hb4 := below_next HB.out b4 (Nat.le_refl _)
        have HB4 := Lib.hid hb4
        clear b4 hb4
        go_wp2
        go_ret
        exact ⟨rfl, HB4.out⟩
      · have f2 : k ≤ ((m : Int) - 1) * (l - 1) := by rcases f1 with f1 | f1 <;> omega
        clear f1
        go_wp2_with fail
        refine C1.out.mono ?_
        rintro e w4 ⟨rfl, b4⟩
        have hb4 := below_next HB.out b4 (Nat.le_refl _)
        have HB4 := Lib.hid hb4
        clear b4 hb4
        go_wp2
        go_ret
        exact ⟨rfl, HB4.out⟩
    · have e1 : k = -1 := by rw [HK.out, lossOf, if_neg hok]
      subst e1
      clear HK HK1 hok
      go_wp2_with (go_at_call 12; refine (alive_any _).mono ?_; rintro e w5 ⟨rfl, b5⟩)
      go_ret
      exact ⟨rfl, below_next HB.out (by assumption) (Nat.le_refl _)⟩
end Go.Proofs.Ytkbpmpndfcdpkaa

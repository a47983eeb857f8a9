/-
  PROVED HERE: what the text of the law FnRomanText does: it returns true and turns nothing that was there. Conditions: the walk's own.
-/
import Derived.Test.YtgpmlfneghpijaaDoorRdS
import Derived.Test.YtgpmlfneghpijaaDoorDrawRom2
namespace Go.Proofs.YtgpmlfneghpijaaDoor
open Go.RowKit

theorem readR_rom (N : Nat) (h1 : 1 ≤ N) (h2 : N ≤ 3999) : readR (rom N) = N := by
  have hr := rd_rom N (by omega)
  have hz : romZ (N : Int) = rom N := by
    unfold romZ
    rw [if_pos (inB_yes (by omega) (by omega))]
    rfl
  have hne : rom N ≠ [] := by
    intro e
    rw [e] at hr
    have := congrArg Prod.fst hr
    have h0 : (rd []).1 = 0 := rfl
    rw [h0] at this
    simp at this
    omega
  unfold readR
  rw [hr, if_neg]
  rintro (e | e)
  · exact hne e
  · exact e hz
theorem romZ_out (n : Int) (h : n < 1 ∨ 3999 < n) : romZ n = [] := by
  unfold romZ
  rw [if_neg]
  intro e
  have := inB_true e
  omega

set_option maxHeartbeats 1000000 in
theorem fnRomanText_walk (a : Option Addr) (n cap : Nat) (w : World) (h : Code8 w a n cap) (ht : RomTab w) : Calls Tryd.prog 4 #[.slice a n cap] w (Ret (.bool true) w) := by
  have hn : n ≤ 9223372036854775807 := by have := h.2.1; unfold maxLen at this; omega
  by_cases hbig : 1048576 < n
  · clear ht
    go_enter Tryd.func4, Tryd.ntmps4
    go_wp2
    go_ret
    exact ⟨rfl, Below.refl _ _⟩
  · have H := Lib.hid h
    have TAB := Lib.hid ht
    clear h ht
    go_enter Tryd.func4, Tryd.ntmps4
    go_wp2_with fail
    refine (drawRomanText_any a n cap w H.out).mono ?_
    rintro e w1 ⟨m, m0, m1, rfl, b1⟩
    have B1 := Lib.hid b1
    clear b1
    go_wp2_with fail
    refine (implRoman_any m w1 (TAB.out.below B1.out)).mono ?_
    rintro e w2 ⟨rfl, b2⟩
    have B2 := Lib.hid (below_next B1.out b2 (Nat.le_refl _))
    clear b2 B1
    go_wp2_with fail
    refine (specRoman_any m w2).mono ?_
    rintro e w3 ⟨rfl, b3⟩
    have B3 := Lib.hid (below_next B2.out b3 (Nat.le_refl _))
    clear b3 B2
    by_cases hin : 1 ≤ m ∧ m ≤ 3999
    · obtain ⟨N, rfl⟩ := Int.eq_ofNat_of_zero_le (show 0 ≤ m by omega)
      have hz : romZ (N : Int) = rom N := by
        unfold romZ
        rw [if_pos (inB_yes (by omega) (by omega))]
        rfl
      have hrr := readR_rom N (by omega) (by omega)
      have hl := rom_len N (by omega)
      rw [← hz] at hrr hl
      obtain ⟨T, hT⟩ : ∃ T, T = romZ (N : Int) := ⟨_, rfl⟩
      rw [← hT] at hrr hl ⊢
      have RR := Lib.hid hrr
      have n1 : 1 ≤ N ∧ N ≤ 3999 := by omega
      obtain ⟨n1, n2⟩ := n1
      clear hT hz hrr hin
      have hl' : (T.length : Int) ≤ 15 := by omega
      go_wp2_with (go_at_call 11; refine (implRead_any T (by omega) w3 (TAB.out.below B3.out)).mono ?_)
      rintro e w4 ⟨rfl, b4⟩
      have B4 := Lib.hid (below_next B3.out b4 (Nat.le_refl _))
      rw [RR.out]
      clear b4 B3
      go_wp2
      go_ret
      exact ⟨rfl, B4.out⟩
    · have hz := romZ_out m (by omega)
      rw [hz]
      clear hz
      by_cases hm1 : m < 1
      · go_wp2_with fail
        refine (alive_any _).mono ?_
        rintro e w4 ⟨rfl, b4⟩
        have B4 := Lib.hid (below_next B3.out b4 (Nat.le_refl _))
        clear b4 B3
        go_wp2
        go_ret
        exact ⟨rfl, B4.out⟩
      · have hm2 : 3999 < m := by omega
        go_wp2_with fail
        refine (alive_any _).mono ?_
        rintro e w4 ⟨rfl, b4⟩
        have B4 := Lib.hid (below_next B3.out b4 (Nat.le_refl _))
        clear b4 B3
        go_wp2
        go_ret
        exact ⟨rfl, B4.out⟩
end Go.Proofs.YtgpmlfneghpijaaDoor

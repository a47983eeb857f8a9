/-
  PROVED HERE: what the text of the law FnReadRoman does: it returns true and turns nothing that was there. Conditions: the walk's own.
-/
import Derived.Test.YtgpmlfneghpijaaDoorRdS
import Derived.Test.YtgpmlfneghpijaaDoorDrawRom2
namespace Go.Proofs.YtgpmlfneghpijaaDoor
open Go.RowKit

theorem readR_pos {l : List UInt8} (h : readR l ≠ 0) : romZ (readR l) = l ∧ readR l ≤ 3999 ∧ readR (l ++ [120]) ≠ readR l := by
  have key : ∀ {l : List UInt8}, readR l ≠ 0 → l ≠ [] ∧ romZ (readR l) = l := by
    intro l h
    unfold readR at h ⊢
    split at h
    · exact absurd rfl h
    · rename_i hc
      rw [if_neg hc]
      exact ⟨fun e => hc (.inl e), Classical.byContradiction fun e => hc (.inr e)⟩
  obtain ⟨h1, h2⟩ := key h
  refine ⟨h2, ?_, fun e => ?_⟩
  · cases hh : inB ((readR l : Nat) : Int) 1 3999
    · unfold romZ at h2
      rw [hh] at h2
      exact absurd h2.symm h1
    · have := inB_true hh
      omega
  · have h3 := (key (l := l ++ [120]) (by rw [e]; exact h)).2
    rw [e, h2] at h3
    have := congrArg List.length h3
    simp at this

set_option maxHeartbeats 1000000 in
theorem fnReadRoman_walk (a : Option Addr) (n cap : Nat) (w : World) (h : Code8 w a n cap) (ht : RomTab w) : Calls Tryd.prog 6 #[.slice a n cap] w (Ret (.bool true) w) := by
  have hn : n ≤ 9223372036854775807 := by have := h.2.1; unfold maxLen at this; omega
  by_cases hbig : 1048576 < n
  · clear ht
    go_enter Tryd.func6, Tryd.ntmps6
    go_wp2
    go_ret
    exact ⟨rfl, Below.refl _ _⟩
  · have H := Lib.hid h
    have TAB := Lib.hid ht
    clear h ht
    go_enter Tryd.func6, Tryd.ntmps6
    go_wp2_with fail
    refine (drawReadRoman_any a n cap w H.out).mono ?_
    rintro e w1 ⟨l, hl, rfl, b1⟩
    have B1 := Lib.hid b1
    clear b1
    go_wp2_with fail
    refine (implRead_any l (by omega) w1 (TAB.out.below B1.out)).mono ?_
    rintro e w2 ⟨rfl, b2⟩
    have B2 := Lib.hid (below_next B1.out b2 (Nat.le_refl _))
    clear b2 B1
    go_wp2_with fail
    refine (specRead_any l (by omega) w2).mono ?_
    rintro e w3 ⟨rfl, b3⟩
    have B3 := Lib.hid (below_next B2.out b3 (Nat.le_refl _))
    clear b3 B2
    by_cases hV0 : readR l = 0
    · rw [hV0]
      clear hV0
      go_wp2_with fail
      refine (alive_any _).mono ?_
      rintro e w4 ⟨rfl, b4⟩
      have B4 := Lib.hid (below_next B3.out b4 (Nat.le_refl _))
      clear b4 B3
      go_wp2
      go_ret
      exact ⟨rfl, B4.out⟩
    · obtain ⟨p1, p2, p3⟩ := readR_pos hV0
      have IR := Lib.hid (fun w h => implRead_any (l ++ [120]) (by simp; omega) w h)
      have IT := Lib.hid (fun w h => implRoman_any (readR l) w h)
      rw [p1] at IT
      obtain ⟨U, hU⟩ : ∃ U, U = readR (l ++ [120]) := ⟨_, rfl⟩
      rw [← hU] at IR p3
      obtain ⟨V, hV⟩ : ∃ V, V = readR l := ⟨_, rfl⟩
      rw [← hV] at IT p2 p3 hV0 ⊢
      have c1 : ¬ 9223372036854775807 < l.length + 1 := by omega
      have p3' : ¬ (U : Int) = (V : Int) := by omega
      have hV0' : ¬ (V : Int) = 0 := by omega
      clear hU hV p1 p3 hV0
      go_wp2_with fail
      refine (IT.out _ (TAB.out.below B3.out)).mono ?_
      rintro e w4 ⟨rfl, b4⟩
      have B4 := Lib.hid (below_next B3.out b4 (Nat.le_refl _))
      clear b4 B3
      go_wp2_with fail
      rw [show (bs l ++ (⟨#[120]⟩ : ByteArray)) = bs (l ++ [120]) from bs_append _ _]
      refine (IR.out _ (TAB.out.below B4.out)).mono ?_
      rintro e w5 ⟨rfl, b5⟩
      have B5 := Lib.hid (below_next B4.out b5 (Nat.le_refl _))
      clear b5 B4
      go_wp2
      go_ret
      have hv : ((U : Int) != (V : Int) && decide ((V : Int) ≤ 3999)) = true := by
        rw [Bool.and_eq_true, bne_iff_ne]
        exact ⟨p3', decide_eq_true (by omega)⟩
      refine ⟨?_, B5.out⟩
      show Ending.returned (.bool ((U : Int) != (V : Int) && decide ((V : Int) ≤ 3999))) = _
      rw [hv]
end Go.Proofs.YtgpmlfneghpijaaDoor

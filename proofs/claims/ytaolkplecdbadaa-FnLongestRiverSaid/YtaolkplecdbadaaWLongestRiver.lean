/-
  PROVED HERE: what the text of the law FnLongestRiver does: it returns true and turns nothing that was there. Conditions: the walk's own.
-/
import Derived.Test.YtaolkplecdbadaaDrawRiv
import Derived.Test.YtaolkplecdbadaaRivM
namespace Go.Proofs.Ytaolkplecdbadaa
open Go.RowKit

theorem sh_short {xs : List ByteArray} (h : Sh100 xs) : Short xs := fun s hs => by have := h s hs; omega
theorem drawLongest_any (a : Option Addr) (n cap : Nat) (w : World) (h : Code8 w a n cap) : Calls Try.prog 38 #[.slice a n cap] w fun e w' => ∃ (xs : List ByteArray) (v : Value), Sh100 xs ∧ e = .returned v ∧ SRow 1 encS w' v xs ∧ Below w.heap.size w w' := by
  have H := Lib.hid h
  clear h
  go_enter Try.func38, Try.ntmps38
  go_wp2_with fail
  refine (drawRivers_any a n cap w H.out).mono ?_
  rintro e w1 ⟨xs, v, l, hxl, hsh, hl1, hl2, rfl, ov, b1⟩
  go_wp2
  go_ret
  exact ⟨xs, v, hsh, rfl, SRow.of_owns encS_len rfl ov, b1⟩

set_option maxHeartbeats 4000000 in
theorem fnLongestRiver_walk (a : Option Addr) (n cap : Nat) (w : World) (h : Code8 w a n cap) : Calls Try.prog 11 #[.slice a n cap] w (Ret (.bool true) w) := by
  have hn : n ≤ 9223372036854775807 := by have := h.2.1; unfold maxLen at this; omega
  by_cases hbig : 1048576 < n
  · go_enter Try.func11, Try.ntmps11
    go_wp2
    go_ret
    exact ⟨rfl, Below.refl _ _⟩
  · have H := Lib.hid h
    clear h
    go_enter Try.func11, Try.ntmps11
    go_wp2_with fail
    refine (drawLongest_any a n cap w H.out).mono ?_
    rintro e w1 ⟨xs, V, hsh, rfl, hs1, b1⟩
    have hsx := sh_short hsh
    obtain ⟨l0, l60, lc, le⟩ := lgst_law xs
    obtain ⟨g, hg⟩ : ∃ g, g = lgst (rvAll xs 2) := ⟨_, rfl⟩
    have C1 := Lib.hid (fun w (h : SRow 1 encS w V xs) => (hg ▸ implLongest_any V xs w h hsx : Calls Try.prog 39 #[V] w (Ret (.int .i64 g) w)))
    have C2 := Lib.hid (fun w (h : SRow 1 encS w V xs) => (hg ▸ specLongest_any V xs w h hsx : Calls Try.prog 40 #[V] w (Ret (.int .i64 g) w)))
    rw [← hg] at l0 l60 lc le
    have C3 := Lib.hid (fun w (h : SRow 1 encS w V xs) => implRivers_any V xs g w h hsx (by omega) (by omega))
    have C4 := Lib.hid (fun w (h : SRow 1 encS w V xs) => (le ▸ implRivers_any V xs (max 2 (g + 1)) w h hsx (by omega) (by omega) : Calls Try.prog 32 #[V, .int .i64 (max 2 (g + 1))] w (RivPost [] w)))
    clear hg H hsx hsh le
    go_wp2_with fail
    refine (C1.out w1 hs1).mono ?_
    rintro e w2 ⟨rfl, b2⟩
    have hs2 := hs1.below b2
    go_wp2_with fail
    refine (C2.out w2 hs2).mono ?_
    rintro e w3 ⟨rfl, b3⟩
    have HS3 := Lib.hid (hs2.below b3)
    have B3 := Lib.hid (below_next (below_next b1 b2 (Nat.le_refl _)) b3 (Nat.le_refl _))
    clear hs1 hs2 b1 b2 b3 C1 C2
    rcases lc with rfl | ⟨lc, lp⟩
    · clear C3
      have C5 : Hid (∀ w, SRow 1 encS w V xs → Calls Try.prog 32 #[V, .int .i64 2] w (RivPost [] w)) := C4.out
      clear C4
      go_wp2_with fail
      refine (C5.out w3 HS3.out).mono ?_
      rintro e w4 ⟨u, rfl, ou, b4⟩
      obtain ⟨ua, uc, rfl⟩ := (SRow.of_owns encRiver_len rfl ou).empty
      have B4 := Lib.hid (below_next B3.out b4 (Nat.le_refl _))
      clear b4 ou
      go_wp2_with fail
      refine (alive_any _).mono ?_
      rintro e w6 ⟨rfl, b6⟩
      have B6 := Lib.hid (below_next B4.out b6 (Nat.le_refl _))
      clear b6
      go_wp2
      go_ret
      exact ⟨rfl, B6.out⟩
    · obtain ⟨R, hR⟩ : ∃ R, R = rvAll xs g := ⟨_, rfl⟩
      have C6 := Lib.hid (hR ▸ C3.out : ∀ w, SRow 1 encS w V xs → Calls Try.prog 32 #[V, .int .i64 g] w (RivPost R w))
      rw [← hR] at lp
      have C5 := Lib.hid ((show max 2 (g + 1) = g + 1 by omega) ▸ C4.out : ∀ w, SRow 1 encS w V xs → Calls Try.prog 32 #[V, .int .i64 (g + 1)] w (RivPost [] w))
      clear C3 C4 hR
      go_wp2_with fail
      refine (C6.out w3 HS3.out).mono ?_
      rintro e w4 ⟨u, rfl, ou, b4⟩
      obtain ⟨ua, uc, rfl, ulen, _⟩ := SRow.of_owns encRiver_len rfl ou
      have HS4 := Lib.hid (HS3.out.below b4)
      have B4 := Lib.hid (below_next B3.out b4 (Nat.le_refl _))
      clear b4 ou
      go_wp2_with fail
      refine (C5.out w4 HS4.out).mono ?_
      rintro e w5 ⟨u2, rfl, ou, b5⟩
      obtain ⟨ua2, uc2, rfl⟩ := (SRow.of_owns encRiver_len rfl ou).empty
      have B5 := Lib.hid (below_next B4.out b5 (Nat.le_refl _))
      clear b5 ou
      go_wp2_with fail
      refine (alive_any _).mono ?_
      rintro e w6 ⟨rfl, b6⟩
      have B6 := Lib.hid (below_next B5.out b6 (Nat.le_refl _))
      clear b6
      go_wp2
      go_ret
      exact ⟨rfl, B6.out⟩
end Go.Proofs.Ytaolkplecdbadaa

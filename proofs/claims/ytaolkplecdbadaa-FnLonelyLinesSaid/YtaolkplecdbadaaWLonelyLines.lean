/-
  PROVED HERE: what the text of the law FnLonelyLines does: it returns true and turns nothing that was there. Conditions: the walk's own.
-/
import Derived.Test.YtaolkplecdbadaaLonely3
import Derived.Test.YtaolkplecdbadaaLonely4
import Derived.Test.YtaolkplecdbadaaDrawLon2
namespace Go.Proofs.Ytaolkplecdbadaa
open Go.RowKit

set_option maxHeartbeats 4000000 in
theorem fnLonelyLines_walk (a : Option Addr) (n cap : Nat) (w : World) (h : Code8 w a n cap) : Calls Try.prog 6 #[.slice a n cap] w (Ret (.bool true) w) := by
  have hn : n ≤ 9223372036854775807 := by have := h.2.1; unfold maxLen at this; omega
  by_cases hbig : 1048576 < n
  · go_enter Try.func6, Try.ntmps6
    go_wp2
    go_ret
    exact ⟨rfl, Below.refl _ _⟩
  · have H := Lib.hid h
    clear h
    go_enter Try.func6, Try.ntmps6
    go_wp2_with fail
    refine (drawLonely_any a n cap w H.out).mono ?_
    rintro e w1 ⟨M, ps, pg, v, u, M0, M1, hpl, hgl, rfl, iv, iu, b1⟩
    have hcs := lon_cases M ps pg
    obtain ⟨va, vc, rfl⟩ : ∃ va vc, v = .slice va ps.length vc := by obtain ⟨a, c, e, _⟩ := iv; exact ⟨a, c, e⟩
    obtain ⟨x, hx⟩ : ∃ x, x = lonA M ps pg := ⟨_, rfl⟩
    obtain ⟨y, hy⟩ : ∃ y, y = lonB M ps pg := ⟨_, rfl⟩
    have S1 := fun v u w (h : IRow w v ps) (hu : IRow w u pg) => (hx ▸ hy ▸ specLonely_any M v u ps pg w h hu : Calls Try.prog 20 #[.int .i64 M, v, u] w (Ret (.tuple #[.int .i64 x, .int .i64 y]) w))
    have S2 := fun v u w (h : IRow w v ps) (hu : IRow w u pg) => (hx ▸ hy ▸ implLonely_any M v u ps pg w h hu : Calls Try.prog 22 #[.int .i64 M, v, u] w (Ret (.tuple #[.int .i64 x, .int .i64 y]) w))
    rw [← hx, ← hy] at hcs
    have HSP := Lib.hid S1
    have HIM := Lib.hid S2
    clear hx hy S1 S2 H
    go_wp2_with fail
    refine (HIM.out _ u w1 iv iu).mono ?_
    rintro e w2 ⟨rfl, b2⟩
    have iv2 := iv.below b2
    have iu2 := iu.below b2
    go_wp2_with fail
    refine (HSP.out _ u w2 iv2 iu2).mono ?_
    rintro e w3 ⟨rfl, b3⟩
    have IV := Lib.hid (iv2.below b3)
    have B3 := Lib.hid (below_next (below_next b1 b2 (Nat.le_refl _)) b3 (Nat.le_refl _))
    clear iv iu iv2 iu2 b1 b2 b3 HIM HSP
    obtain ⟨np, hnp⟩ : ∃ np, np = ps.length := ⟨_, rfl⟩
    rw [← hnp] at IV hcs hpl
    rw [← hnp]
    have HNP := Lib.hid hnp
    clear hnp
    rcases hcs with ⟨rfl, rfl⟩ | ⟨x0, x1, y0, y1, z1, z2⟩
    · go_wp2_with fail
      refine (alive_any _).mono ?_
      rintro e w4 ⟨rfl, b4⟩
      have B4 := Lib.hid (below_next B3.out b4 (Nat.le_refl _))
      clear b4
      go_wp2
      go_ret
      exact ⟨rfl, B4.out⟩
    · have Z1 := Lib.hid z1
      have Z2 := Lib.hid z2
      clear z1 z2
      have C := implLonely_any M (.slice va np vc) (.slice va np vc) ps ps w3 IV.out IV.out
      rw [Z1.out, Z2.out] at C
      have hx0 : ¬ x < 0 := by omega
      go_wp2_with fail
      refine C.mono ?_
      rintro e w4 ⟨rfl, b4⟩
      have B4 := Lib.hid (below_next B3.out b4 (Nat.le_refl _))
      clear b4 C
      go_wp2
      go_ret
      exact ⟨rfl, B4.out⟩
end Go.Proofs.Ytaolkplecdbadaa

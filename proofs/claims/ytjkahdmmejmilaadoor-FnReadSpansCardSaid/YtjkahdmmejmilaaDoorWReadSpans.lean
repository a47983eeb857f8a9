/-
  PROVED HERE: what the text of the law FnReadSpans does: it returns true and turns nothing that was there. Conditions: the walk's own.
-/
import Derived.Test.YtjkahdmmejmilaaDoorDrawSp
import Derived.Test.YtjkahdmmejmilaaDoorSpanM
import Derived.Test.YtjkahdmmejmilaaDoorSpRJ
set_option linter.unusedVariables false
set_option linter.unusedSimpArgs false
namespace Go.Proofs.YtjkahdmmejmilaaDoor
open Go.RowKit

theorem spJ_last : ∀ xs : List DSpan, xs ≠ [] → ∃ (a : List UInt8) (c : UInt8), spJ xs = a ++ [c] ∧ c ≠ 44
  | [], h => absurd rfl h
  | [x], _ => by
    have hd : ∀ u, UInt8.ofNat (48 + u % 10) ≠ 44 := fun u e => by
      have := dig_nat (u % 10) (Nat.mod_lt _ (by omega))
      rw [e] at this
      have h44 : (44 : UInt8).toNat = 44 := rfl
      omega
    rw [spJ_cons, spTl_nil, List.append_nil]
    unfold runT
    split
    · exact ⟨_, _, preD_last _, hd _⟩
    · rw [preD_last x.f1.toNat]
      exact ⟨Lib.decDigits x.f0.toNat ++ (45 :: preD x.f1.toNat), UInt8.ofNat (48 + x.f1.toNat % 10), by simp, hd _⟩
  | x :: y :: r, _ => by
    obtain ⟨a, c, h1, h2⟩ := spJ_last (y :: r) (by simp)
    exact ⟨runT x ++ (44 :: a), c, by rw [spJ_cons, spTl_cons, h1]; simp, h2⟩
theorem sp_comma (l : List UInt8) (xs : List DSpan) : ¬ SpIs xs (l ++ [44]) := by
  intro h
  have e := h.join
  by_cases hx : xs = []
  · rw [hx] at e
    have := congrArg List.length e
    rw [List.length_append] at this
    simp [spJ_nil] at this
  · obtain ⟨a, c, h1, h2⟩ := spJ_last xs hx
    rw [h1] at e
    have := congrArg List.getLast? e
    simp at this
    exact h2 this.symm

set_option maxHeartbeats 4000000 in
theorem fnReadSpans_walk (a : Option Addr) (n cap : Nat) (w : World) (h : Code8 w a n cap) (ht : RdTab w) : Calls Tryd.prog 6 #[.slice a n cap] w (Ret (.bool true) w) := by
  have hn : n ≤ 9223372036854775807 := by have := h.2.1; unfold maxLen at this; omega
  by_cases hbig : 1048576 < n
  · go_enter Tryd.func6, Tryd.ntmps6
    go_wp2
    go_ret
    exact ⟨rfl, Below.refl _ _⟩
  · have H := Lib.hid h
    have TAB := Lib.hid ht
    clear h ht
    go_enter Tryd.func6, Tryd.ntmps6
    go_wp2_with fail
    refine (drawReadSpans_any a n cap w H.out).mono ?_
    rintro e w1 ⟨l, hlen, rfl, hb⟩
    have B1 := Lib.hid hb
    have S1 := Lib.hid (fun w => specReadSp_any l (by omega) w)
    have S2 := Lib.hid (fun w h => implReadSp_any l (by omega) w h)
    have S3 := Lib.hid (fun w h => implReadSp_any (l ++ [44]) (by simp; omega) w h)
    have NC := Lib.hid (sp_comma l)
    have ec : Hid (bs l ++ (⟨#[44]⟩ : ByteArray) = bs (l ++ [44])) := by rw [show (⟨#[44]⟩ : ByteArray) = bs [44] from rfl, bs_append]; exact rfl
    clear hb H
    go_wp2_with (go_at_call 15; refine (S2.out _ (TAB.out.below B1.out (Nat.le_refl _))).mono ?_)
    rintro e w2 ⟨xs, v2, b, rfl, hr, o2, b2⟩
    have HR := Lib.hid hr
    have B2 := Lib.hid (below_next B1.out b2 (Nat.le_refl _))
    have R2 := Lib.hid (SRow.of_owns (xs := xs) encSpan_len rfl o2)
    clear hr o2 b2 B1 S2
    go_wp2_with (go_at_call 17; refine (S1.out _).mono ?_)
    rintro e w3 ⟨xs', v3, b', rfl, hr', o3, b3⟩
    obtain ⟨rfl, rfl⟩ := SpRes.uniq hr' HR.out
    have B3 := Lib.hid (below_next B2.out b3 (Nat.le_refl _))
    have R3 := Lib.hid (R2.out.below b3)
    have Q3 := Lib.hid (SRow.of_owns (xs := xs') encSpan_len rfl o3)
    clear hr' o3 b3 B2 R2 S1
    go_wp2_with (go_at_call 16; refine (sameSpans_any _ _ xs' _ R3.out Q3.out).mono ?_)
    rintro e w4 ⟨rfl, b4⟩
    have B4 := Lib.hid (below_next B3.out b4 (Nat.le_refl _))
    have R4 := Lib.hid (R3.out.below b4)
    clear b4 B3 R3 Q3
    cases b'
    · have e0 : xs' = [] := by
        rcases HR.out with ⟨h1, _⟩ | ⟨_, h1, _⟩
        · cases h1
        · exact h1
      subst e0
      obtain ⟨ax, cx, rfl⟩ := R4.out.empty
      clear HR NC S3 ec
      go_wp2_with (go_at_call 14; refine (alive_any _).mono ?_)
      rintro e w6 ⟨rfl, b6⟩
      have B6 := Lib.hid (below_next B4.out b6 (Nat.le_refl _))
      clear b6
      go_wp2
      go_ret
      exact ⟨rfl, B6.out⟩
    · have HI : Hid (SpIs xs' l) := by
        rcases HR.out with ⟨_, h1⟩ | ⟨h1, _⟩
        · exact h1
        · cases h1
      have c1 : ¬ 9223372036854775807 < l.length + 1 := by omega
      have ec' := ec.out
      clear HR
      go_wp2_with (go_at_call 15; (try rw [ec.out]); refine (S3.out _ (TAB.out.below B4.out (Nat.le_refl _))).mono ?_)
      rintro e w5 ⟨zs, v5, b5, rfl, hr, o5, bl5⟩
      have e5 : b5 = false := by
        rcases hr with ⟨_, h1⟩ | ⟨h1, _⟩
        · exact absurd h1 (NC.out _)
        · exact h1
      subst e5
      have B5 := Lib.hid (below_next B4.out bl5 (Nat.le_refl _))
      have R5 := Lib.hid (R4.out.below bl5)
      have ST := Lib.hid (implTxt_any v2 xs' w5 R5.out (TAB.out.2.1.below B5.out (Nat.le_refl _)))
      rw [HI.out.2] at ST
      clear hr o5 bl5 B4 R4 S3 NC ec ec'
      go_wp2_with (go_at_call 10; refine (ST.out).mono ?_)
      rintro e w6 ⟨rfl, b6⟩
      have B6 := Lib.hid (below_next B5.out b6 (Nat.le_refl _))
      clear b6
      go_wp2
      go_ret
      exact ⟨rfl, B6.out⟩
end Go.Proofs.YtjkahdmmejmilaaDoor

/-
  PROVED HERE: what the text of the law FnSpansText does: it returns true and turns nothing that was there. Conditions: the walk's own.
-/
import Derived.Test.YtjkahdmmejmilaaDoorDrawSp
import Derived.Test.YtjkahdmmejmilaaDoorSpanM
import Derived.Test.YtjkahdmmejmilaaDoorSpRJ
set_option linter.unusedVariables false
set_option linter.unusedSimpArgs false
namespace Go.Proofs.YtjkahdmmejmilaaDoor
open Go.RowKit

set_option maxHeartbeats 4000000 in
theorem fnSpansText_walk (a : Option Addr) (n cap : Nat) (w : World) (h : Code8 w a n cap) (ht : RdTab w) : Calls Tryd.prog 4 #[.slice a n cap] w (Ret (.bool true) w) := by
  have hn : n ≤ 9223372036854775807 := by have := h.2.1; unfold maxLen at this; omega
  by_cases hbig : 1048576 < n
  · go_enter Tryd.func4, Tryd.ntmps4
    go_wp2
    go_ret
    exact ⟨rfl, Below.refl _ _⟩
  · have H := Lib.hid h
    have TAB := Lib.hid ht
    clear h ht
    go_enter Tryd.func4, Tryd.ntmps4
    go_wp2_with fail
    refine (drawSpansText_any a n cap w H.out).mono ?_
    rintro e w1 ⟨xs, v, hl, hvn, rfl, ho, hb⟩
    have B1 := Lib.hid hb
    have R1 := Lib.hid (SRow.of_owns (xs := xs) encSpan_len rfl ho)
    have hlen := spTxt_len xs
    have RES : Hid (spB xs = true → SpRes (spTxt xs) xs true) := fun e => .inl ⟨rfl, e, rfl⟩
    have EMP : Hid (spB xs = false → spTxt xs = []) := fun e => by unfold spTxt; rw [e]; rfl
    have S1 := Lib.hid (fun v w (h : SRow 2 encSpan w v xs) => specTxt_any v xs w h)
    have S2 := Lib.hid (fun v w (h : SRow 2 encSpan w v xs) ht => implTxt_any v xs w h ht)
    obtain ⟨l, hll⟩ : ∃ l, l = spTxt xs := ⟨_, rfl⟩
    rw [← hll] at hlen RES EMP S1 S2
    clear hb ho hvn hll H
    go_wp2_with (go_at_call 10; refine (S2.out _ _ R1.out (TAB.out.2.1.below B1.out (Nat.le_refl _))).mono ?_)
    rintro e w2 ⟨rfl, b2⟩
    have B2 := Lib.hid (below_next B1.out b2 (Nat.le_refl _))
    have R2 := Lib.hid (R1.out.below b2)
    clear b2 B1 R1 S2
    go_wp2_with (go_at_call 8; refine (S1.out _ _ R2.out).mono ?_)
    rintro e w3 ⟨rfl, b3⟩
    have B3 := Lib.hid (below_next B2.out b3 (Nat.le_refl _))
    have R3 := Lib.hid (R2.out.below b3)
    have SV := Lib.hid (specSpansValid_any v xs w3 R3.out)
    clear b3 B2 R2 S1
    cases hsp : spB xs
    · have e0 := EMP.out hsp
      rw [hsp] at SV
      subst e0
      clear hsp EMP RES
      go_wp2_with (go_at_call 13; refine (SV.out).mono ?_)
      rintro e w4 ⟨rfl, b4⟩
      have B4 := Lib.hid (below_next B3.out b4 (Nat.le_refl _))
      clear b4 SV
      go_wp2_with (go_at_call 14; refine (alive_any _).mono ?_)
      rintro e w6 ⟨rfl, b6⟩
      have B6 := Lib.hid (below_next B4.out b6 (Nat.le_refl _))
      clear b6
      go_wp2
      go_ret
      exact ⟨rfl, B6.out⟩
    · have HR := Lib.hid (RES.out hsp)
      rw [hsp] at SV
      have RS := Lib.hid (fun w h => implReadSp_any l (by omega) w h)
      clear hsp EMP RES
      go_wp2_with (go_at_call 13; refine (SV.out).mono ?_)
      rintro e w4 ⟨rfl, b4⟩
      have B4 := Lib.hid (below_next B3.out b4 (Nat.le_refl _))
      have R4 := Lib.hid (R3.out.below b4)
      clear b4 SV B3 R3
      go_wp2_with (go_at_call 15; refine (RS.out _ (TAB.out.below B4.out (Nat.le_refl _))).mono ?_)
      rintro e w5 ⟨ys, v5, b, rfl, hr, o5, b5⟩
      obtain ⟨rfl, rfl⟩ := hr.uniq HR.out
      have B5 := Lib.hid (below_next B4.out b5 (Nat.le_refl _))
      have R5 := Lib.hid (R4.out.below b5)
      have Q5 := Lib.hid (SRow.of_owns (xs := ys) encSpan_len rfl o5)
      clear hr o5 b5 HR RS B4 R4
      go_wp2_with (go_at_call 16; refine (sameSpans_any _ _ ys _ Q5.out R5.out).mono ?_)
      rintro e w6 ⟨rfl, b6⟩
      have B6 := Lib.hid (below_next B5.out b6 (Nat.le_refl _))
      clear b6
      go_wp2
      go_ret
      exact ⟨rfl, B6.out⟩
end Go.Proofs.YtjkahdmmejmilaaDoor

/-
  PROVED HERE: what the text of the law FnReadContents does: it returns true and turns nothing that was there. Conditions: the walk's own.
-/
import Derived.Test.YtfallcoehmmbeaaDoorTitW
import Derived.Test.YtfallcoehmmbeaaDoorCtRI
import Derived.Test.YtfallcoehmmbeaaDoorTitR
set_option linter.unusedVariables false
set_option linter.unusedSimpArgs false
namespace Go.Proofs.YtfallcoehmmbeaaDoor
open Go.RowKit

theorem ct_space (line : List UInt8) (l : List UInt8) (lev pg : Int) : ¬ CtIs l lev pg (line ++ [32]) := by
  rintro ⟨h1, h2⟩
  unfold lnTxt at h2
  rw [if_pos h1] at h2
  unfold lnTail at h2
  rw [preD_last] at h2
  have e := congrArg List.getLast? h2
  rw [← List.cons_append, ← List.append_assoc, ← List.append_assoc, List.getLast?_concat, List.getLast?_concat] at e
  have hm : UInt8.ofNat (48 + pg.toNat % 10) ∈ Lib.decDigits pg.toNat := by rw [preD_last]; simp
  have := dec_dig pg.toNat _ hm
  rw [Option.some.inj e] at this
  have h32 : (32 : UInt8).toNat = 32 := rfl
  omega

set_option maxHeartbeats 4000000 in
theorem fnReadContents_walk (a : Option Addr) (n cap : Nat) (w : World) (h : Code8 w a n cap) (ht : RdTab w) : Calls Tryd.prog 8 #[.slice a n cap] w (Ret (.bool true) w) := by
  have hn : n ≤ 9223372036854775807 := by have := h.2.1; unfold maxLen at this; omega
  by_cases hbig : 1048576 < n
  · go_enter Tryd.func8, Tryd.ntmps8
    go_wp2
    go_ret
    exact ⟨rfl, Below.refl _ _⟩
  · have H := Lib.hid h
    have TAB := Lib.hid ht
    clear h ht
    go_enter Tryd.func8, Tryd.ntmps8
    go_wp2_with fail
    refine (drawReadContents_any a n cap w H.out).mono ?_
    rintro e w1 ⟨l, hlen, rfl, hb⟩
    have B1 := Lib.hid hb
    have S1 := Lib.hid (fun w => specReadCt_any l (by omega) w)
    have S2 := Lib.hid (fun w h => implReadCt_any l (by omega) w h)
    have S3 := Lib.hid (fun w h => implReadCt_any (l ++ [32]) (by simp; omega) w h)
    have NC := Lib.hid (ct_space l)
    have ec : Hid (bs l ++ (⟨#[32]⟩ : ByteArray) = bs (l ++ [32])) := by rw [show (⟨#[32]⟩ : ByteArray) = bs [32] from rfl, bs_append]; exact rfl
    clear hb H
    go_wp2_with (go_at_call 19; refine (S2.out _ (TAB.out.below B1.out (Nat.le_refl _))).mono ?_)
    rintro e w2 ⟨x, lv, pg, b, rfl, hr, b2⟩
    have HR := Lib.hid hr
    have B2 := Lib.hid (below_next B1.out b2 (Nat.le_refl _))
    clear hr b2 B1 S2
    go_wp2_with (go_at_call 20; refine (S1.out _).mono ?_)
    rintro e w3 ⟨x', lv', pg', b', rfl, hr', b3⟩
    obtain ⟨rfl, rfl, rfl, rfl⟩ := CtRes.uniq hr' HR.out
    obtain ⟨c0, c1, c2⟩ := boxT w2 x' lv' pg' _ rfl w3 b3
    have T3 := Lib.hid b3
    have B3 := Lib.hid (below_next (B2.out.alloc B2.out.size _) b3 (Nat.le_refl _))
    have hlt : w2.heap.size < w3.heap.size := by have := b3.size; simp at this; omega
    have B4 := Lib.hid (B3.out.alloc B3.out.size (.cells #[.string (bs x'), .int .i64 lv', .int .i64 pg'] 26))
    clear hr' b3 B2 S1
    cases b'
    · have e0 : x' = [] ∧ lv' = 0 ∧ pg' = 0 := by
        rcases HR.out with ⟨h1, _⟩ | ⟨_, h1, h2, h3, _⟩
        · cases h1
        · exact ⟨h1, h2, h3⟩
      obtain ⟨rfl, rfl, rfl⟩ := e0
      clear HR NC S3 ec
      go_wp2_with (go_at_call 15; refine (alive_any _).mono ?_)
      rintro e w6 ⟨rfl, b6⟩
      have B6 := Lib.hid (below_next B4.out b6 (Nat.le_refl _))
      clear b6
      go_wp2
      go_ret
      exact ⟨rfl, B6.out⟩
    · have HI : Hid (CtIs x' lv' pg' l) := by
        rcases HR.out with ⟨_, h1⟩ | ⟨h1, _⟩
        · exact h1
        · cases h1
      have hx : x'.length ≤ 1048600 := by
        have h1 := HI.out.1
        unfold lnOk at h1
        simp only [Bool.and_eq_true] at h1
        have := titOk_in h1.1
        omega
      have LN := Lib.hid (fun w h => implLine_any x' lv' pg' (l.length : Nat) hx w h)
      rw [HI.out.1, HI.out.2] at LN
      have c1 : ¬ 9223372036854775807 < l.length + 1 := by omega
      have ec' := ec.out
      clear HR HI
      go_wp2_with (go_at_call 17; refine (LN.out _ (TAB.out.1.below B4.out (Nat.le_refl _))).mono ?_)
      rintro e w4 ⟨rfl, b4⟩
      have B5 := Lib.hid (below_next B4.out b4 (Nat.le_refl _))
      clear b4 LN B4
      go_wp2_with (go_at_call 19; (try rw [ec.out]); refine (S3.out _ (TAB.out.below B5.out (Nat.le_refl _))).mono ?_)
      rintro e w5 ⟨z, lz, pz, b5, rfl, hr, bl5⟩
      have e5 : b5 = false := by
        rcases hr with ⟨_, h1⟩ | ⟨h1, _⟩
        · exact absurd h1 (NC.out _ _ _)
        · exact h1
      subst e5
      have B6 := Lib.hid ((below_next B5.out bl5 (Nat.le_refl _)).alloc (by have h1 := B5.out.size; have h2 := bl5.size; omega) (.cells #[.string (bs z), .int .i64 lz, .int .i64 pz] 26))
      clear hr bl5 B5 S3 NC ec ec'
      go_wp2
      go_ret
      exact ⟨rfl, B6.out⟩
end Go.Proofs.YtfallcoehmmbeaaDoor

/-
  PROVED HERE: what ContentsLine of the program returns. Conditions: each theorem's own.
-/
import Derived.Test.YtfallcoehmmbeaaGreatDoorLineS
import Derived.Test.YtfallcoehmmbeaaGreatDoorTitI
import Derived.Lib.AppendIntMem
import Derived.Lib.Repeat
import Derived.WalkSmall
import Derived.Deep.CutRange
import Derived.Deep.DeepCutAuto
set_option linter.unusedVariables false
set_option linter.unusedSimpArgs false
namespace Go.Proofs.YtfallcoehmmbeaaGreatDoor
open Go.RowKit

theorem gPow : Tryz.prog.globalNamed "internal/strconv.uint64pow10" = some 5 := by kernel_rfl
/-- What the library's functions read. -/
def CtTab (w : World) : Prop := MaxTab w ∧ Lib.TabIs Tryz.prog w "internal/strconv.uint64pow10" .u64 Lib.pow10Tab
theorem CtTab.below {w w' : World} {B : Nat} (h : CtTab w) (hb : Below B w w') (hB : w.heap.size ≤ B) : CtTab w' := by
  refine ⟨h.1.below hb hB, var?_below hb gPow ?_ h.2⟩
  exact Nat.lt_of_lt_of_le (World.block_lt_of_cell? w _ (Lib.TabIs.cell h.2 gPow 0 (by decide))) hB
theorem isBroad_any (n : Int) (w : World) : Calls Tryz.prog 23 #[.int .i64 n] w fun e w' => e = .returned (.bool (inB n 1 60)) ∧ w = w' := by
  go_enter Tryz.func23, Tryz.ntmps23
  go_wp2_with (go_at_call 29; refine (in_any _ _ _ _).mono ?_; rintro e w' ⟨rfl, rfl⟩)
  go_ret
  exact ⟨rfl, rfl⟩
theorem rep2 (L : Nat) (w : World) (hL : L ≤ 100) : Calls Tryz.prog 24 #[.string ⟨#[32, 32]⟩, .int .i64 L] w (RetT (List.replicate (2 * L) 32) w) := by
  have h := Tryz.strings_Repeat (bs [32, 32]) L w (by omega) (by have : (bs [32, 32]).size = 2 := rfl; rw [this]; omega)
  have e : Lib.repeatL (bs [32, 32]).data.toList L = List.replicate (2 * L) 32 := by
    have := Lib.repeatL_replicate 32 2 L
    rw [Nat.mul_comm] at this
    exact this
  rw [e] at h
  exact h
theorem rep1 (P : Nat) (w : World) (hP : P ≤ 100) : Calls Tryz.prog 24 #[.string ⟨#[46]⟩, .int .i64 P] w (RetT (List.replicate P 46) w) := by
  have h := Tryz.strings_Repeat (bs [46]) P w (by omega) (by have : (bs [46]).size = 1 := rfl; rw [this]; omega)
  have e : Lib.repeatL (bs [46]).data.toList P = List.replicate P 46 := by
    have := Lib.repeatL_replicate 46 1 P
    rw [Nat.mul_one] at this
    exact this
  rw [e] at h
  exact h

theorem itoaD (pg : Int) (h1 : 1 ≤ pg) (h2 : pg ≤ 999) (w : World) (htab : Lib.TabIs Tryz.prog w "internal/strconv.uint64pow10" .u64 Lib.pow10Tab) : Calls Tryz.prog 25 #[.int .i64 pg] w (RetT (Lib.decDigits pg.toNat) w) := by
  refine (Tryz.strconv_Itoa pg (by omega) (by omega) w htab).mono ?_
  rintro e w1 ⟨rfl, k, os, rfl⟩
  refine ⟨?_, Lib.below_grow _ _ (Nat.le_refl _) _ _⟩
  obtain ⟨N, rfl⟩ := Int.eq_ofNat_of_zero_le (show 0 ≤ pg by omega)
  rw [Lib.itoa_nonneg]
  rfl

set_option maxHeartbeats 4000000 in
theorem implLine_any (l : List UInt8) (lev pg width : Int) (hl : l.length ≤ 1048600) (w : World) (hm : CtTab w) : Calls Tryz.prog 13 #[.agg #[.string (bs l), .int .i64 lev, .int .i64 pg], .int .i64 width] w (RetTB (lnTxt l lev pg width) (lnOk l lev pg width) w) := by
  have A0 := Lib.hid ((Below.refl w.heap.size w).alloc (Nat.le_refl _) (.cells #[.string (bs l), .int .i64 lev, .int .i64 pg] 32))
  obtain ⟨w0, hw0⟩ : ∃ w0, w0 = w.alloc (.cells #[.string (bs l), .int .i64 lev, .int .i64 pg] 32) := ⟨_, rfl⟩
  have BX := Lib.hid (boxT w l lev pg w0 hw0)
  have ST := Lib.hid (fun w h => implTitle_any l lev pg hl w h)
  rw [← hw0] at A0
  have TAB := Lib.hid (hm.below A0.out (Nat.le_refl _))
  clear hm
  cases hT : titOk l lev pg
  · have eb : lnOk l lev pg width = false := by unfold lnOk; rw [hT]; rfl
    have et : lnTxt l lev pg width = [] := by unfold lnTxt; rw [eb]; rfl
    rw [hT] at ST
    rw [eb, et]
    clear eb et hT
    go_enter Tryz.func13, Tryz.ntmps13
    go_wp2_with (go_at_call 22; rw [← hw0]; refine (ST.out _ TAB.out.1).mono ?_)
    rintro e w1 ⟨rfl, b1⟩
    have B1 := Lib.hid (A0.out.trans (b1.mono A0.out.size))
    clear b1
    go_wp2
    go_ret2
    exact ⟨rfl, B1.out⟩
  · obtain ⟨i1, i2, i3, i4, i5, i6⟩ := titOk_in hT
    rw [hT] at ST
    cases hW : inB width 1 60
    · have eb : lnOk l lev pg width = false := by unfold lnOk; rw [hT, hW]; rfl
      have et : lnTxt l lev pg width = [] := by unfold lnTxt; rw [eb]; rfl
      rw [eb, et]
      have HW := Lib.hid hW
      clear eb et hT hW
      go_enter Tryz.func13, Tryz.ntmps13
      go_wp2_with (go_at_call 22; rw [← hw0]; refine (ST.out _ TAB.out.1).mono ?_)
      rintro e w1 ⟨rfl, b1⟩
      have B1 := Lib.hid (A0.out.trans (b1.mono A0.out.size))
      clear b1
      go_wp2_with (go_at_call 23; refine (isBroad_any _ _).mono ?_; rintro e w' ⟨rfl, rfl⟩; rw [HW.out])
      go_ret2
      exact ⟨rfl, B1.out⟩
    · have HW := Lib.hid hW
      obtain ⟨j1, j2⟩ := inB_true hW
      have eb : Hid (lnOk l lev pg width = decide (3 ≤ lnPts l lev pg width)) := by show _ = _; unfold lnOk; rw [hT, hW]; rfl
      obtain ⟨L, hL⟩ : ∃ L : Nat, lev = (L : Int) := Int.eq_ofNat_of_zero_le i3
      subst hL
      obtain ⟨A, hA⟩ : ∃ A : List UInt8, A = List.replicate (2 * L) 32 := ⟨_, rfl⟩
      have hAl : A.length = 2 * L := by rw [hA, List.length_replicate]
      have RP := Lib.hid (fun w => rep2 L w (by omega))
      rw [← hA] at RP
      have HA := Lib.hid hA
      have q1 : ¬ 9223372036854775807 < A.length + l.length := by omega
      have q2 : ¬ 9223372036854775807 < A.length + l.length + 1 := by omega
      clear hT hW hA
      go_enter Tryz.func13, Tryz.ntmps13
      go_wp2_with (go_at_call 22; rw [← hw0]; refine (ST.out _ TAB.out.1).mono ?_)
      rintro e w1 ⟨rfl, b1⟩
      have B1 := Lib.hid b1
      obtain ⟨c0, c1, c2⟩ := BX.out w1 b1
      clear b1
      go_upto_region 17 with (go_at_call 23; refine (isBroad_any _ _).mono ?_; rintro e w' ⟨rfl, rfl⟩; rw [HW.out])
      go_cut [6] from 17 to 23 (fun v wx => v = .string (bs A ++ bs l ++ (⟨#[32]⟩ : ByteArray)) ∧ Hid (Below w0.heap.size w0 wx))
      case first =>
        go_region_with (go_at_call 24; refine (RP.out _).mono ?_; rintro e w5 ⟨rfl, b5⟩; obtain ⟨f0, f1, f2⟩ := BX.out w5 (below_next (B1.out.drew) b5 (Nat.le_refl _)))
        all_goals first
          | (go_wp2_with fail; go_meet; exact ⟨rfl, Lib.hid (below_next (B1.out.drew) (by assumption) (Nat.le_refl _))⟩)
          | (exfalso; omega)
      case rest =>
        obtain ⟨rfl, hbc⟩ := hcut
        obtain ⟨f0, f1, f2⟩ := BX.out wc hbc.out
        have IT := Lib.hid (itoaD pg i5 i6 wc (TAB.out.below hbc.out (Nat.le_refl _)).2)
        have hDl := decDigits_len pg.toNat (by omega)
        obtain ⟨D, hD⟩ : ∃ D, D = Lib.decDigits pg.toNat := ⟨_, rfl⟩
        rw [← hD] at IT hDl
        have HD := Lib.hid hD
        have q3 : ¬ 9223372036854775807 < 1 + D.length := by omega
        clear hD c0 c1 c2 B1
        go_wp2_with (go_at_call 25; refine IT.out.mono ?_)
        rintro e w2 ⟨rfl, b2⟩
        have B2 := Lib.hid (A0.out.trans ((below_next hbc.out b2 (Nat.le_refl _)).mono A0.out.size))
        have C2 := Lib.hid (below_next hbc.out b2 (Nat.le_refl _))
        clear b2 f0 f1 f2
        have hpt' : Hid (lnPts l (L : Int) pg width = width - (2 * (L : Int) + l.length + 1) - (1 + (D.length : Int))) := by
          show _ = _
          unfold lnPts lnHead lnTail
          rw [← HD.out, show (2 * (L : Int)).toNat = 2 * L by omega, ← HA.out]
          simp
          omega
        by_cases hp : 3 ≤ width - (2 * (L : Int) + l.length + 1) - (1 + (D.length : Int))
        · obtain ⟨P, hP⟩ : ∃ P : Nat, width - (2 * (L : Int) + l.length + 1) - (1 + (D.length : Int)) = (P : Int) := Int.eq_ofNat_of_zero_le (by omega)
          have ET : Hid (lnOk l (L : Int) pg width = true) := by show _ = _; rw [eb.out, hpt'.out]; exact decide_eq_true hp
          have et2 : Hid (lnTxt l (L : Int) pg width = (A ++ (l ++ [32])) ++ (List.replicate P 46 ++ (32 :: D))) := by
            show _ = _
            unfold lnTxt
            rw [ET.out, if_pos rfl, hpt'.out, hP, Int.toNat_natCast]
            unfold lnHead lnTail
            rw [show (2 * (L : Int)).toNat = 2 * L by omega, ← HA.out, ← HD.out]
          have RQ := rep1 P w2 (by omega)
          rw [← hP] at RQ
          have RQ := Lib.hid RQ
          obtain ⟨R, hR⟩ : ∃ R : List UInt8, R = List.replicate P 46 := ⟨_, rfl⟩
          have hRl : R.length = P := by rw [hR, List.length_replicate]
          rw [← hR] at RQ et2
          have hP60 : P ≤ 60 := by omega
          have t2 : ¬ 9223372036854775807 < 2 * L + l.length + 1 + P := by omega
          have t3 : ¬ 9223372036854775807 < 2 * L + l.length + 1 + P + (1 + D.length) := by omega
          have e2 : Hid (bs A ++ bs l ++ (⟨#[32]⟩ : ByteArray) ++ bs R ++ ((⟨#[32]⟩ : ByteArray) ++ bs D) = bs (lnTxt l (L : Int) pg width)) := by
            show _ = _
            rw [show (⟨#[32]⟩ : ByteArray) = bs [32] from rfl, bs_append, bs_append, bs_append, bs_append, bs_append, et2.out]
            simp only [List.append_assoc, List.cons_append, List.nil_append]
          clear hR hP
          go_wp2_with (go_at_call 24; refine RQ.out.mono ?_)
          rintro e w3 ⟨rfl, b3⟩
          have B3 := Lib.hid (below_next B2.out b3 (Nat.le_refl _))
          clear b3
          go_wp2
          go_ret2
          refine ⟨?_, B3.out⟩
          show Ending.returned (.tuple #[.string (bs A ++ bs l ++ (⟨#[32]⟩ : ByteArray) ++ bs R ++ ((⟨#[32]⟩ : ByteArray) ++ bs D)), .bool true]) = _
          rw [e2.out, ET.out]
        · have ET : Hid (lnOk l (L : Int) pg width = false) := by show _ = _; rw [eb.out, hpt'.out]; exact decide_eq_false hp
          have ET2 : Hid (lnTxt l (L : Int) pg width = []) := by show _ = _; unfold lnTxt; rw [ET.out]; rfl
          go_wp2
          go_ret2
          refine ⟨?_, B2.out⟩
          show Ending.returned (.tuple #[.string (⟨#[]⟩ : ByteArray), .bool false]) = _
          rw [ET.out, ET2.out]
end Go.Proofs.YtfallcoehmmbeaaGreatDoor

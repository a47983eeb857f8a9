/-
  PROVED HERE: what ContentsLine of the reference returns. Conditions: each theorem's own.
-/
import Derived.Test.YtfallcoehmmbeaaGreatDoorTitS
import Derived.Test.YtfallcoehmmbeaaGreatDoorNum
set_option linter.unusedVariables false
set_option linter.unusedSimpArgs false
namespace Go.Proofs.YtfallcoehmmbeaaGreatDoor
open Go.RowKit

def lnHead (l : List UInt8) (lev : Int) : List UInt8 := List.replicate (2 * lev).toNat 32 ++ (l ++ [32])
def lnTail (pg : Int) : List UInt8 := 32 :: Lib.decDigits pg.toNat
def lnPts (l : List UInt8) (lev pg width : Int) : Int := width - (lnHead l lev).length - (lnTail pg).length
def lnOk (l : List UInt8) (lev pg width : Int) : Bool := titOk l lev pg && (inB width 1 60 && decide (3 ≤ lnPts l lev pg width))
def lnTxt (l : List UInt8) (lev pg width : Int) : List UInt8 := if lnOk l lev pg width = true then lnHead l lev ++ (List.replicate (lnPts l lev pg width).toNat 46 ++ lnTail pg) else []
/-- It returns a text and whether there is one. -/
def RetTB (l : List UInt8) (b : Bool) (w : World) (e : Ending) (w' : World) : Prop := e = .returned (.tuple #[.string (bs l), .bool b]) ∧ Below w.heap.size w w'
theorem titOk_in {l : List UInt8} {lev pg : Int} (h : titOk l lev pg = true) : 1 ≤ l.length ∧ l.length ≤ 40 ∧ 0 ≤ lev ∧ lev ≤ 4 ∧ 1 ≤ pg ∧ pg ≤ 999 := by
  unfold titOk at h
  simp only [Bool.and_eq_true] at h
  have a := inB_true h.2.1
  have b := inB_true h.2.2.2.1
  have c := inB_true h.2.2.2.2
  omega
theorem decDigits_len (N : Nat) (h : N ≤ 100000) : (Lib.decDigits N).length ≤ 30 := by
  have := Lib.itoa_length_le (N : Int) (by omega) (by omega)
  rw [Lib.itoa_nonneg] at this
  omega
theorem boxT (w : World) (l : List UInt8) (lev pg : Int) (w0 : World) (hw0 : w0 = w.alloc (.cells #[.string (bs l), .int .i64 lev, .int .i64 pg] 32)) (wi : World) (hb : Below w0.heap.size w0 wi) :
    wi.cell? ⟨w.heap.size, 0, none⟩ = some (.string (bs l)) ∧ wi.cell? ⟨w.heap.size, 1, none⟩ = some (.int .i64 lev) ∧ wi.cell? ⟨w.heap.size, 2, none⟩ = some (.int .i64 pg) := by
  have hlt : w.heap.size < w0.heap.size := by rw [hw0]; simp
  refine ⟨(hb.cell (p := ⟨w.heap.size, 0, none⟩) hlt).trans ?_, (hb.cell (p := ⟨w.heap.size, 1, none⟩) hlt).trans ?_, (hb.cell (p := ⟨w.heap.size, 2, none⟩) hlt).trans ?_⟩
  all_goals
    rw [hw0, World.cell?_alloc_at _ _ _ _ rfl]
    rfl

set_option maxHeartbeats 4000000 in
theorem specLine_any (l : List UInt8) (lev pg width : Int) (hl : l.length ≤ 1048600) (w : World) : Calls Tryz.prog 14 #[.agg #[.string (bs l), .int .i64 lev, .int .i64 pg], .int .i64 width] w (RetTB (lnTxt l lev pg width) (lnOk l lev pg width) w) := by
  have A0 := Lib.hid ((Below.refl w.heap.size w).alloc (Nat.le_refl _) (.cells #[.string (bs l), .int .i64 lev, .int .i64 pg] 32))
  obtain ⟨w0, hw0⟩ : ∃ w0, w0 = w.alloc (.cells #[.string (bs l), .int .i64 lev, .int .i64 pg] 32) := ⟨_, rfl⟩
  have BX := Lib.hid (boxT w l lev pg w0 hw0)
  have ST := Lib.hid (fun w => specTitle_any l lev pg hl w)
  rw [← hw0] at A0
  cases hT : titOk l lev pg
  · have eb : lnOk l lev pg width = false := by unfold lnOk; rw [hT]; rfl
    have et : lnTxt l lev pg width = [] := by unfold lnTxt; rw [eb]; rfl
    rw [hT] at ST
    rw [eb, et]
    clear eb et hT
    go_enter Tryz.func14, Tryz.ntmps14
    go_wp2_with (go_at_call 26; rw [← hw0]; refine (ST.out _).mono ?_)
    rintro e w1 ⟨rfl, b1⟩
    have B1 := Lib.hid (A0.out.trans (b1.mono A0.out.size))
    clear b1
    go_wp2
    go_ret2
    exact ⟨rfl, B1.out⟩
  · obtain ⟨i1, i2, i3, i4, i5, i6⟩ := titOk_in hT
    rw [hT] at ST
    cases hW : inB width 1 60
    · have eb : lnOk l lev pg width = false := by unfold lnOk; rw [hT, hW]; rfl
      have et : lnTxt l lev pg width = [] := by unfold lnTxt; rw [eb]; rfl
      rw [eb, et]
      have HW := Lib.hid hW
      clear eb et hT hW
      go_enter Tryz.func14, Tryz.ntmps14
      go_wp2_with (go_at_call 26; rw [← hw0]; refine (ST.out _).mono ?_)
      rintro e w1 ⟨rfl, b1⟩
      have B1 := Lib.hid (A0.out.trans (b1.mono A0.out.size))
      clear b1
      go_wp2_with (go_at_call 27; refine (l1In_any _ _ _ _).mono ?_; rintro e w' ⟨rfl, rfl⟩; rw [HW.out])
      go_ret2
      exact ⟨rfl, B1.out⟩
    · have HW := Lib.hid hW
      obtain ⟨j1, j2⟩ := inB_true hW
      have eb : Hid (lnOk l lev pg width = decide (3 ≤ lnPts l lev pg width)) := by show _ = _; unfold lnOk; rw [hT, hW]; rfl
      obtain ⟨L, hL⟩ : ∃ L : Nat, lev = (L : Int) := Int.eq_ofNat_of_zero_le i3
      subst hL
      clear hT hW
      go_enter Tryz.func14, Tryz.ntmps14
      go_wp2_with (go_at_call 26; rw [← hw0]; refine (ST.out _).mono ?_)
      rintro e w1 ⟨rfl, b1⟩
      have B1 := Lib.hid b1
      obtain ⟨c0, c1, c2⟩ := BX.out w1 b1
      clear b1
      go_wp2_with (go_at_call 27; refine (l1In_any _ _ _ _).mono ?_; rintro e w' ⟨rfl, rfl⟩; rw [HW.out])
      go_loopw [6, 7] (fun o kk wr => ∃ k : Nat, k ≤ 2 * L ∧ kk = .int .i64 k ∧ o = .string (bs (List.replicate k 32)) ∧ wr = w1) (fun _ kk _ => 2 * L - (intOf kk).toNat)
      case atStart => exact ⟨0, Nat.zero_le _, rfl, rfl, rfl⟩
      case round =>
        obtain ⟨k, hk, rfl, rfl, rfl⟩ := hrel
        by_cases hlt : k < 2 * L
        · have hlt' : (k : Int) < 2 * (L : Int) := by omega
          have q2 : ¬ 9223372036854775807 < k + 1 := by omega
          have e2 : Hid (bs (List.replicate k 32) ++ (⟨#[32]⟩ : ByteArray) = bs (List.replicate (k + 1) 32)) := by
            show _ = _
            rw [show (⟨#[32]⟩ : ByteArray) = bs [32] from rfl, bs_append, List.replicate_succ']
          go_wp2
          exact ⟨⟨k + 1, by omega, by go_num, by rw [e2.out], trivial⟩, by simp [intOf]; omega⟩
        · obtain rfl : k = 2 * L := by omega
          have hlt' : ¬ ((2 * L : Nat) : Int) < 2 * (L : Int) := by omega
          obtain ⟨A, hA⟩ : ∃ A : List UInt8, A = List.replicate (2 * L) 32 := ⟨_, rfl⟩
          have hAl : A.length = 2 * L := by rw [hA, List.length_replicate]
          rw [← hA]
          have HA := Lib.hid hA
          have q1 : ¬ 9223372036854775807 < A.length + l.length := by omega
          have q2 : ¬ 9223372036854775807 < A.length + l.length + 1 := by omega
          have SN := Lib.hid (fun w => specNum_any pg.toNat (by omega) w)
          have hn : ((pg.toNat : Nat) : Int) = pg := by omega
          rw [hn] at SN
          have hDl := decDigits_len pg.toNat (by omega)
          obtain ⟨D, hD⟩ : ∃ D, D = Lib.decDigits pg.toNat := ⟨_, rfl⟩
          rw [← hD] at SN hDl
          have HD := Lib.hid hD
          clear hA hn hD
          go_wp2_with (go_at_call 28; refine (SN.out _).mono ?_)
          rintro e w2 ⟨rfl, b2⟩
          have B2 := Lib.hid (A0.out.trans ((below_next B1.out b2 (Nat.le_refl _)).mono A0.out.size))
          have q3 : ¬ 9223372036854775807 < 1 + D.length := by omega
          clear b2
          have hpt : Hid (lnPts l (L : Int) pg width = width - (A.length + l.length + 1 : Nat) - (1 + D.length : Nat)) := by
            show _ = _
            unfold lnPts lnHead lnTail
            rw [← HD.out, show (2 * (L : Int)).toNat = 2 * L by omega, ← HA.out]
            simp
            omega
          have hpt' : Hid (lnPts l (L : Int) pg width = width - (2 * (L : Int) + l.length + 1) - (1 + (D.length : Int))) := by
            show _ = _
            rw [hpt.out, hAl]
            omega
          by_cases hp : 3 ≤ width - (2 * (L : Int) + l.length + 1) - (1 + (D.length : Int))
          · obtain ⟨P, hP⟩ : ∃ P : Nat, width - (2 * (L : Int) + l.length + 1) - (1 + (D.length : Int)) = (P : Int) := Int.eq_ofNat_of_zero_le (by omega)
            have et : lnOk l (L : Int) pg width = true := by rw [eb.out, hpt'.out]; exact decide_eq_true hp
            obtain ⟨H, hH⟩ : ∃ H : List UInt8, H = A ++ (l ++ [32]) := ⟨_, rfl⟩
            have hHl : Hid (H.length = 2 * L + l.length + 1) := by show _ = _; rw [hH]; simp [hAl]; omega
            have et2 : Hid (lnTxt l (L : Int) pg width = H ++ (List.replicate P 46 ++ (32 :: D))) := by
              show _ = _
              unfold lnTxt
              rw [et, if_pos rfl, hpt'.out, hP, Int.toNat_natCast]
              unfold lnHead lnTail
              rw [show (2 * (L : Int)).toNat = 2 * L by omega, ← HA.out, ← HD.out, hH]
            have hHb : Hid (bs A ++ bs l ++ (⟨#[32]⟩ : ByteArray) = bs (H ++ List.replicate 0 46)) := by
              show _ = _
              rw [show (⟨#[32]⟩ : ByteArray) = bs [32] from rfl, bs_append, bs_append, hH]
              simp
            have ET := Lib.hid et
            have hP60 : P ≤ 60 := by omega
            have HPP := Lib.hid hP
            clear et hH hP
            go_wp2
            go_loopw [6, 10] (fun o kk wr => ∃ k : Nat, k ≤ P ∧ kk = .int .i64 k ∧ o = .string (bs (H ++ List.replicate k 46)) ∧ wr = w2) (fun _ kk _ => P - (intOf kk).toNat)
            case atStart => exact ⟨0, Nat.zero_le _, rfl, by rw [hHb.out], rfl⟩
            case round =>
              obtain ⟨k, hk, rfl, rfl, rfl⟩ := hrel
              have hHl' : H.length ≤ 100 := by have := hHl.out; omega
              by_cases hlt : k < P
              · have t1 : (k : Int) < width - (2 * (L : Int) + l.length + 1) - (1 + (D.length : Int)) := by rw [HPP.out]; omega
                have t2 : ¬ 9223372036854775807 < H.length + k + 1 := by omega
                have e2 : Hid (bs (H ++ List.replicate k 46) ++ (⟨#[46]⟩ : ByteArray) = bs (H ++ List.replicate (k + 1) 46)) := by
                  show _ = _
                  rw [show (⟨#[46]⟩ : ByteArray) = bs [46] from rfl, bs_append, List.replicate_succ', List.append_assoc]
                go_wp2
                exact ⟨⟨k + 1, by omega, by go_num, by rw [e2.out], trivial⟩, by simp [intOf]; omega⟩
              · obtain rfl : k = P := by omega
                have t1 : ¬ (k : Int) < width - (2 * (L : Int) + l.length + 1) - (1 + (D.length : Int)) := by rw [HPP.out]; omega
                have t2 : ¬ 9223372036854775807 < H.length + k + (1 + D.length) := by omega
                have e2 : Hid (bs (H ++ List.replicate k 46) ++ ((⟨#[32]⟩ : ByteArray) ++ bs D) = bs (lnTxt l (L : Int) pg width)) := by
                  show _ = _
                  rw [show (⟨#[32]⟩ : ByteArray) = bs [32] from rfl, bs_append, bs_append, et2.out, List.append_assoc]
                  rfl
                go_wp2
                go_ret2
                refine ⟨?_, B2.out⟩
                show Ending.returned (.tuple #[.string (bs (H ++ List.replicate k 46) ++ ((⟨#[32]⟩ : ByteArray) ++ bs D)), .bool true]) = _
                rw [e2.out, ET.out]
          · have et : lnOk l (L : Int) pg width = false := by rw [eb.out, hpt'.out]; exact decide_eq_false hp
            have et2 : lnTxt l (L : Int) pg width = [] := by unfold lnTxt; rw [et]; rfl
            have ET := Lib.hid et
            have ET2 := Lib.hid et2
            clear et et2
            go_wp2
            go_ret2
            refine ⟨?_, B2.out⟩
            show Ending.returned (.tuple #[.string (⟨#[]⟩ : ByteArray), .bool false]) = _
            rw [ET.out, ET2.out]
end Go.Proofs.YtfallcoehmmbeaaGreatDoor

/-
  PROVED HERE: what PageText of both sides returns. Conditions: each theorem's own.
-/
import Derived.Test.YtgdiciaddhbogaaDoorNum
import Derived.Test.YtgdiciaddhbogaaDoorRomI
import Derived.Lib.AppendIntMem
import Derived.Lib.Repeat
import Derived.WalkSmall
namespace Go.Proofs.YtgdiciaddhbogaaDoor
open Go.RowKit

theorem gPow : Tryd.prog.globalNamed "internal/strconv.uint64pow10" = some 1 := by kernel_rfl
/-- The tables that the program's texts of pages are made with. -/
def PgTab (w : World) : Prop := RomTab w ∧ Lib.TabIs Tryd.prog w "internal/strconv.uint64pow10" .u64 Lib.pow10Tab
theorem PgTab.below {w w' : World} (h : PgTab w) (hb : Below w.heap.size w w') : PgTab w' := by
  refine ⟨h.1.below hb, var?_below hb gPow ?_ h.2⟩
  exact World.block_lt_of_cell? w _ (Lib.TabIs.cell h.2 gPow 0 (by decide))
def ltr (n : Int) : UInt8 := UInt8.ofNat (97 + (n - 1) % 26).toNat
def reps (n : Int) : Nat := ((n - 1) / 26 + 1).toNat
def pageT (n style : Int) : List UInt8 :=
  if inB n 1 999 = true then (if style = 1 then Lib.decDigits n.toNat else if style = 2 then romZ n else if style = 3 then List.replicate (reps n) (ltr n) else []) else []
theorem isPage_any (n : Int) (w : World) : Calls Tryd.prog 13 #[.int .i64 n] w fun e w' => e = .returned (.bool (inB n 1 999)) ∧ w = w' := by
  go_enter Tryd.func13, Tryd.ntmps13
  go_wp2_with (go_at_call 19; refine (in_any _ _ _ _).mono ?_; rintro e w' ⟨rfl, rfl⟩)
  go_ret
  exact ⟨rfl, rfl⟩

theorem enc_all : ((List.range 26).all fun m => decide (Utf8.encode (97 + ((m : Nat) : Int)) = bs [UInt8.ofNat (97 + m)])) = true := by kernel_rfl
theorem enc_ltr (n : Int) (h : 1 ≤ n) : Utf8.encode (97 + (n - 1) % 26) = bs [ltr n] := by
  obtain ⟨m, hm⟩ := Int.eq_ofNat_of_zero_le (Int.emod_nonneg (n - 1) (show (26 : Int) ≠ 0 by omega))
  have hm2 : m < 26 := by have := Int.emod_lt_of_pos (n - 1) (show (0 : Int) < 26 by omega); omega
  have := List.all_eq_true.1 enc_all m (List.mem_range.2 hm2)
  unfold ltr
  rw [hm, of_decide_eq_true this]
  congr 2
theorem repeatL_one_byte (x : UInt8) (c : Nat) : Lib.repeatL [x] c = List.replicate c x := by
  have := Lib.repeatL_replicate x 1 c
  simpa using this

set_option maxHeartbeats 2000000 in
theorem implPage_any (n style : Int) (w : World) (ht : PgTab w) : Calls Tryd.prog 6 #[.int .i64 n, .int .i64 style] w (RetT (pageT n style) w) := by
  have TAB := Lib.hid ht
  have E0 : Hid (pageT n style = if inB n 1 999 = true then (if style = 1 then Lib.decDigits n.toNat else if style = 2 then romZ n else if style = 3 then List.replicate (reps n) (ltr n) else []) else []) := rfl
  obtain ⟨T, hT⟩ : ∃ T, T = pageT n style := ⟨_, rfl⟩
  rw [← hT] at E0 ⊢
  clear hT ht
  cases hin : inB n 1 999
  · have e : T = [] := by rw [E0.out, hin]; rfl
    have E := Lib.hid e
    clear e
    go_enter Tryd.func6, Tryd.ntmps6
    go_wp2_with (go_at_call 13; refine (isPage_any _ _).mono ?_; rintro e w' ⟨rfl, rfl⟩; rw [hin])
    go_ret
    exact ⟨by rw [E.out]; rfl, Below.refl _ _⟩
  · obtain ⟨n1, n2⟩ := inB_true hin
    have HI := Lib.hid hin
    rw [hin, if_pos rfl] at E0
    clear hin
    by_cases s1 : style = 1
    · have e : T = Lib.itoa n := by
        rw [E0.out, if_pos s1]
        obtain ⟨N, rfl⟩ := Int.eq_ofNat_of_zero_le (show 0 ≤ n by omega)
        rw [Lib.itoa_nonneg]
        rfl
      have E := Lib.hid e
      subst s1
      clear e
      go_enter Tryd.func6, Tryd.ntmps6
      go_wp2_with (first | (go_at_call 13; refine (isPage_any _ _).mono ?_; rintro e w' ⟨rfl, rfl⟩; rw [HI.out]) | (go_at_call 14; refine (Tryd.strconv_Itoa n (by omega) (by omega) w TAB.out.2).mono ?_; rintro e w1 ⟨rfl, k, os, rfl⟩))
      go_ret
      exact ⟨by rw [E.out]; rfl, Lib.below_grow _ _ (Nat.le_refl _) _ _⟩
    · by_cases s2 : style = 2
      · have e : T = romZ n := by rw [E0.out, if_neg s1, if_pos s2]
        have E := Lib.hid e
        subst s2
        clear e s1
        go_enter Tryd.func6, Tryd.ntmps6
        go_wp2_with (first | (go_at_call 13; refine (isPage_any _ _).mono ?_; rintro e w' ⟨rfl, rfl⟩; rw [HI.out]) | (go_at_call 9; refine (implRoman_any n w TAB.out.1).mono ?_; rintro e w1 ⟨rfl, b1⟩))
        go_ret
        exact ⟨by rw [E.out]; rfl, by assumption⟩
      · by_cases s3 : style = 3
        · have e : T = List.replicate (reps n) (ltr n) := by rw [E0.out, if_neg s1, if_neg s2, if_pos s3]
          have E := Lib.hid e
          subst s3
          clear e s1 s2
          go_enter Tryd.func6, Tryd.ntmps6
          have RP := Tryd.strings_Repeat (bs [ltr n]) (reps n) w (by unfold reps; omega) (by have : (bs [ltr n]).size = 1 := rfl; rw [this]; unfold reps; omega)
          have he : (((reps n : Nat)) : Int) = (n - 1) / 26 + 1 := by unfold reps; omega
          rw [he, ← enc_ltr n n1] at RP
          have hx : Lib.repeatL (Utf8.encode (97 + (n - 1) % 26)).data.toList (reps n) = T := by
            rw [enc_ltr n n1, E.out]
            exact repeatL_one_byte _ _
          rw [hx] at RP
          have RP := Lib.hid RP
          clear he hx
          go_wp2_with (first | (go_at_call 13; refine (isPage_any _ _).mono ?_; rintro e w' ⟨rfl, rfl⟩; rw [HI.out]) | (go_at_call 15; refine RP.out.mono ?_; rintro e w1 ⟨rfl, b1⟩))
          go_ret
          exact ⟨rfl, by assumption⟩
        · have e : T = [] := by rw [E0.out, if_neg s1, if_neg s2, if_neg s3]
          have E := Lib.hid e
          clear e
          go_enter Tryd.func6, Tryd.ntmps6
          go_wp2_with (go_at_call 13; refine (isPage_any _ _).mono ?_; rintro e w' ⟨rfl, rfl⟩; rw [HI.out])
          go_ret
          exact ⟨by rw [E.out]; rfl, Below.refl _ _⟩

set_option maxHeartbeats 2000000 in
theorem specPage_any (n style : Int) (w : World) : Calls Tryd.prog 5 #[.int .i64 n, .int .i64 style] w (RetT (pageT n style) w) := by
  have E0 : Hid (pageT n style = if inB n 1 999 = true then (if style = 1 then Lib.decDigits n.toNat else if style = 2 then romZ n else if style = 3 then List.replicate (reps n) (ltr n) else []) else []) := rfl
  obtain ⟨T, hT⟩ : ∃ T, T = pageT n style := ⟨_, rfl⟩
  rw [← hT] at E0 ⊢
  clear hT
  cases hin : inB n 1 999
  · have e : T = [] := by rw [E0.out, hin]; rfl
    have E := Lib.hid e
    clear e
    go_enter Tryd.func5, Tryd.ntmps5
    go_wp2_with (go_at_call 10; refine (l1In_any _ _ _ _).mono ?_; rintro e w' ⟨rfl, rfl⟩; rw [hin])
    go_ret
    exact ⟨by rw [E.out]; rfl, Below.refl _ _⟩
  · obtain ⟨n1, n2⟩ := inB_true hin
    have HI := Lib.hid hin
    rw [hin, if_pos rfl] at E0
    clear hin
    by_cases s1 : style = 1
    · have e : T = Lib.decDigits n.toNat := by rw [E0.out, if_pos s1]
      have E := Lib.hid e
      subst s1
      have SN := Lib.hid (fun w => specNum_any n.toNat (by omega) w)
      have hn : ((n.toNat : Nat) : Int) = n := by omega
      rw [hn, ← E.out] at SN
      clear e hn
      go_enter Tryd.func5, Tryd.ntmps5
      go_wp2_with (first | (go_at_call 10; refine (l1In_any _ _ _ _).mono ?_; rintro e w' ⟨rfl, rfl⟩; rw [HI.out]) | (go_at_call 11; refine (SN.out _).mono ?_; rintro e w1 ⟨rfl, b1⟩))
      go_ret
      exact ⟨rfl, by assumption⟩
    · by_cases s2 : style = 2
      · have e : T = romZ n := by rw [E0.out, if_neg s1, if_pos s2]
        have E := Lib.hid e
        subst s2
        clear e s1
        go_enter Tryd.func5, Tryd.ntmps5
        go_wp2_with (first | (go_at_call 10; refine (l1In_any _ _ _ _).mono ?_; rintro e w' ⟨rfl, rfl⟩; rw [HI.out]) | (go_at_call 12; refine (specRoman_any n _).mono ?_; rintro e w1 ⟨rfl, b1⟩))
        go_ret
        exact ⟨by rw [E.out]; rfl, by assumption⟩
      · by_cases s3 : style = 3
        · have e : T = List.replicate (reps n) (ltr n) := by rw [E0.out, if_neg s1, if_neg s2, if_pos s3]
          have E := Lib.hid e
          subst s3
          obtain ⟨q, hq⟩ : ∃ q : Nat, (n - 1) / 26 = (q : Int) := Int.eq_ofNat_of_zero_le (Int.ediv_nonneg (by omega) (by omega))
          have hr : Hid (reps n = q + 1) := by show _ = _; unfold reps; omega
          have hq40 : q ≤ 40 := by omega
          have cv := fun w => conv1 w (97 + (n - 1) % 26)
          have hy : UInt8.ofNat (97 + (n - 1) % 26).toNat = ltr n := rfl
          rw [hy] at cv
          obtain ⟨y, hyy⟩ : ∃ y, y = ltr n := ⟨_, rfl⟩
          have HY := Lib.hid hyy
          rw [← hyy] at cv
          clear e s1 s2 hy hyy
          go_enter Tryd.func5, Tryd.ntmps5
          go_wp2_with (go_at_call 10; refine (l1In_any _ _ _ _).mono ?_; rintro e w' ⟨rfl, rfl⟩; rw [HI.out])
          go_loopw [5, 6] (fun o kk wr => ∃ k : Nat, k ≤ q + 1 ∧ kk = .int .i64 k ∧ o = .string (bs (List.replicate k y)) ∧ Hid (Below w.heap.size w wr)) (fun _ kk _ => q + 1 - (intOf kk).toNat)
          case atStart => exact ⟨0, by omega, rfl, rfl, Below.refl _ _⟩
          case round =>
            obtain ⟨k, hk, rfl, rfl, hb⟩ := hrel
            by_cases hlt : k ≤ q
            · have c1 : ¬ 9223372036854775807 < (List.replicate k y).length + 1 := by rw [List.length_replicate]; omega
              have c2 : ¬ 9223372036854775807 < k + 1 := by omega
              have cv1 := cv wr
              have BB := Lib.hid (hb.out.alloc hb.out.size (.cells #[.int .u8 (97 + (n - 1) % 26)] 5))
              have e2 : Hid (bs (List.replicate k y) ++ bs [y] = bs (List.replicate (k + 1) y)) := by
                show _ = _
                rw [bs_append, List.replicate_succ']
              clear hb cv
              go_wp2
              exact ⟨⟨k + 1, by omega, by go_num, by rw [e2.out], BB.out⟩, by simp [intOf]; omega⟩
            · obtain rfl : k = q + 1 := by omega
              clear cv
              go_wp2
              go_ret
              exact ⟨by rw [E.out, hr.out, ← HY.out]; rfl, hb.out⟩
        · have e : T = [] := by rw [E0.out, if_neg s1, if_neg s2, if_neg s3]
          have E := Lib.hid e
          clear e
          go_enter Tryd.func5, Tryd.ntmps5
          go_wp2_with (go_at_call 10; refine (l1In_any _ _ _ _).mono ?_; rintro e w' ⟨rfl, rfl⟩; rw [HI.out])
          go_ret
          exact ⟨by rw [E.out]; rfl, Below.refl _ _⟩
end Go.Proofs.YtgdiciaddhbogaaDoor

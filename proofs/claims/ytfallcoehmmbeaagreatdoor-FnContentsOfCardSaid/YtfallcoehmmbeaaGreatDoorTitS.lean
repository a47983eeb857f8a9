/-
  PROVED HERE: what TitleValid of the reference returns. Conditions: each theorem's own.
-/
import Derived.Test.YtfallcoehmmbeaaGreatDoorTxt
import Derived.Test.YtfallcoehmmbeaaGreatDoorTitP
set_option linter.unusedVariables false
set_option linter.unusedSimpArgs false
namespace Go.Proofs.YtfallcoehmmbeaaGreatDoor
open Go.RowKit

theorem idx_byte (l : List UInt8) (k : Nat) (hk : k < l.length) (i : Int) (hi : i = (k : Int)) (w : World) : (Instr.index 9 (.string (bs l)) (.int .i64 i)).run Tryz.prog w = .ok (.int .u8 ((l.getD k 0).toNat : Int)) w := by
  subst hi
  have hs : (bs l).size = l.length := by simp [ByteArray.size]
  rw [run_index_string w 9 (bs l) .i64 _ Tryz.underlying9, dif_pos ⟨by omega, by rw [hs]; omega⟩]
  have a := Lib.getElem_mk l k (by rw [hs]; exact hk)
  have b := getD_lt l k hk
  rw [a] at b
  have b := Option.some.inj b
  congr 3
  rw [← b]
  rfl
theorem u8_eq (c : UInt8) (n : Nat) (hn : n < 256) : (c == UInt8.ofNat n) = decide (c.toNat = n) := by
  rw [Bool.eq_iff_iff, beq_iff_eq, decide_eq_true_eq]
  constructor
  · rintro rfl
    simp
    omega
  · intro h
    rw [← h]
    simp

set_option maxHeartbeats 4000000 in
theorem specTitle_any (l : List UInt8) (lev pg : Int) (hl : l.length ≤ 1048600) (w : World) : Calls Tryz.prog 26 #[.agg #[.string (bs l), .int .i64 lev, .int .i64 pg]] w (Ret (.bool (titOk l lev pg)) w) := by
  obtain ⟨n, hn⟩ : ∃ n, n = l.length := ⟨_, rfl⟩
  have HN := Lib.hid hn
  have bad0 : Hid (∀ k, k < n → badK l k = true → titOk l lev pg = false) := by
    intro k hk hb
    have : badAny l = true := by
      cases h : badAny l
      · rw [(badAny_false l).1 h k (by rw [← hn]; exact hk)] at hb
        cases hb
      · rfl
    unfold titOk
    rw [this]
    rfl
  have fin0 : Hid ((∀ k, k < n → badK l k = false) → titOk l lev pg = (inB (n : Int) 1 40 && (!(l.getD (n - 1) 0 == 46) && (inB lev 0 4 && inB pg 1 999)))) := by
    intro h
    have : badAny l = false := (badAny_false l).2 (fun k hk => h k (by rw [hn]; exact hk))
    unfold titOk
    rw [this, hn]
    rfl
  obtain ⟨T, hT⟩ : ∃ T, T = titOk l lev pg := ⟨_, rfl⟩
  rw [← hT] at bad0 fin0 ⊢
  have hs : (bs l).size = n := by rw [hn]; simp [ByteArray.size]
  have hs2 : l.length = n := hn.symm
  have IX := Lib.hid (fun k (hk : k < n) => idx_byte l k (by rw [← hn]; exact hk))
  rw [← hn] at hl
  clear hT hn
  go_enter Tryz.func26, Tryz.ntmps26
  go_wp2
  have B0 := Lib.hid ((Below.refl w.heap.size w).alloc (Nat.le_refl _) (.cells #[.string (bs l), .int .i64 lev, .int .i64 pg] 32))
  go_loopw [3] (fun kk wr => ∃ k : Nat, k ≤ n ∧ kk = .int .i64 k ∧ Hid (∀ j, j < k → badK l j = false) ∧ wr = w.alloc (.cells #[.string (bs l), .int .i64 lev, .int .i64 pg] 32)) (fun kk _ => n - (intOf kk).toNat)
  case atStart => exact ⟨0, Nat.zero_le _, rfl, fun j h => absurd h (Nat.not_lt_zero _), rfl⟩
  case round =>
    obtain ⟨k, hk, rfl, hall, rfl⟩ := hrel
    by_cases hlt : k < n
    · have ix := IX.out k hlt (k : Int) rfl
      obtain ⟨c, hc⟩ : ∃ c, c = (l.getD k 0).toNat := ⟨_, rfl⟩
      rw [← hc] at ix
      have hpr : Hid (prB (l.getD k 0) = (decide (32 ≤ c) && decide (c ≤ 126))) := by show _ = _; unfold prB; rw [hc]
      have hsp : Hid ((l.getD k 0 == 32) = decide (c = 32)) := by
        show _ = _
        rw [hc]; exact u8_eq _ 32 (by decide)
      by_cases h1 : c < 32
      · have HT := Lib.hid (bad0.out k hlt (by unfold badK; rw [hpr.out, decide_eq_false (by omega)]; rfl))
        have h1' : (c : Int) < 32 := by omega
        clear hpr hsp hc hall
        go_wp2
        go_ret
        exact ⟨by rw [HT.out]; rfl, B0.out⟩
      · by_cases h2 : 126 < c
        · have HT := Lib.hid (bad0.out k hlt (by unfold badK; rw [hpr.out, decide_eq_true (by omega), decide_eq_false (by omega)]; rfl))
          have h1' : ¬ (c : Int) < 32 := by omega
          have h2' : (126 : Int) < c := by omega
          clear hpr hsp hc hall
          go_wp2
          go_ret
          exact ⟨by rw [HT.out]; rfl, B0.out⟩
        · have h1' : ¬ (c : Int) < 32 := by omega
          have h2' : ¬ (126 : Int) < c := by omega
          have hpt : Hid (prB (l.getD k 0) = true) := by show _ = _; rw [hpr.out, decide_eq_true (by omega), decide_eq_true (by omega)]; rfl
          by_cases h3 : c = 32
          · have h3' : (c : Int) = 32 := by omega
            have hst : Hid ((l.getD k 0 == 32) = true) := by show _ = _; rw [hsp.out]; exact decide_eq_true h3
            by_cases hk0 : k = 0
            · have HT := Lib.hid (bad0.out k hlt (by unfold badK; rw [hpt.out, hst.out, hk0]; rfl))
              subst hk0
              have ix0 : ∀ w, (Instr.index 9 (.string (bs l)) (.int .i64 0)).run Tryz.prog w = .ok (.int .u8 (c : Int)) w := ix
              clear hpr hsp hc hall hpt hst ix
              go_wp2
              go_ret
              exact ⟨by rw [HT.out]; rfl, B0.out⟩
            · have hk0' : ¬ (k : Int) = 0 := by omega
              by_cases hke : k + 1 = n
              · have HT := Lib.hid (bad0.out k hlt (by unfold badK; rw [hpt.out, hst.out, hke, ← HN.out]; simp))
                subst hke
                clear hpr hsp hc hall hpt hst
                go_wp2
                go_ret
                exact ⟨by rw [HT.out]; rfl, B0.out⟩
              · have hke' : ¬ (k : Int) = (n : Int) - 1 := by omega
                have iy := IX.out (k - 1) (by omega) ((k : Int) - 1) (by omega)
                obtain ⟨d, hd⟩ : ∃ d, d = (l.getD (k - 1) 0).toNat := ⟨_, rfl⟩
                rw [← hd] at iy
                have hsd : Hid ((l.getD (k - 1) 0 == 32) = decide (d = 32)) := by
                  show _ = _
                  rw [hd]; exact u8_eq _ 32 (by decide)
                by_cases hd3 : d = 32
                · have HT := Lib.hid (bad0.out k hlt (by unfold badK; rw [hpt.out, hst.out, hsd.out, decide_eq_true hd3]; simp))
                  have hd3' : (d : Int) = 32 := by omega
                  clear hpr hsp hc hall hpt hst hd hsd
                  go_wp2
                  go_ret
                  exact ⟨by rw [HT.out]; rfl, B0.out⟩
                · have ALL : Hid (∀ j, j < k + 1 → badK l j = false) := by
                    intro j hj
                    by_cases hjk : j < k
                    · exact hall.out j hjk
                    · obtain rfl : j = k := by omega
                      unfold badK
                      rw [hpt.out, hst.out, hsd.out, decide_eq_false hd3, ← HN.out]
                      simp [hk0, hke]
                  have hd3' : ¬ (d : Int) = 32 := by omega
                  have q1 : ((k : Int) == 0) = false := beq_eq_false_iff_ne.2 hk0'
                  have q2 : ((k : Int) == (n : Int) - 1) = false := beq_eq_false_iff_ne.2 hke'
                  have q3 : ((d : Int) == 32) = false := beq_eq_false_iff_ne.2 hd3'
                  clear hpr hsp hc hall hpt hst hd hsd
                  go_wp2
                  exact ⟨⟨k + 1, by omega, by go_num, ALL.out, trivial⟩, by simp [intOf]; omega⟩
          · have ALL : Hid (∀ j, j < k + 1 → badK l j = false) := by
              intro j hj
              by_cases hjk : j < k
              · exact hall.out j hjk
              · obtain rfl : j = k := by omega
                unfold badK
                rw [hpt.out, hsp.out, decide_eq_false h3]
                rfl
            have h3' : ¬ (c : Int) = 32 := by omega
            clear hpr hsp hc hall hpt
            go_wp2
            exact ⟨⟨k + 1, by omega, by go_num, ALL.out, trivial⟩, by simp [intOf]; omega⟩
    · obtain rfl : k = n := by omega
      have E := fin0.out hall.out
      cases hin : inB (k : Int) 1 40
      · rw [hin] at E
        have E := Lib.hid E
        clear hall bad0 fin0
        go_wp2_with (go_at_call 27; refine (l1In_any _ _ _ _).mono ?_; rintro e w' ⟨rfl, rfl⟩; rw [hin])
        go_ret
        exact ⟨by rw [E.out]; rfl, B0.out⟩
      · obtain ⟨k1, k2⟩ := inB_true hin
        have ix := IX.out (k - 1) (by omega) ((k : Int) - 1) (by omega)
        obtain ⟨c, hc⟩ : ∃ c, c = (l.getD (k - 1) 0).toNat := ⟨_, rfl⟩
        rw [← hc] at ix
        have hsp : (l.getD (k - 1) 0 == 46) = decide (c = 46) := by rw [hc]; exact u8_eq _ 46 (by decide)
        rw [hin, hsp] at E
        have E := Lib.hid E
        clear hall bad0 fin0 hsp hc
        have HIN := Lib.hid hin
        by_cases hd : c = 46
        · have hd' : (c : Int) = 46 := by omega
          go_wp2_with (go_at_call 27; refine (l1In_any _ _ _ _).mono ?_; rintro e w' ⟨rfl, rfl⟩; rw [HIN.out])
          go_ret
          exact ⟨by rw [E.out, decide_eq_true hd]; rfl, B0.out⟩
        · have hd' : ¬ (c : Int) = 46 := by omega
          cases hlv : inB lev 0 4
          · have HLV := Lib.hid hlv
            clear hlv hin
            go_wp2_with (go_at_call 27; refine (l1In_any _ _ _ _).mono ?_; rintro e w' ⟨rfl, rfl⟩; first | rw [HIN.out] | rw [HLV.out])
            go_ret
            exact ⟨by rw [E.out, decide_eq_false hd, HLV.out]; rfl, B0.out⟩
          · have HLV := Lib.hid hlv
            clear hlv hin
            go_wp2_with (go_at_call 27; refine (l1In_any _ _ _ _).mono ?_; rintro e w' ⟨rfl, rfl⟩; first | rw [HIN.out] | rw [HLV.out] | skip)
            go_ret
            exact ⟨by rw [E.out, decide_eq_false hd, HLV.out]; simp [hd'], B0.out⟩
end Go.Proofs.YtfallcoehmmbeaaGreatDoor

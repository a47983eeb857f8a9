/-
  PROVED HERE: what TitleValid of the program returns. Conditions: each theorem's own.
-/
import Derived.Test.YtfallcoehmmbeaaGreatDoorTitS
import Derived.Test.YtfallcoehmmbeaaGreatDoorShelf
import Derived.Deep.QuietTactic
import Derived.BigQuiet
set_option linter.unusedVariables false
set_option linter.unusedSimpArgs false
namespace Go.Proofs.YtfallcoehmmbeaaGreatDoor
open Go.RowKit

/-- The library's own variable holds some number. -/
def MaxTab (w : World) : Prop := ∃ m : Int, w.cell? ⟨0, 0, none⟩ = some (.int .i64 m)
theorem MaxTab.below {w w' : World} {B : Nat} (h : MaxTab w) (hb : Below B w w') (hB : w.heap.size ≤ B) : MaxTab w' := by
  obtain ⟨m, hm⟩ := h
  have := World.block_lt_of_cell? w _ hm
  exact ⟨m, (hb.cell (p := ⟨0, 0, none⟩) (Nat.lt_of_lt_of_le this hB)).trans hm⟩
theorem printed_any (c : Nat) (w : World) : Calls Tryz.prog 41 #[.int .u8 c] w fun e w' => e = .returned (.bool (decide (32 ≤ c) && decide (c ≤ 126))) ∧ w = w' := by
  by_cases h1 : 32 ≤ c
  · by_cases h2 : c ≤ 126
    · have h1' : (32 : Int) ≤ (c : Int) := by omega
      have h2' : (c : Int) ≤ 126 := by omega
      go_enter Tryz.func41, Tryz.ntmps41
      go_wp2
      go_ret
      exact ⟨by rw [decide_eq_true h1, decide_eq_true h2]; rfl, rfl⟩
    · have h1' : (32 : Int) ≤ (c : Int) := by omega
      have h2' : ¬ (c : Int) ≤ 126 := by omega
      go_enter Tryz.func41, Tryz.ntmps41
      go_wp2
      go_ret
      exact ⟨by simp, rfl⟩
  · have h1' : ¬ (32 : Int) ≤ (c : Int) := by omega
    go_enter Tryz.func41, Tryz.ntmps41
    go_wp2
    go_ret
    exact ⟨by simp, rfl⟩
theorem isPage_any (n : Int) (w : World) : Calls Tryz.prog 45 #[.int .i64 n] w fun e w' => e = .returned (.bool (inB n 1 999)) ∧ w = w' := by
  go_enter Tryz.func45, Tryz.ntmps45
  go_wp2_with (go_at_call 29; refine (in_any _ _ _ _).mono ?_; rintro e w' ⟨rfl, rfl⟩)
  go_ret
  exact ⟨rfl, rfl⟩

/-- The callees of the great test, as calls that turn nothing but the draws. -/
theorem q_in (x lo hi : Int) (w : World) (n : Nat) : Calls Tryz.prog 29 #[.int .i64 x, .int .i64 lo, .int .i64 hi] (w.drewN n) fun e w'' => e = .returned (.bool (inB x lo hi)) ∧ ∃ m, w'' = w.drewN m :=
  Calls.quiet_of_same ((in_any x lo hi _).mono fun _ _ ⟨he, hw⟩ => ⟨he, hw.symm⟩)
theorem q_page (x : Int) (w : World) (n : Nat) : Calls Tryz.prog 45 #[.int .i64 x] (w.drewN n) fun e w'' => e = .returned (.bool (inB x 1 999)) ∧ ∃ m, w'' = w.drewN m :=
  Calls.quiet_of_same ((isPage_any x _).mono fun _ _ ⟨he, hw⟩ => ⟨he, hw.symm⟩)
theorem bs_size (l : List UInt8) : (bs l).size = l.length := by simp [ByteArray.size]
theorem q_trim (l : List UInt8) (hl : l.length ≤ 1048600) (w : World) (n : Nat) : Calls Tryz.prog 42 #[.string (bs l), .string ⟨#[32]⟩] (w.drewN n) fun e w'' => e = .returned (.string (bs (Lib.trimB l 32))) ∧ ∃ m, w'' = w.drewN m :=
  Calls.quiet_of ((Tryz.strings_Trim_one (bs l) 32 (by decide) (w.drewN n) (by rw [bs_size]; omega)).mono fun _ _ ⟨he, hw⟩ => ⟨he, by rcases hw with hw | hw; exact ⟨0, hw⟩; exact ⟨1, hw⟩⟩)
theorem q_contains (l : List UInt8) (hl : l.length ≤ 1048600) (w : World) (hm : MaxTab w) (n : Nat) : Calls Tryz.prog 43 #[.string (bs l), .string ⟨#[32, 32]⟩] (w.drewN n) fun e w'' => e = .returned (.bool (Lib.contains l [32, 32])) ∧ ∃ m, w'' = w.drewN m := by
  obtain ⟨m, hm⟩ := hm
  exact Calls.quiet_of_same (Tryz.strings_Contains (bs l) ⟨#[32, 32]⟩ m (w.drewN n) (by rw [bs_size]; omega) hm)
theorem q_suffix (l : List UInt8) (hl : l.length ≤ 1048600) (w : World) (n : Nat) : Calls Tryz.prog 44 #[.string (bs l), .string ⟨#[46]⟩] (w.drewN n) fun e w'' => e = .returned (.bool (Lib.hasSuffix l [46])) ∧ ∃ m, w'' = w.drewN m :=
  Calls.quiet_of_same (Tryz.strings_HasSuffix (bs l) ⟨#[46]⟩ (w.drewN n) (by rw [bs_size]; omega))

set_option maxHeartbeats 4000000 in
theorem implTitle_any (l : List UInt8) (lev pg : Int) (hl : l.length ≤ 1048600) (w : World) (hm : MaxTab w) : Calls Tryz.prog 22 #[.agg #[.string (bs l), .int .i64 lev, .int .i64 pg]] w (Ret (.bool (titOk l lev pg)) w) := by
  obtain ⟨n, hn⟩ : ∃ n, n = l.length := ⟨_, rfl⟩
  have HN := Lib.hid hn
  have HE := Lib.hid (titOk_impl l lev pg)
  obtain ⟨T, hT⟩ : ∃ T, T = titOk l lev pg := ⟨_, rfl⟩
  rw [← hT] at HE ⊢
  have hs : (bs l).size = n := by rw [hn]; simp [bs, ByteArray.size]
  have hs2 : l.length = n := hn.symm
  have IX := Lib.hid (fun k (hk : k < n) => idx_byte l k (by rw [← hn]; exact hk))
  rw [← hn] at hl
  have HM := Lib.hid hm
  clear hT hn hm
  go_enter Tryz.func22, Tryz.ntmps22
  go_wp2
  have B0 := Lib.hid ((Below.refl w.heap.size w).alloc (Nat.le_refl _) (.cells #[.string (bs l), .int .i64 lev, .int .i64 pg] 32))
  go_loopw [7] (fun kk wr => ∃ k : Nat, k ≤ n ∧ kk = .int .i64 k ∧ Hid (∀ j, j < k → prB (l.getD j 0) = true) ∧ wr = w.alloc (.cells #[.string (bs l), .int .i64 lev, .int .i64 pg] 32)) (fun kk _ => n - (intOf kk).toNat)
  case atStart => exact ⟨0, Nat.zero_le _, rfl, fun j h => absurd h (Nat.not_lt_zero _), rfl⟩
  case round =>
    obtain ⟨k, hk, rfl, hall, rfl⟩ := hrel
    by_cases hlt : k < n
    · have ix := IX.out k hlt (k : Int) rfl
      obtain ⟨c, hc⟩ : ∃ c, c = (l.getD k 0).toNat := ⟨_, rfl⟩
      rw [← hc] at ix
      have hpr : Hid (prB (l.getD k 0) = (decide (32 ≤ c) && decide (c ≤ 126))) := by show _ = _; unfold prB; rw [hc]
      cases hp : (decide (32 ≤ c) && decide (c ≤ 126))
      · have e : T = false := by
          have : l.all prB = false := by
            rw [List.all_eq_false]
            refine ⟨l.getD k 0, List.mem_of_getElem? (getD_lt l k (by omega)), ?_⟩
            rw [hpr.out, hp]
            decide
          rw [HE.out, this]
          rfl
        have E := Lib.hid e
        have HP := Lib.hid hp
        clear e hp hc hpr hall
        go_wp2_with (go_at_call 41; refine (printed_any _ _).mono ?_; rintro e w' ⟨rfl, rfl⟩; rw [HP.out])
        go_ret
        exact ⟨by rw [E.out]; rfl, B0.out⟩
      · have ALL : Hid (∀ j, j < k + 1 → prB (l.getD j 0) = true) := by
          intro j hj
          by_cases hjk : j < k
          · exact hall.out j hjk
          · obtain rfl : j = k := by omega
            rw [hpr.out, hp]
        have HP := Lib.hid hp
        clear hp hc hpr hall
        go_wp2_with (go_at_call 41; refine (printed_any _ _).mono ?_; rintro e w' ⟨rfl, rfl⟩; rw [HP.out])
        exact ⟨⟨k + 1, by omega, by go_num, ALL.out, trivial⟩, by simp [intOf]; omega⟩
    · obtain rfl : k = n := by omega
      have e : l.all prB = true := by
        rw [List.all_eq_true]
        intro c hc
        obtain ⟨j, hj, rfl⟩ := List.getElem_of_mem hc
        have a := getD_lt l j hj
        rw [List.getElem?_eq_getElem hj] at a
        rw [Option.some.inj a]
        exact hall.out j (by omega)
      have E := HE.out
      rw [e, Bool.true_and, hs2] at E
      have HL := Lib.hid (show l.length ≤ 1048600 by omega)
      have HM2 := Lib.hid (HM.out.below B0.out (Nat.le_refl _))
      clear e hall HE
      cases hin : inB (k : Int) 1 40
      · rw [hin] at E
        have E := Lib.hid E
        go_wp2_with fail
        go_quiet (first | (go_at_call 29; exact q_in _ _ _ _ _) | (go_at_call 42; exact q_trim _ HL.out _ _) | (go_at_call 43; exact q_contains _ HL.out _ HM2.out _) | (go_at_call 44; exact q_suffix _ HL.out _ _) | (go_at_call 45; exact q_page _ _ _))
        go_wp2
        go_ret
        exact ⟨by rw [E.out]; rfl, below_drewN B0.out _⟩
      · cases htr : (Lib.trimB l 32 == l)
        · rw [hin, htr] at E
          have E := Lib.hid E
          go_wp2_with fail
          go_quiet (first | (go_at_call 29; exact q_in _ _ _ _ _) | (go_at_call 42; exact q_trim _ HL.out _ _) | (go_at_call 43; exact q_contains _ HL.out _ HM2.out _) | (go_at_call 44; exact q_suffix _ HL.out _ _) | (go_at_call 45; exact q_page _ _ _))
          go_wp2
          go_ret
          exact ⟨by rw [E.out]; rfl, below_drewN B0.out _⟩
        · cases hct : Lib.contains l [32, 32]
          · cases hsf : Lib.hasSuffix l [46]
            · cases hlv : inB lev 0 4
              · rw [hin, htr, hct, hsf, hlv] at E
                have E := Lib.hid E
                go_wp2_with fail
                go_quiet (first | (go_at_call 29; exact q_in _ _ _ _ _) | (go_at_call 42; exact q_trim _ HL.out _ _) | (go_at_call 43; exact q_contains _ HL.out _ HM2.out _) | (go_at_call 44; exact q_suffix _ HL.out _ _) | (go_at_call 45; exact q_page _ _ _))
                go_wp2
                go_ret
                exact ⟨by rw [E.out]; rfl, below_drewN B0.out _⟩
              · rw [hin, htr, hct, hsf, hlv] at E
                have E := Lib.hid E
                go_wp2_with fail
                go_quiet (first | (go_at_call 29; exact q_in _ _ _ _ _) | (go_at_call 42; exact q_trim _ HL.out _ _) | (go_at_call 43; exact q_contains _ HL.out _ HM2.out _) | (go_at_call 44; exact q_suffix _ HL.out _ _) | (go_at_call 45; exact q_page _ _ _))
                go_wp2
                go_ret
                exact ⟨by rw [E.out]; simp, below_drewN B0.out _⟩
            · rw [hin, htr, hct, hsf] at E
              have E := Lib.hid E
              go_wp2_with fail
              go_quiet (first | (go_at_call 29; exact q_in _ _ _ _ _) | (go_at_call 42; exact q_trim _ HL.out _ _) | (go_at_call 43; exact q_contains _ HL.out _ HM2.out _) | (go_at_call 44; exact q_suffix _ HL.out _ _) | (go_at_call 45; exact q_page _ _ _))
              go_wp2
              go_ret
              exact ⟨by rw [E.out]; rfl, below_drewN B0.out _⟩
          · rw [hin, htr, hct] at E
            have E := Lib.hid E
            go_wp2_with fail
            go_quiet (first | (go_at_call 29; exact q_in _ _ _ _ _) | (go_at_call 42; exact q_trim _ HL.out _ _) | (go_at_call 43; exact q_contains _ HL.out _ HM2.out _) | (go_at_call 44; exact q_suffix _ HL.out _ _) | (go_at_call 45; exact q_page _ _ _))
            go_wp2
            go_ret
            exact ⟨by rw [E.out]; rfl, below_drewN B0.out _⟩
end Go.Proofs.YtfallcoehmmbeaaGreatDoor

/-
  PROVED HERE: what the text of the law FnSheetsOf does: it returns true and turns nothing that was there. Conditions: the walk's own.
-/
import Derived.Test.YtgbbodmggbeflaaSheetQ
import Derived.Test.YtgbbodmggbeflaaSheetI
import Derived.Test.YtgbbodmggbeflaaFoldI
import Derived.Test.YtgbbodmggbeflaaDraw2
set_option linter.unusedVariables false
set_option linter.unusedSimpArgs false
namespace Go.Proofs.Ytgbbodmggbeflaa
open Go.RowKit

set_option maxHeartbeats 4000000 in
theorem fnSheetsOf_walk (a : Option Addr) (n cap : Nat) (w : World) (h : Code8 w a n cap) : Calls Try.prog 12 #[.slice a n cap] w (Ret (.bool true) w) := by
  have hn : n ≤ 9223372036854775807 := by have := h.2.1; unfold maxLen at this; omega
  by_cases hbig : 1048576 < n
  · go_enter Try.func12, Try.ntmps12
    go_wp2
    go_ret
    exact ⟨rfl, Below.refl _ _⟩
  · have H := Lib.hid h
    clear h
    go_enter Try.func12, Try.ntmps12
    go_wp2_with fail
    refine (drawSheetsOf_any a n cap w H.out).mono ?_
    rintro e w1 ⟨many, h1, h2, rfl, hb⟩
    have B1 := Lib.hid hb
    have S1 := Lib.hid (fun w => specSheets_any many w)
    have S2 := Lib.hid (fun w => implSheets_any many w)
    have hc := shC_bd many
    have FSQ := fun N hN => fold_sh many N hN
    have hlen : (shs many).length = (shC many).toNat := by unfold shs; rw [shN_len]
    have hin : 0 ≤ shC many → 0 ≤ many ∧ many ≤ 400 := fun h => by
      unfold shC at h
      split at h
      · rename_i h'
        have := inB_true h'
        omega
      · omega
    obtain ⟨xs, hxs⟩ : ∃ xs, xs = shs many := ⟨_, rfl⟩
    rw [← hxs] at S1 S2 FSQ hlen
    have CT := Lib.hid (fun w => implCount_any many w)
    obtain ⟨c, hcc⟩ : ∃ c, c = shC many := ⟨_, rfl⟩
    rw [← hcc] at CT hlen hin hc FSQ
    have HLEN := Lib.hid hlen
    clear hxs hcc hb H hlen
    go_wp2_with fail
    refine (S2.out _).mono ?_
    rintro e w2 ⟨v2, rfl, o2, b2⟩
    have R2 := Lib.hid o2.read
    have B2 := Lib.hid (below_next B1.out b2 (Nat.le_refl _))
    obtain ⟨a2, c2, rfl, hl2, _⟩ := R2.out.len
    clear o2 b2 B1
    go_wp2_with fail
    refine (S1.out _).mono ?_
    rintro e w3 ⟨v3, rfl, o3, b3⟩
    have R3 := Lib.hid o3.read
    have R23 := Lib.hid (R2.out.below b3)
    have B3 := Lib.hid (below_next B2.out b3 (Nat.le_refl _))
    clear o3 b3 R2 B2
    go_wp2_with fail
    refine (sameSheets_any _ _ xs _ R23.out R3.out).mono ?_
    rintro e w4 ⟨rfl, b4⟩
    have R4 := Lib.hid (R23.out.below b4)
    have B4 := Lib.hid (below_next B3.out b4 (Nat.le_refl _))
    clear b4 R23 R3 B3 S1 S2
    by_cases hneg : c < 0
    · have hl0 : xs.length = 0 := by rw [HLEN.out]; omega
      rw [hl0] at hl2 ⊢
      clear FSQ hin hl2 hl0
      go_wp2_with (go_at_call 16; refine (CT.out _).mono ?_)
      rintro e w5 ⟨rfl, rfl⟩
      go_wp2_with (go_at_call 18; refine (alive_any _).mono ?_)
      rintro e w6 ⟨rfl, b6⟩
      have B6 := Lib.hid (below_next B4.out b6 (Nat.le_refl _))
      clear b6
      go_wp2
      go_ret
      exact ⟨rfl, B6.out⟩
    · obtain ⟨N, rfl⟩ := Int.eq_ofNat_of_zero_le (show 0 ≤ c by omega)
      obtain ⟨m0, m1⟩ := hin (by omega)
      have E := FSQ N rfl
      have FI := Lib.hid (fun v w h => implFold_any v xs w h)
      rw [E] at FI
      have HL : Hid (((List.range (4 * N)).map fun i : Nat => zer many ((i : Int) + 1)).length = 4 * N) := by show _ = _; simp
      have HG : Hid (∀ k, k < 4 * N → ((List.range (4 * N)).map fun i : Nat => zer many ((i : Int) + 1)).getD k 0 = zer many ((k : Int) + 1)) := fun k hk => by simp [List.getD, hk]
      obtain ⟨ys, hys⟩ : ∃ ys, ys = ((List.range (4 * N)).map fun i : Nat => zer many ((i : Int) + 1)) := ⟨_, rfl⟩
      rw [← hys] at FI HL HG
      clear hys E FSQ hin
      have hN : N ≤ 100 := by omega
      clear hc
      obtain ⟨M, hM⟩ : ∃ M, M = 4 * N := ⟨_, rfl⟩
      rw [← hM] at HL HG
      have HM := Lib.hid hM
      clear hM
      go_wp2_with (go_at_call 16; refine (CT.out _).mono ?_)
      rintro e w5 ⟨rfl, rfl⟩
      go_wp2_with (go_at_call 43; refine (FI.out _ _ R4.out).mono ?_)
      rintro e w5 ⟨v5, rfl, o5, b5⟩
      have B5 := Lib.hid (below_next B4.out b5 (Nat.le_refl _))
      have I5 := IRow.of_owns o5
      obtain ⟨a5, c5, rfl, hl5, hc5⟩ := I5
      have HC := Lib.hid hc5
      rw [HL.out] at hl5 HC ⊢
      clear o5 b5 B4 R4 FI hc5
      go_wp2
      go_loopw [6] (fun i wr => ∃ k : Nat, k ≤ M ∧ i = .int .i64 k ∧ Hid (Below w.heap.size w wr) ∧ Hid (Below w5.heap.size w5 wr)) (fun i _ => M - (intOf i).toNat)
      case atStart => exact ⟨0, Nat.zero_le _, rfl, B5.out, Below.refl _ _⟩
      case round =>
        obtain ⟨k, hk, rfl, hb, hb5⟩ := hrel
        by_cases hlt : k < M
        · obtain ⟨b, off, rfl, d0⟩ := HC.out k hlt
          have d1 : wr.cell? ⟨b, off + k, none⟩ = some (.int .i64 (ys.getD k 0)) := (hb5.out.cell (p := ⟨b, off + k, none⟩) (World.block_lt_of_cell? w5 _ d0)).trans d0
          rw [HG.out k hlt] at d1
          clear d0
          by_cases hkm : (k : Int) < many
          · rw [show zer many ((k : Int) + 1) = (k : Int) + 1 by unfold zer; rw [if_neg (by omega)]] at d1
            have q1 : ¬ many ≤ (k : Int) := by omega
            go_wp2
            go_roundw
            case rel => exact ⟨k + 1, by omega, by go_num, hb.out, hb5.out⟩
            case measure => simp [intOf]; omega
          · rw [show zer many ((k : Int) + 1) = 0 by unfold zer; rw [if_pos (by omega)]] at d1
            have q1 : many ≤ (k : Int) := by omega
            go_wp2
            go_roundw
            case rel => exact ⟨k + 1, by omega, by go_num, hb.out, hb5.out⟩
            case measure => simp [intOf]; omega
        · obtain rfl : k = M := by omega
          have hM2 : Hid ((4 : Int) * (N : Int) = (k : Int)) := by show _ = _; have := HM.out; omega
          clear HC HG
          go_wp2_with (go_at_call 16; refine (CT.out _).mono ?_)
          rintro e w6 ⟨rfl, rfl⟩
          go_wp2
          go_ret
          exact ⟨by have := hM2.out; simp; omega, hb.out⟩
end Go.Proofs.Ytgbbodmggbeflaa

/-
  PROVED HERE: rows of texts are compared. Conditions: the theorem's own.
-/
import Derived.StillTailTactics
import Derived.OwnWalk
import Derived.Test.YtfallcoehmmbeaaGreatDoorStr
import Derived.BigQuiet
set_option linter.unusedVariables false
set_option linter.unusedSimpArgs false
namespace Go.Proofs.YtfallcoehmmbeaaGreatDoor
open Go.RowKit
set_option maxRecDepth 100000

set_option maxHeartbeats 1000000 in
/-- Two rows that read as the same strings are found to be equal. -/
theorem sameTexts_any (v1 v2 : Value) (xs : List ByteArray) (w : World) (h1 : SRow 1 encS w v1 xs) (h2 : SRow 1 encS w v2 xs) :
    Calls Tryz.prog 7 #[v1, v2] w (Ret (.bool true) w) := by
  by_cases h0 : xs.length = 0
  · obtain rfl : xs = [] := List.eq_nil_of_length_eq_zero h0
    obtain ⟨a, cap, rfl⟩ := h1.empty
    obtain ⟨a', cap', rfl⟩ := h2.empty
    clear h1 h2 h0
    go_enter Tryz.func7, Tryz.ntmps7
    go_wp2
    refine wp_loop_rounds 1 ?_
    rw [rounds_succ]
    go_wp2
    go_ret
    exact ⟨rfl, Below.refl _ _⟩
  · have hsz := h1.len
    obtain ⟨b, off, cap, rfl, hbl, hc⟩ := h1.pos encS_pos (by omega)
    obtain ⟨b', off', cap', rfl, hbl', hc'⟩ := h2.pos encS_pos (by omega)
    obtain ⟨n, hn⟩ : ∃ n, n = xs.length := ⟨_, rfl⟩
    rw [← hn] at hsz h0 ⊢
    have HC := Lib.hid hc
    have HC' := Lib.hid hc'
    have HN := Lib.hid hn
    clear hn hc hc' h1 h2
    go_enter Tryz.func7, Tryz.ntmps7
    go_wp2
    go_loopw [5] (fun i wr => ∃ k : Nat, k ≤ n ∧ i = .int .i64 k ∧ Below w.heap.size w wr) (fun i _ => n - (intOf i).toNat)
    case atStart => exact ⟨0, Nat.zero_le _, rfl, Below.refl _ _⟩
    case round =>
      obtain ⟨k, hk, rfl, hb⟩ := hrel
      by_cases hlt : k < n
      · have hk' : k < xs.length := by rw [← HN.out]; exact hlt
        have c := HC.out k hk' 0 _ rfl
        have c' := HC'.out k hk' 0 _ rfl
        obtain ⟨s, hs'⟩ : ∃ s, s = xs[k] := ⟨_, rfl⟩
        rw [← hs'] at c c'
        have e1 : wr.cell? ⟨b, off + k, none⟩ = some (.string s) := (hb.cell (p := ⟨b, off + k, none⟩) hbl).trans (by simpa using c)
        have e2 : wr.cell? ⟨b', off' + k, none⟩ = some (.string s) := (hb.cell (p := ⟨b', off' + k, none⟩) hbl').trans (by simpa using c')
        clear hs' c c'
        go_wp2
        go_quiet (fail)
        go_wp2
        go_roundw
        case rel => exact ⟨k + 1, by omega, by go_num, below_drewN hb _⟩
        case measure => simp [intOf]; omega
      · clear HC HC'
        go_wp2
        go_ret
        exact ⟨rfl, hb⟩

end Go.Proofs.YtfallcoehmmbeaaGreatDoor

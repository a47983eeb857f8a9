/-
  PROVED HERE: ranges: held against their marks. Conditions: each theorem's own.
-/
import Derived.Test.YtjkahdmmejmilaaDoorSpanC
import Derived.StillTailTactics
import Derived.OwnWalk
set_option linter.unusedVariables false
set_option linter.unusedSimpArgs false
namespace Go.Proofs.YtjkahdmmejmilaaDoor
open Go.RowKit

set_option maxHeartbeats 2000000 in
/-- A row that reads as its marks is found to be so. -/
theorem heldSpanS_any (v : Value) (n : Nat) (k : Int) (w : World) (h : SRow 2 encSpan w v (mkLSpan k n)) (hk : 0 ≤ k) (hk2 : k ≤ 1000000000) (hx : n ≤ 1000000000) :
    Calls Tryd.prog 19 #[v, .int .i64 k] w (Ret (.int .i64 (k + 2 * n)) w) := by
  by_cases h0 : n = 0
  · subst h0
    obtain ⟨a, cap, rfl⟩ := h.empty
    clear h hx
    go_enter Tryd.func19, Tryd.ntmps19
    go_wp2
    refine wp_loop_rounds 1 ?_
    rw [rounds_succ]
    go_wp2
    go_ret
    exact ⟨by simp, Below.refl _ _⟩
  · obtain ⟨b, off, cap, rfl, hbl, hc⟩ := h.pos encSpan_pos (by rw [mkLSpan_len]; omega)
    rw [mkLSpan_len] at ⊢
    have HC := Lib.hid hc
    clear hc h
    go_enter Tryd.func19, Tryd.ntmps19
    go_wp2
    go_loop [1, 5] (fun kk i => ∃ j : Nat, j ≤ n ∧ i = .int .i64 j ∧ kk = .int .i64 (k + 2 * j)) (fun _ i => n - (intOf i).toNat)
    case atStart => exact ⟨0, Nat.zero_le _, rfl, by simp⟩
    case round =>
      obtain ⟨j, hj, rfl, rfl⟩ := hrel
      by_cases hlt : j < n
      · have q := HC.out j (by rw [mkLSpan_len]; exact hlt)
        rw [mkLSpan_get] at q
        have c0 : w.cell? ⟨b, off + j * 2, none⟩ = some (.int .i64 (k + 2 * (j : Int))) := by simpa [mkSpan] using q 0 _ rfl
        have c1 : w.cell? ⟨b, off + j * 2 + 1, none⟩ = some (.int .i64 (k + 2 * (j : Int) + 1)) := by simpa [mkSpan] using q 1 _ rfl
        clear q
        go_wp2
        go_round
        case rel => exact ⟨j + 1, by omega, by go_num, by go_num⟩
        case measure => simp [intOf]; omega
      · obtain rfl : j = n := by omega
        go_wp2
        go_ret
        exact ⟨rfl, Below.refl _ _⟩
end Go.Proofs.YtjkahdmmejmilaaDoor

/-
  PROVED HERE: ranges: held against their marks, compared. Conditions: each theorem's own.
-/
import Derived.Test.YtnlhlgefaamdgaaSpanC
import Derived.StillTailTactics
import Derived.OwnWalk
set_option linter.unusedVariables false
set_option linter.unusedSimpArgs false
namespace Go.Proofs.Ytnlhlgefaamdgaa
open Go.RowKit

set_option maxHeartbeats 2000000 in
/-- A row that reads as its marks is found to be so. -/
theorem heldSpanS_any (v : Value) (n : Nat) (k : Int) (w : World) (h : SRow 2 encSpan w v (mkLSpan k n)) (hk : 0 ≤ k) (hk2 : k ≤ 1000000000) (hx : n ≤ 1000000000) :
    Calls Try.prog 12 #[v, .int .i64 k] w (Ret (.int .i64 (k + 2 * n)) w) := by
  by_cases h0 : n = 0
  · subst h0
    obtain ⟨a, cap, rfl⟩ := h.empty
    clear h hx
    go_enter Try.func12, Try.ntmps12
    go_wp2
    refine wp_loop_rounds 1 ?_
    rw [rounds_succ]
    go_wp2
    go_ret
    exact ⟨by simp, Below.refl _ _⟩
  · obtain ⟨b, off, cap, rfl, hbl, hc⟩ := h.pos encSpan_pos (by rw [mkLSpan_len]; omega)
    rw [mkLSpan_len] at ⊢
    have HC := Lib.hid hc
    clear hc h
    go_enter Try.func12, Try.ntmps12
    go_wp2
    go_loop [1, 5] (fun kk i => ∃ j : Nat, j ≤ n ∧ i = .int .i64 j ∧ kk = .int .i64 (k + 2 * j)) (fun _ i => n - (intOf i).toNat)
    case atStart => exact ⟨0, Nat.zero_le _, rfl, by simp⟩
    case round =>
      obtain ⟨j, hj, rfl, rfl⟩ := hrel
      by_cases hlt : j < n
      · have q := HC.out j (by rw [mkLSpan_len]; exact hlt)
        rw [mkLSpan_get] at q
        have c0 : w.cell? ⟨b, off + j * 2, none⟩ = some (.int .i64 (k + 2 * (j : Int))) := by simpa [mkSpan] using q 0 _ rfl
        have c1 : w.cell? ⟨b, off + j * 2 + 1, none⟩ = some (.int .i64 (k + 2 * (j : Int) + 1)) := by simpa [mkSpan] using q 1 _ rfl
        clear q
        go_wp2
        go_round
        case rel => exact ⟨j + 1, by omega, by go_num, by go_num⟩
        case measure => simp [intOf]; omega
      · obtain rfl : j = n := by omega
        go_wp2
        go_ret
        exact ⟨rfl, Below.refl _ _⟩

set_option maxHeartbeats 1000000 in
/-- Two rows that read alike are found to be equal. -/
theorem sameSpans_any (v1 v2 : Value) (xs : List DSpan) (w : World) (h1 : SRow 2 encSpan w v1 xs) (h2 : SRow 2 encSpan w v2 xs) :
    Calls Try.prog 14 #[v1, v2] w (Ret (.bool true) w) := by
  by_cases h0 : xs.length = 0
  · obtain rfl : xs = [] := List.eq_nil_of_length_eq_zero h0
    obtain ⟨a, cap, rfl⟩ := h1.empty
    obtain ⟨a', cap', rfl⟩ := h2.empty
    clear h1 h2 h0
    go_enter Try.func14, Try.ntmps14
    go_wp2
    refine wp_loop_rounds 1 ?_
    rw [rounds_succ]
    go_wp2
    go_ret
    exact ⟨rfl, Below.refl _ _⟩
  · have hsz : xs.length ≤ 9223372036854775807 := h1.len
    obtain ⟨b, off, cap, rfl, hbl, hc⟩ := h1.pos encSpan_pos (by omega)
    obtain ⟨b', off', cap', rfl, hbl', hc'⟩ := h2.pos encSpan_pos (by omega)
    obtain ⟨n, hn⟩ : ∃ n, n = xs.length := ⟨_, rfl⟩
    rw [← hn] at hsz h0 ⊢
    have HC := Lib.hid hc
    have HC' := Lib.hid hc'
    have HN := Lib.hid hn
    clear hn hc hc' h1 h2
    go_enter Try.func14, Try.ntmps14
    go_wp2
    go_loopw [5] (fun i wr => ∃ k : Nat, k ≤ n ∧ i = .int .i64 k ∧ Below w.heap.size w wr) (fun i _ => n - (intOf i).toNat)
    case atStart => exact ⟨0, Nat.zero_le _, rfl, Below.refl _ _⟩
    case round =>
      obtain ⟨k, hk, rfl, hb⟩ := hrel
      by_cases hlt : k < n
      · have hk' : k < xs.length := by rw [← HN.out]; exact hlt
        have q := HC.out k hk'
        have q' := HC'.out k hk'
        obtain ⟨x, hx⟩ : ∃ x, x = xs[k] := ⟨_, rfl⟩
        rw [← hx] at q q'
        have r : ∀ i u, (encSpan x)[i]? = some u → wr.cell? ⟨b, off + k * 2 + i, none⟩ = some u := fun i u hu => (hb.cell (p := ⟨b, off + k * 2 + i, none⟩) hbl).trans (q i u hu)
        have r' : ∀ i u, (encSpan x)[i]? = some u → wr.cell? ⟨b', off' + k * 2 + i, none⟩ = some u := fun i u hu => (hb.cell (p := ⟨b', off' + k * 2 + i, none⟩) hbl').trans (q' i u hu)
        have c0 : wr.cell? ⟨b, off + k * 2, none⟩ = some (.int .i64 x.f0) := by simpa using r 0 _ rfl
        have c1 : wr.cell? ⟨b, off + k * 2 + 1, none⟩ = some (.int .i64 x.f1) := by simpa using r 1 _ rfl
        have d0 : wr.cell? ⟨b', off' + k * 2, none⟩ = some (.int .i64 x.f0) := by simpa using r' 0 _ rfl
        have d1 : wr.cell? ⟨b', off' + k * 2 + 1, none⟩ = some (.int .i64 x.f1) := by simpa using r' 1 _ rfl
        clear q q' r r' hx
        go_wp2
        go_quiet (fail)
        go_wp2
        go_roundw
        case rel => exact ⟨k + 1, by omega, by go_num, below_drewN hb _⟩
        case measure => simp [intOf]; omega
      · clear HC HC'
        go_wp2
        go_ret
        exact ⟨rfl, hb⟩
end Go.Proofs.Ytnlhlgefaamdgaa

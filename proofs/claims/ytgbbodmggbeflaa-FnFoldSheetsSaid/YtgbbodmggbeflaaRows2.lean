/-
  PROVED HERE: rows of numbers: compared, marked, held against their marks. Conditions: each theorem's own.
-/
import Derived.Test.YtgbbodmggbeflaaCore
set_option linter.unusedVariables false
set_option linter.unusedSimpArgs false
namespace Go.Proofs.Ytgbbodmggbeflaa
open Go.RowKit


set_option maxHeartbeats 1000000 in
/-- Two rows that read as the same numbers are found to be equal. -/
theorem eqIntS_any (v1 v2 : Value) (xs : List Int) (w : World) (h1 : IRow w v1 xs) (h2 : IRow w v2 xs) :
    Calls Try.prog 21 #[v1, v2] w (Ret (.bool true) w) := by
  by_cases h0 : xs.length = 0
  · obtain rfl : xs = [] := List.eq_nil_of_length_eq_zero h0
    obtain ⟨a, cap, rfl⟩ := h1.empty
    obtain ⟨a', cap', rfl⟩ := h2.empty
    clear h1 h2 h0
    go_enter Try.func21, Try.ntmps21
    go_wp2
    refine wp_loop_rounds 1 ?_
    rw [rounds_succ]
    go_wp2
    go_ret
    exact ⟨rfl, Below.refl _ _⟩
  · have hsz : xs.length ≤ 9223372036854775807 := by obtain ⟨_, _, _, h, _⟩ := h1; exact h
    obtain ⟨b, off, cap, rfl, hc⟩ := h1.pos (by omega)
    obtain ⟨b', off', cap', rfl, hc'⟩ := h2.pos (by omega)
    obtain ⟨n, hn⟩ : ∃ n, n = xs.length := ⟨_, rfl⟩
    rw [← hn] at hc hc' hsz h0 ⊢
    have HC := Lib.hid hc
    have HC' := Lib.hid hc'
    clear hn hc hc' h1 h2
    go_enter Try.func21, Try.ntmps21
    go_wp2
    go_loopw [5] (fun i wr => ∃ k : Nat, k ≤ n ∧ i = .int .i64 k ∧ Below w.heap.size w wr) (fun i _ => n - (intOf i).toNat)
    case atStart => exact ⟨0, Nat.zero_le _, rfl, Below.refl _ _⟩
    case round =>
      obtain ⟨k, hk, rfl, hb⟩ := hrel
      by_cases hlt : k < n
      · obtain ⟨u, hu⟩ : ∃ u, u = xs.getD k 0 := ⟨_, rfl⟩
        have e1 : wr.cell? ⟨b, off + k, none⟩ = some (.int .i64 u) := by
          have h := HC.out k hlt
          rw [← hu] at h
          exact (hb.cell (p := ⟨b, off + k, none⟩) (World.block_lt_of_cell? w _ h)).trans h
        have e2 : wr.cell? ⟨b', off' + k, none⟩ = some (.int .i64 u) := by
          have h := HC'.out k hlt
          rw [← hu] at h
          exact (hb.cell (p := ⟨b', off' + k, none⟩) (World.block_lt_of_cell? w _ h)).trans h
        clear hu
        go_wp2
        go_quiet (fail)
        go_wp2
        go_roundw
        case rel => exact ⟨k + 1, by omega, by go_num, below_drewN hb _⟩
        case measure => simp [intOf]; omega
      · clear HC HC'
        go_wp2
        go_ret
        exact ⟨rfl, hb⟩


set_option maxHeartbeats 1000000 in
/-- Two rows that read as the same numbers are found to be equal. -/
theorem sameInts_any (v1 v2 : Value) (xs : List Int) (w : World) (h1 : IRow w v1 xs) (h2 : IRow w v2 xs) :
    Calls Try.prog 25 #[v1, v2] w (Ret (.bool true) w) := by
  by_cases h0 : xs.length = 0
  · obtain rfl : xs = [] := List.eq_nil_of_length_eq_zero h0
    obtain ⟨a, cap, rfl⟩ := h1.empty
    obtain ⟨a', cap', rfl⟩ := h2.empty
    clear h1 h2 h0
    go_enter Try.func25, Try.ntmps25
    go_wp2
    refine wp_loop_rounds 1 ?_
    rw [rounds_succ]
    go_wp2
    go_ret
    exact ⟨rfl, Below.refl _ _⟩
  · have hsz : xs.length ≤ 9223372036854775807 := by obtain ⟨_, _, _, h, _⟩ := h1; exact h
    obtain ⟨b, off, cap, rfl, hc⟩ := h1.pos (by omega)
    obtain ⟨b', off', cap', rfl, hc'⟩ := h2.pos (by omega)
    obtain ⟨n, hn⟩ : ∃ n, n = xs.length := ⟨_, rfl⟩
    rw [← hn] at hc hc' hsz h0 ⊢
    have HC := Lib.hid hc
    have HC' := Lib.hid hc'
    clear hn hc hc' h1 h2
    go_enter Try.func25, Try.ntmps25
    go_wp2
    go_loopw [5] (fun i wr => ∃ k : Nat, k ≤ n ∧ i = .int .i64 k ∧ Below w.heap.size w wr) (fun i _ => n - (intOf i).toNat)
    case atStart => exact ⟨0, Nat.zero_le _, rfl, Below.refl _ _⟩
    case round =>
      obtain ⟨k, hk, rfl, hb⟩ := hrel
      by_cases hlt : k < n
      · obtain ⟨u, hu⟩ : ∃ u, u = xs.getD k 0 := ⟨_, rfl⟩
        have e1 : wr.cell? ⟨b, off + k, none⟩ = some (.int .i64 u) := by
          have h := HC.out k hlt
          rw [← hu] at h
          exact (hb.cell (p := ⟨b, off + k, none⟩) (World.block_lt_of_cell? w _ h)).trans h
        have e2 : wr.cell? ⟨b', off' + k, none⟩ = some (.int .i64 u) := by
          have h := HC'.out k hlt
          rw [← hu] at h
          exact (hb.cell (p := ⟨b', off' + k, none⟩) (World.block_lt_of_cell? w _ h)).trans h
        clear hu
        go_wp2
        go_quiet (fail)
        go_wp2
        go_roundw
        case rel => exact ⟨k + 1, by omega, by go_num, below_drewN hb _⟩
        case measure => simp [intOf]; omega
      · clear HC HC'
        go_wp2
        go_ret
        exact ⟨rfl, hb⟩


set_option maxHeartbeats 1000000 in
/-- Marking a row that the call owns: its numbers are k, k+1 and so on; nothing else turns. -/
theorem markIntS_any (v : Value) (xs : List Int) (k : Int) (base : Nat) (w : World) (h : w.ownsRow base 3 1 v xs.length (xs.map (Value.int .i64))) (hk : 0 ≤ k) (hk2 : k ≤ 1000000000) (hx : xs.length ≤ 1000000000) :
    Calls Try.prog 22 #[v, .int .i64 k] w (MarkPost k xs.length base v w) := by
  by_cases h0 : xs.length = 0
  · obtain rfl : xs = [] := List.eq_nil_of_length_eq_zero h0
    obtain ⟨a, cap, rfl⟩ : ∃ a cap, v = .slice a 0 cap := (IRow.of_owns h).empty
    have HH := Lib.hid h
    clear h h0 hx
    go_enter Try.func22, Try.ntmps22
    go_wp2
    refine wp_loop_rounds 1 ?_
    rw [rounds_succ]
    go_wp2
    go_ret
    exact ⟨by simp, HH.out, grownBy_refl _ _⟩
  · obtain ⟨n, hn⟩ : ∃ n, n = xs.length := ⟨_, rfl⟩
    rw [← hn] at h hx h0 ⊢
    obtain ⟨g, cap, rfl⟩ : ∃ g cap, v = .slice (some ⟨g, 0, none⟩) n cap := by
      rcases h.2 with ⟨_, e⟩ | ⟨g, cap, _, e, _⟩
      · omega
      · exact ⟨g, cap, e⟩
    have HN := Lib.hid hn
    have HH := Lib.hid h
    clear h hn
    go_enter Try.func22, Try.ntmps22
    go_wp2
    go_loopw [1, 5] (fun kk i wr => ∃ j : Nat, j ≤ n ∧ i = .int .i64 j ∧ kk = .int .i64 (k + j) ∧ Hid (wr.ownsRow base 3 1 (.slice (some ⟨g, 0, none⟩) n cap) n ((iota k j ++ xs.drop j).map (Value.int .i64))) ∧ w.grownBy wr (some g)) (fun _ i _ => n - (intOf i).toNat)
    case atStart => exact ⟨0, Nat.zero_le _, rfl, by simp, HH.out, grownBy_refl _ _⟩
    case round =>
      obtain ⟨j, hj, rfl, rfl, ho, hg⟩ := hrel
      by_cases hlt : j < n
      · have e1 : ∃ u, wr.cell? ⟨g, j, none⟩ = some u := by
          have e := ho.out.cellAt j (by omega)
          exact ⟨_, e.trans (List.getElem?_eq_getElem (by simp [iota_length]; have := HN.out; omega))⟩
        obtain ⟨u, e1⟩ := e1
        have e2 := ho.out.frozenAt j
        have e3 := ho.out.stored j (.int .i64 (k + j))
        rw [← List.map_set, mark_step k xs j (by rw [← HN.out]; exact hlt)] at e3
        obtain ⟨e3, e4⟩ := e3
        have E3 := Lib.hid e3
        have E4 := Lib.hid (grownBy_trans hg e4)
        clear e3 e4 ho hg
        go_wp2
        go_roundw
        case rel => exact ⟨j + 1, by omega, by go_num, by go_num, E3.out, E4.out⟩
        case measure => simp [intOf]; omega
      · obtain rfl : j = n := by omega
        have ho2 : wr.ownsRow base 3 1 (.slice (some ⟨g, 0, none⟩) j cap) j ((iota k j).map (Value.int .i64)) := by
          have h := ho.out
          rw [List.drop_of_length_le (by rw [← HN.out]; omega), List.append_nil] at h
          exact h
        have HO := Lib.hid ho2
        have HG := Lib.hid hg
        clear ho ho2 hg
        go_wp2
        go_ret
        exact ⟨rfl, HO.out, HG.out⟩


set_option maxHeartbeats 1000000 in
/-- A row that reads as k, k+1 and so on is found to be so. -/
theorem heldIntS_any (v : Value) (n : Nat) (k : Int) (w : World) (h : IRow w v (iota k n)) (hk : 0 ≤ k) (hk2 : k ≤ 1000000000) (hx : n ≤ 1000000000) :
    Calls Try.prog 23 #[v, .int .i64 k] w (Ret (.int .i64 (k + n)) w) := by
  by_cases h0 : n = 0
  · subst h0
    obtain ⟨a, cap, rfl⟩ := h.empty
    clear h hx
    go_enter Try.func23, Try.ntmps23
    go_wp2
    refine wp_loop_rounds 1 ?_
    rw [rounds_succ]
    go_wp2
    go_ret
    exact ⟨by simp, Below.refl _ _⟩
  · obtain ⟨b, off, cap, rfl, hc⟩ := h.pos (by rw [iota_length]; omega)
    rw [iota_length] at hc ⊢
    have HC := Lib.hid hc
    clear hc h
    go_enter Try.func23, Try.ntmps23
    go_wp2
    go_loop [1, 5] (fun kk i => ∃ j : Nat, j ≤ n ∧ i = .int .i64 j ∧ kk = .int .i64 (k + j)) (fun _ i => n - (intOf i).toNat)
    case atStart => exact ⟨0, Nat.zero_le _, rfl, by simp⟩
    case round =>
      obtain ⟨j, hj, rfl, rfl⟩ := hrel
      by_cases hlt : j < n
      · have e1 : w.cell? ⟨b, off + j, none⟩ = some (.int .i64 (k + j)) := by
          have h := HC.out j hlt
          rw [iota_getD k n j hlt] at h
          exact h
        go_wp2
        go_round
        case rel => exact ⟨j + 1, by omega, by go_num, by go_num⟩
        case measure => simp [intOf]; omega
      · obtain rfl : j = n := by omega
        go_wp2
        go_ret
        exact ⟨rfl, Below.refl _ _⟩

end Go.Proofs.Ytgbbodmggbeflaa

/-
  PROVED HERE: what the text of the law FnUpSheet does: it returns true and turns nothing that was there. Conditions: the walk's own.
-/
import Derived.Test.YtgbbodmggbeflaaUp
import Derived.Test.YtgbbodmggbeflaaDrawUp
namespace Go.Proofs.Ytgbbodmggbeflaa
open Go.RowKit

set_option maxHeartbeats 2000000 in
theorem fnUpSheet_walk (a : Option Addr) (n cap : Nat) (w : World) (h : Code8 w a n cap) : Calls Try.prog 6 #[.slice a n cap] w (Ret (.bool true) w) := by
  have hn : n ≤ 9223372036854775807 := by have := h.2.1; unfold maxLen at this; omega
  by_cases hbig : 1048576 < n
  · go_enter Try.func6, Try.ntmps6
    go_wp2
    go_ret
    exact ⟨rfl, Below.refl _ _⟩
  · have H := Lib.hid h
    clear h
    go_enter Try.func6, Try.ntmps6
    go_wp2_with fail
    refine (drawUpSheet_any a n cap w H.out).mono ?_
    rintro e w1 ⟨s, c, m, s0, s1, c0, c1, m0, m1, rfl, b1⟩
    go_wp2_with fail
    refine (implUp_any s c m w1).mono ?_
    rintro e w2 ⟨v1, rfl, o1, b2⟩
    go_wp2_with fail
    refine (specUp_any s c m w2).mono ?_
    rintro e w3 ⟨v0, rfl, o0, b3⟩
    have i1 := (IRow.of_owns o1).below b3
    go_wp2_with fail
    refine (sameInts_any v1 v0 _ w3 i1 (IRow.of_owns o0)).mono ?_
    rintro e w4 ⟨rfl, b4⟩
    have j1 := i1.below b4
    have bb : Below w.heap.size w w4 := below_next (below_next (below_next b1 b2 (Nat.le_refl _)) b3 (Nat.le_refl _)) b4 (Nat.le_refl _)
    have BB := Lib.hid bb
    clear b1 b2 b3 b4 o0 o1 i1 bb
    rcases upS_cases s c m with h0 | ⟨N, hN0, hN, hok, hNc, hnext⟩
    · rw [h0] at j1
      obtain ⟨a', cap', rfl⟩ := j1.empty
      clear h0 j1
      go_wp2_with fail
      refine wp_loop_rounds 1 ?_
      rw [rounds_succ]
      go_wp2_with (go_at_call 18; refine (alive_any _).mono ?_; rintro e w5 ⟨rfl, b5⟩)
      go_ret
      exact ⟨rfl, below_next BB.out (by assumption) (Nat.le_refl _)⟩
    · rw [hN] at j1
      obtain ⟨g, off, cap', rfl, hc⟩ := j1.pos (by rw [iota_length]; omega)
      have hk := hok
      unfold upOk at hk
      obtain ⟨k1, k2, k3, k4, k5, k6⟩ := hk
      have hbd := upS_bd s c k1 (by omega) k2 k3
      obtain ⟨q1, q2⟩ := hbd
      rw [iota_length] at hc ⊢
      have hcell : ∀ j : Nat, j < N → w4.cell? ⟨g, off + j, none⟩ = some (.int .i64 (s * c + 1 + j)) := by
        intro j hj
        have h := hc j hj
        rw [iota_getD _ N j hj] at h
        exact h
      have HC := Lib.hid hcell
      have J1 := Lib.hid j1
      have HNX := Lib.hid hnext
      have HN := Lib.hid hN
      clear hc hcell j1 hnext hN hok
      have hN36 : N ≤ 36 := by omega
      go_wp2_with fail
      go_loopw [7] (fun i wr => ∃ k : Nat, 1 ≤ k ∧ k ≤ N ∧ i = .int .i64 k ∧ Below w4.heap.size w4 wr) (fun i _ => N - (intOf i).toNat)
      case atStart => exact ⟨1, Nat.le_refl _, by omega, rfl, Below.refl _ _⟩
      case round =>
        obtain ⟨k, hk1, hk, rfl, hb⟩ := hrel
        by_cases hlt : k < N
        · have e1 : wr.cell? ⟨g, off + k, none⟩ = some (.int .i64 (s * c + 1 + k)) := (hb.cell (p := ⟨g, off + k, none⟩) (World.block_lt_of_cell? w4 _ (HC.out k hlt))).trans (HC.out k hlt)
          have e2 : wr.cell? ⟨g, off + (k - 1), none⟩ = some (.int .i64 (s * c + k)) := by
            have h := (hb.cell (p := ⟨g, off + (k - 1), none⟩) (World.block_lt_of_cell? w4 _ (HC.out (k - 1) (by omega)))).trans (HC.out (k - 1) (by omega))
            rw [h]
            congr 2
            omega
          have t1 : (0 : Int) ≤ (k : Int) - 1 := by omega
          have t2 : (k : Int) - 1 < (N : Int) := by omega
          go_wp2
          go_quiet (fail)
          go_wp2
          go_roundw
          case rel => exact ⟨k + 1, by omega, by omega, by go_num, below_drewN hb _⟩
          case measure => simp [intOf]; omega
        · have hkN : k = N := by omega
          have d0 : wr.cell? ⟨g, off, none⟩ = some (.int .i64 (s * c + 1)) := by
            have h := (hb.cell (p := ⟨g, off + 0, none⟩) (World.block_lt_of_cell? w4 _ (HC.out 0 (by omega)))).trans (HC.out 0 (by omega))
            simpa using h
          have d1 : wr.cell? ⟨g, off + (N - 1), none⟩ = some (.int .i64 (s * c + N)) := by
            have h := (hb.cell (p := ⟨g, off + (N - 1), none⟩) (World.block_lt_of_cell? w4 _ (HC.out (N - 1) (by omega)))).trans (HC.out (N - 1) (by omega))
            rw [h]
            congr 2
            omega
          have D0 := Lib.hid d0
          have D1 := Lib.hid d1
          have HB := Lib.hid hb
          clear d0 d1 hkN hb
          go_wp2_with fail
          refine (implUp_any (s + 1) c m wr).mono ?_
          rintro e w6 ⟨v6, rfl, o6, b6⟩
          have f0 : w6.cell? ⟨g, off, none⟩ = some (.int .i64 (s * c + 1)) := (b6.cell (p := ⟨g, off, none⟩) (World.block_lt_of_cell? wr _ D0.out)).trans D0.out
          have f1 : w6.cell? ⟨g, off + (N - 1), none⟩ = some (.int .i64 (s * c + N)) := (b6.cell (p := ⟨g, off + (N - 1), none⟩) (World.block_lt_of_cell? wr _ D1.out)).trans D1.out
          have fin := below_next (below_next BB.out HB.out (Nat.le_refl _)) b6 (Nat.le_refl _)
          have FIN := Lib.hid fin
          have i6 := IRow.of_owns o6
          clear o6 b6 fin D0 D1
          have z1 : (N : Int) - 1 < (N : Int) := by omega
          have z0 : (0 : Int) ≤ (N : Int) - 1 := by omega
          have z2 : decide ((N : Int) ≤ c) = true := by simpa using hNc
          rcases HNX.out with ⟨hx, hm⟩ | ⟨N2, hN2, hx, hm⟩
          · rw [hx] at i6
            obtain ⟨a', cap', rfl⟩ := i6.empty
            have z3 : ((s * c + (N : Int)) == m) = true := by simpa using hm
            clear hx hm i6
            go_wp2
            go_quiet (fail)
            go_wp2
            go_ret
            exact ⟨rfl, below_drewN FIN.out _⟩
          · rw [hx] at i6
            obtain ⟨g2, off2, cap2, rfl, hc2⟩ := i6.pos (by rw [iota_length]; omega)
            rw [iota_length] at hc2 ⊢
            have f2 : w6.cell? ⟨g2, off2, none⟩ = some (.int .i64 (s * c + c + 1)) := by
              have h := hc2 0 hN2
              rw [iota_getD _ N2 0 hN2] at h
              simpa using h
            have z4 : ((N2 : Int) == 0) = false := by simp; omega
            have z5 : ((s * c + c + 1) == (s * c + (N : Int) + 1)) = true := by simp; omega
            have z6 : (0 : Int) < (N2 : Int) := by omega
            have z7 : decide ((0 : Int) < (N2 : Int)) = true := by simp; omega
            clear hx hm i6 hc2
            go_wp2
            go_quiet (fail)
            go_wp2
            go_ret
            exact ⟨rfl, below_drewN FIN.out _⟩
end Go.Proofs.Ytgbbodmggbeflaa

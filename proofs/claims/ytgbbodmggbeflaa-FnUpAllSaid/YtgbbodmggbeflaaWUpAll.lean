/-
  PROVED HERE: what the text of the law FnUpAll does: it returns true and turns nothing that was there. Conditions: the walk's own.
-/
import Derived.Test.YtgbbodmggbeflaaUp
import Derived.Test.YtgbbodmggbeflaaDrawUp
namespace Go.Proofs.Ytgbbodmggbeflaa
open Go.RowKit

theorem iota_append (a : Int) (n m : Nat) : iota a n ++ iota (a + n) m = iota a (n + m) := by
  induction m with
  | zero => simp [iota_zero]
  | succ m ih => rw [iota_succ, ← List.append_assoc, ih, ← Nat.add_assoc, iota_succ]; congr 2; omega

set_option maxHeartbeats 2000000 in
theorem fnUpAll_walk (a : Option Addr) (n cap : Nat) (w : World) (h : Code8 w a n cap) : Calls Try.prog 7 #[.slice a n cap] w (Ret (.bool true) w) := by
  have hn : n ≤ 9223372036854775807 := by have := h.2.1; unfold maxLen at this; omega
  by_cases hbig : 1048576 < n
  · go_enter Try.func7, Try.ntmps7
    go_wp2
    go_ret
    exact ⟨rfl, Below.refl _ _⟩
  · have H := Lib.hid h
    clear h
    obtain ⟨i0, hi, hz0, hz1, hz2⟩ := info_parts info_int
    go_enter Try.func7, Try.ntmps7
    go_wp2_with fail
    refine (drawUpSheet_any a n cap w H.out).mono ?_
    rintro e w1 ⟨s, c, m, s0, s1, c0, c1, m0, m1, rfl, b1⟩
    go_wp2_with fail
    refine (implUp_any s c m w1).mono ?_
    rintro e w2 ⟨v1, rfl, o1, b2⟩
    go_wp2_with fail
    refine (specUp_any s c m w2).mono ?_
    rintro e w3 ⟨v0, rfl, o0, b3⟩
    have i1 := (IRow.of_owns o1).below b3
    go_wp2_with fail
    refine (sameInts_any v1 v0 _ w3 i1 (IRow.of_owns o0)).mono ?_
    rintro e w4 ⟨rfl, b4⟩
    have bb : Below w.heap.size w w4 := below_next (below_next (below_next b1 b2 (Nat.le_refl _)) b3 (Nat.le_refl _)) b4 (Nat.le_refl _)
    have BB := Lib.hid bb
    have hws : w.heap.size ≤ w4.heap.size := bb.size
    clear b1 b2 b3 b4 o0 o1 i1 bb
    by_cases hok : 1 ≤ c ∧ c ≤ 36 ∧ 0 ≤ m ∧ m ≤ 60
    · obtain ⟨k1, k2, k3, k4⟩ := hok
      go_wp2
      go_loopw [6, 7] (fun v kk wr => ∃ k L : Nat, k ≤ 60 ∧ kk = .int .i64 k ∧ L ≤ 60 ∧ Hid ((L : Int) = min (k * c) m) ∧ Hid (wr.ownsRow w.heap.size 3 1 v L ((iota 1 L).map (Value.int .i64))) ∧ Below w.heap.size w wr)
        (fun _ kk _ => (61 - intOf kk).toNat)
      case atStart => exact ⟨0, 0, by omega, rfl, by omega, by show _ = _; omega, World.ownsRow_made _ #[] 0 hws (Nat.zero_le _) rfl, BB.out.alloc hws _⟩
      case round =>
        obtain ⟨k, L, hk, rfl, hL60, hL, ho, hb⟩ := hrel
        have p1 : 0 ≤ (k : Int) * c := Int.mul_nonneg (by omega) (by omega)
        have p2 : (k : Int) * c ≤ 36000 := Int.le_trans (Int.mul_le_mul (show (k : Int) ≤ 1000 by omega) k2 (by omega) (by omega)) (by omega)
        by_cases hlt : (k : Int) * c < m
        · have p3 : (k : Int) ≤ k * c := by have : (k : Int) * 1 ≤ k * c := Int.mul_le_mul_of_nonneg_left k1 (by omega); omega
          have hu : ∃ N : Nat, 0 < N ∧ N ≤ 36 ∧ upS k c m = iota (k * c + 1) N ∧ ((L + N : Nat) : Int) = min (((k + 1 : Nat) : Int) * c) m := by
            have hq : ((k : Int) + 1) * c = k * c + c := by rw [Int.add_mul, Int.one_mul]
            refine ⟨(min (((k : Int) + 1) * c) m - k * c).toNat, by omega, by omega, ?_, ?_⟩
            · rw [upS, if_pos (by unfold upOk; omega)]
            · have h1 : (L : Int) = _ := hL
              have hq2 : ((k + 1 : Nat) : Int) * c = k * c + c := by rw [← hq]; rfl
              omega
          obtain ⟨N, hN0, hN36, hN, hLN⟩ := hu
          have hLk : (L : Int) = k * c := by have h1 : (L : Int) = _ := hL; omega
          have HN := Lib.hid hN
          have HLN := Lib.hid hLN
          have HLk := Lib.hid hLk
          clear hN hLN hLk
          go_wp2_with fail
          refine (implUp_any k c m wr).mono ?_
          rintro e w5 ⟨v5, rfl, o5, b5⟩
          rw [HN.out, iota_length] at o5
          obtain ⟨g, cap5, rfl⟩ : ∃ g cap, v5 = .slice (some ⟨g, 0, none⟩) N cap := by
            rcases o5.2 with ⟨_, e⟩ | ⟨g, cap, _, e, _⟩
            · omega
            · exact ⟨g, cap, e⟩
          have ho5 := owns_below ho.out b5
          have hb5 := below_next hb b5 (Nat.le_refl _)
          have hcs := o5.cells (g := g) rfl
          have O5 := Lib.hid o5
          have HO5 := Lib.hid ho5
          have HC := Lib.hid hcs
          have hs5 := hb5.size
          clear o5 ho5 hcs b5 ho hb hL
          go_wp2_with (at_builtin; refine wpList_append_own _ rfl _ _ 28 rfl w.heap.size 3 i0 (.int .i64 0) 1 8 Try.underlying28 hi hz0 hz1 hz2 rfl (by decide) _ _ _ rfl HO5.out ⟨g, 0, none⟩ N cap5 ((iota (k * c + 1) N).map (Value.int .i64)) rfl (by simp [iota_length]) HC.out (by intro u hu; simp at hu; obtain ⟨z, _, rfl⟩ := hu; rfl) (by unfold maxLen; omega) (by omega) hs5 ?_; intro v' w6 hown' hgrow _)
          go_roundw
          case rel =>
            refine ⟨k + 1, L + N, by omega, by go_num, by have := HLN.out; omega, HLN.out, ?_, hb5.grown hgrow hs5 (fun j hj => (HO5.out.lt j hj).1)⟩
            show World.ownsRow _ _ _ _ _ _ _
            have e : (iota 1 (L + N)).map (Value.int .i64) = (iota 1 L).map (Value.int .i64) ++ (iota (k * c + 1) N).map (Value.int .i64) := by
              rw [← List.map_append, ← iota_append, HLk.out, Int.add_comm 1]
            rw [e]
            exact hown'
          case measure => simp [intOf]; omega
        · have hLm : (L : Int) = m := by have h1 : (L : Int) = _ := hL; omega
          have i := IRow.of_owns ho.out
          have HI := Lib.hid i
          have hLm' : ((L : Int) == m) = true := by simpa using hLm
          have HB := Lib.hid hb
          clear hL ho hLm i hb
          by_cases hL0 : L = 0
          · subst hL0
            obtain ⟨a', cap', rfl⟩ := HI.out.empty
            have hm0 : ((0 : Int) == m) = true := by simpa using hLm'
            clear hLm'
            go_wp2
            refine wp_loop_rounds 1 ?_
            rw [rounds_succ]
            go_wp2
            go_ret
            exact ⟨rfl, HB.out⟩
          · obtain ⟨g, off, cap', rfl, hc⟩ := HI.out.pos (by rw [iota_length]; omega)
            rw [iota_length] at hc ⊢
            have HC := Lib.hid hc
            clear hc
            go_wp2
            go_loop [8] (fun i => ∃ j : Nat, j ≤ L ∧ i = .int .i64 j) (fun i => L - (intOf i).toNat)
            case atStart => exact ⟨0, Nat.zero_le _, rfl⟩
            case round =>
              obtain ⟨j, hj, rfl⟩ := hrel
              by_cases hlt2 : j < L
              · have e1 : wr.cell? ⟨g, off + j, none⟩ = some (.int .i64 ((j : Int) + 1)) := by
                  have h := HC.out j hlt2
                  rw [iota_getD _ L j hlt2] at h
                  rw [h]
                  congr 2
                  omega
                go_wp2
                go_round
                case rel => exact ⟨j + 1, by omega, by go_num⟩
                case measure => simp [intOf]; omega
              · go_wp2
                go_ret
                exact ⟨rfl, HB.out⟩
    · rcases (show c < 1 ∨ (1 ≤ c ∧ 36 < c) ∨ (1 ≤ c ∧ c ≤ 36 ∧ m < 0) ∨ (1 ≤ c ∧ c ≤ 36 ∧ 0 ≤ m ∧ 60 < m) from by omega) with h | ⟨h1, h⟩ | ⟨h1, h2, h⟩ | ⟨h1, h2, h3, h⟩
      all_goals
        clear hok
        go_wp2_with (go_at_call 18; refine (alive_any _).mono ?_; rintro e w5 ⟨rfl, b5⟩)
        go_ret
        exact ⟨rfl, below_next BB.out (by assumption) (Nat.le_refl _)⟩
end Go.Proofs.Ytgbbodmggbeflaa

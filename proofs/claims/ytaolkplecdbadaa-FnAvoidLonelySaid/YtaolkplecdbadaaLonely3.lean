/-
  PROVED HERE: how many lines stand alone: what the reference returns. Conditions: each theorem's own.
-/
import Derived.Test.YtaolkplecdbadaaLonely2
namespace Go.Proofs.Ytaolkplecdbadaa
open Go.RowKit

set_option maxHeartbeats 4000000 in
theorem specLonely_any (m : Int) (v u : Value) (ps pg : List Int) (w : World) (h : IRow w v ps) (hu : IRow w u pg) :
    Calls Try.prog 20 #[.int .i64 m, v, u] w (Ret (.tuple #[.int .i64 (lonA m ps pg), .int .i64 (lonB m ps pg)]) w) := by
  have H := Lib.hid h
  have HU := Lib.hid hu
  cases b1 : inB m 0 999
  · have E := Lib.hid (lon_no (m := m) (ps := ps) (pg := pg) (by unfold lonOk; rw [b1]; rfl))
    clear h hu
    go_enter Try.func20, Try.ntmps20
    go_wp2_with (go_at_call 45; refine (l1In_any _ _ _ _).mono ?_; rintro e w' ⟨rfl, rfl⟩)
    go_ret2
    exact ⟨by rw [E.out.1, E.out.2]; rfl, Below.refl _ _⟩
  · cases b2 : endsB m ps
    · have E := Lib.hid (lon_no (m := m) (ps := ps) (pg := pg) (by unfold lonOk; rw [b1, b2]; rfl))
      clear h hu
      go_enter Try.func20, Try.ntmps20
      go_wp2_with fail
      refine (l1In_any _ _ _ _).mono ?_
      rintro e w' ⟨rfl, rfl⟩
      rw [b1]
      go_wp2_with fail
      refine (l32Ends_any m v ps _ H.out).mono ?_
      rintro e w1 ⟨rfl, q1⟩
      rw [b2]
      go_wp2
      go_ret2
      exact ⟨by rw [E.out.1, E.out.2]; rfl, q1⟩
    · cases b3 : endsB m pg
      · have E := Lib.hid (lon_no (m := m) (ps := ps) (pg := pg) (by unfold lonOk; rw [b1, b2, b3]; rfl))
        clear h hu
        go_enter Try.func20, Try.ntmps20
        go_wp2_with fail
        refine (l1In_any _ _ _ _).mono ?_
        rintro e w' ⟨rfl, rfl⟩
        rw [b1]
        go_wp2_with fail
        refine (l32Ends_any m v ps _ H.out).mono ?_
        rintro e w1 ⟨rfl, q1⟩
        rw [b2]
        go_wp2_with fail
        refine (l32Ends_any m u pg _ (HU.out.below q1)).mono ?_
        rintro e w2 ⟨rfl, q2⟩
        rw [b3]
        have Q2 := Lib.hid (below_next q1 q2 (Nat.le_refl _))
        clear q1 q2
        go_wp2
        go_ret2
        exact ⟨by rw [E.out.1, E.out.2]; rfl, Q2.out⟩
      · have E1 : Hid (lonA m ps pg = lonF pg 0 ps) := by show _ = _; unfold lonA lonOk; rw [b1, b2, b3]; rfl
        have E2 : Hid (lonB m ps pg = lonL pg 0 ps) := by show _ = _; unfold lonB lonOk; rw [b1, b2, b3]; rfl
        have hm := inB_true b1
        obtain ⟨hm1, hm2⟩ := hm
        have HP := Lib.hid (endsB_true b2).2.2
        have HB1 := Lib.hid b1
        have HB2 := Lib.hid b2
        have HB3 := Lib.hid b3
        clear b1 b2 b3
        by_cases h0 : ps.length = 0
        · obtain rfl : ps = [] := List.eq_nil_of_length_eq_zero h0
          obtain ⟨a, cap, rfl⟩ := h.empty
          have F1 : Hid (lonA m [] pg = 0) := E1.out
          have F2 : Hid (lonB m [] pg = 0) := E2.out
          clear h hu h0 HP E1 E2
          go_enter Try.func20, Try.ntmps20
          go_wp2_with fail
          refine (l1In_any _ _ _ _).mono ?_
          rintro e w' ⟨rfl, rfl⟩
          rw [HB1.out]
          go_wp2_with fail
          refine (l32Ends_any m _ [] _ H.out).mono ?_
          rintro e w1 ⟨rfl, q1⟩
          rw [HB2.out]
          go_wp2_with fail
          refine (l32Ends_any m u pg _ (HU.out.below q1)).mono ?_
          rintro e w2 ⟨rfl, q2⟩
          rw [HB3.out]
          have Q2 := Lib.hid (below_next q1 q2 (Nat.le_refl _))
          have HU2 := Lib.hid (HU.out.below Q2.out)
          clear q1 q2
          go_wp2
          refine wp_loop_rounds 1 ?_
          rw [rounds_succ]
          go_wp2
          go_ret2
          exact ⟨by rw [F1.out, F2.out]; rfl, Q2.out⟩
        · have hsz : ps.length ≤ 9223372036854775807 := by obtain ⟨_, _, _, h, _⟩ := h; exact h
          obtain ⟨b, off, cap, rfl, hc⟩ := h.pos (by omega)
          obtain ⟨n, hn⟩ : ∃ n, n = ps.length := ⟨_, rfl⟩
          have HC := Lib.hid hc
          rw [← hn] at hsz h0 H ⊢
          have HN := Lib.hid hn
          clear hn hc h hu
          go_enter Try.func20, Try.ntmps20
          go_wp2_with fail
          refine (l1In_any _ _ _ _).mono ?_
          rintro e w' ⟨rfl, rfl⟩
          rw [HB1.out]
          go_wp2_with fail
          refine (l32Ends_any m _ ps _ H.out).mono ?_
          rintro e w1 ⟨rfl, q1⟩
          rw [HB2.out]
          go_wp2_with fail
          refine (l32Ends_any m u pg _ (HU.out.below q1)).mono ?_
          rintro e w2 ⟨rfl, q2⟩
          rw [HB3.out]
          have Q2 := Lib.hid (below_next q1 q2 (Nat.le_refl _))
          have HU2 := Lib.hid (HU.out.below Q2.out)
          have hbl : b < w.heap.size := World.block_lt_of_cell? w _ (HC.out 0 (by have := HN.out; omega))
          clear q1 q2
          go_wp2
          go_loop [8, 9, 10, 11] (fun fi la fr i => ∃ (k : Nat) (f x y : Int), k ≤ n ∧ i = .int .i64 k ∧ fr = .int .i64 f ∧ fi = .int .i64 x ∧ la = .int .i64 y ∧ 0 ≤ f ∧ f ≤ 999 ∧ 0 ≤ x ∧ x ≤ k ∧ 0 ≤ y ∧ y ≤ k ∧ Hid (lonF pg 0 ps = x + lonF pg f (ps.drop k)) ∧ Hid (lonL pg 0 ps = y + lonL pg f (ps.drop k))) (fun _ _ _ i => n - (intOf i).toNat)
          case atStart => exact ⟨0, 0, 0, 0, Nat.zero_le _, rfl, rfl, rfl, rfl, by omega, by omega, by omega, by omega, by omega, by omega, by show _ = _; simp, by show _ = _; simp⟩
          case round =>
            obtain ⟨k, f, x, y, hk, rfl, rfl, rfl, rfl, hf0, hf1, hx0, hx1, hy0, hy1, hF, hL⟩ := hrel
            by_cases hlt : k < n
            · have hk' : k < ps.length := by rw [← HN.out]; exact hlt
              have hd := getD_drop hk'
              have hc : w2.cell? ⟨b, off + k, none⟩ = some (.int .i64 (ps.getD k 0)) := (Q2.out.cell (p := ⟨b, off + k, none⟩) hbl).trans (HC.out k hk')
              have hpm : ps.getD k 0 ∈ ps := by simp [List.getD, hk']
              obtain ⟨ht0, ht1⟩ := HP.out _ hpm
              obtain ⟨t, ht⟩ : ∃ t, t = ps.getD k 0 := ⟨_, rfl⟩
              rw [← ht] at hd hc ht0 ht1
              have f2 := hF.out
              have l2 := hL.out
              rw [hd, lonF_cons] at f2
              rw [hd, lonL_cons] at l2
              have F2 := Lib.hid f2
              have L2 := Lib.hid l2
              clear hd f2 l2 hF hL hpm ht
              by_cases h1 : 1 < t - f
              · cases c1 : hasB pg (f + 1) <;> cases c2 : hasB pg (t - 1)
                all_goals
                  have F3 := F2.out
                  have L3 := L2.out
                  rw [decide_eq_true h1, c1] at F3
                  rw [decide_eq_true h1, c2] at L3
                  have F4 := Lib.hid F3
                  have L4 := Lib.hid L3
                  clear F3 L3 F2 L2
                  go_wp2_with (go_at_call 47; refine (l32Has_any _ _ pg _ HU2.out).mono ?_; rintro e w' ⟨rfl, rfl⟩)
                  go_round
                  case rel => exact ⟨k + 1, t, _, _, by omega, by go_num, rfl, rfl, rfl, by omega, by omega, by omega, by omega, by omega, by omega, by show _ = _; rw [F4.out]; simp; try omega, by show _ = _; rw [L4.out]; simp; try omega⟩
                  case measure => simp [intOf]; omega
              · have F3 := F2.out
                have L3 := L2.out
                rw [decide_eq_false h1] at F3 L3
                have F4 := Lib.hid F3
                have L4 := Lib.hid L3
                clear F3 L3 F2 L2
                go_wp2
                go_round
                case rel => exact ⟨k + 1, t, _, _, by omega, by go_num, rfl, rfl, rfl, by omega, by omega, by omega, by omega, by omega, by omega, by show _ = _; rw [F4.out]; simp, by show _ = _; rw [L4.out]; simp⟩
                case measure => simp [intOf]; omega
            · have e1 : lonA m ps pg = x := by rw [E1.out, hF.out, List.drop_of_length_le (by have := HN.out; omega), lonF]; omega
              have e2 : lonB m ps pg = y := by rw [E2.out, hL.out, List.drop_of_length_le (by have := HN.out; omega), lonL]; omega
              have F1 := Lib.hid e1
              have F2 := Lib.hid e2
              clear e1 e2 hF hL HC
              go_wp2
              go_ret2
              exact ⟨by rw [F1.out, F2.out]; rfl, Q2.out⟩
end Go.Proofs.Ytaolkplecdbadaa

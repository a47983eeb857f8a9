/-
  PROVED HERE: pages without lonely lines: what the reference returns. Conditions: each theorem's own.
-/
import Derived.Test.YtaolkplecdbadaaAvoid
namespace Go.Proofs.Ytaolkplecdbadaa
open Go.RowKit Go.Maps

set_option maxHeartbeats 2000000 in
theorem l32Bad_any (n : Int) (v : Value) (xs : List Int) (w : World) (h : IRow w v xs) (hx : ∀ x ∈ xs, 0 < x ∧ x ≤ 999) : Calls Try.prog 53 #[v, .int .i64 n] w fun e w' => e = .returned (.bool (badG 0 xs n)) ∧ w = w' := by
  by_cases h0 : xs.length = 0
  · obtain rfl : xs = [] := List.eq_nil_of_length_eq_zero h0
    obtain ⟨a, cap, rfl⟩ := h.empty
    clear h h0
    go_enter Try.func53, Try.ntmps53
    go_wp2
    refine wp_loop_rounds 1 ?_
    rw [rounds_succ]
    go_wp2
    go_ret
    exact ⟨rfl, rfl⟩
  · have hsz : xs.length ≤ 9223372036854775807 := by obtain ⟨_, _, _, h, _⟩ := h; exact h
    obtain ⟨b, off, cap, rfl, hc⟩ := h.pos (by omega)
    obtain ⟨m, hm⟩ : ∃ m, m = xs.length := ⟨_, rfl⟩
    rw [← hm] at hc hsz h0 ⊢
    have HC := Lib.hid hc
    have HN := Lib.hid hm
    have HX := Lib.hid hx
    clear hm hc h hx
    go_enter Try.func53, Try.ntmps53
    go_wp2
    go_loop [5, 6] (fun fr i => ∃ (k : Nat) (f : Int), k ≤ m ∧ i = .int .i64 k ∧ fr = .int .i64 f ∧ 0 ≤ f ∧ f ≤ 999 ∧ Hid (badG 0 xs n = badG f (xs.drop k) n)) (fun _ i => m - (intOf i).toNat)
    case atStart => exact ⟨0, 0, Nat.zero_le _, rfl, rfl, by omega, by omega, rfl⟩
    case round =>
      obtain ⟨k, f, hk, rfl, rfl, hf0, hf1, ha⟩ := hrel
      by_cases hlt : k < m
      · have hk' : k < xs.length := by rw [← HN.out]; exact hlt
        have hd := getD_drop hk'
        have e1 := HC.out k hlt
        obtain ⟨ht0, ht1⟩ := HX.out (xs.getD k 0) (by simp [List.getD, hk'])
        obtain ⟨t, ht⟩ : ∃ t, t = xs.getD k 0 := ⟨_, rfl⟩
        rw [← ht] at hd e1 ht0 ht1
        have a2 := ha.out
        rw [hd, badG_cons] at a2
        have A2 := Lib.hid a2
        clear hd ht a2 ha
        by_cases h1 : 1 < t - f
        · cases c1 : (n == f + 1)
          · cases c2 : (n == t - 1)
            · have A3 : Hid (badG 0 xs n = badG t (xs.drop (k + 1)) n) := by show _ = _; rw [A2.out, c1, c2]; simp
              clear A2
              go_wp2
              go_round
              case rel => exact ⟨k + 1, t, by omega, by go_num, rfl, by omega, by omega, A3.out⟩
              case measure => simp [intOf]; omega
            · have A3 : Hid (badG 0 xs n = true) := by show _ = _; rw [A2.out, c2, decide_eq_true h1]; simp
              clear A2
              go_wp2
              go_ret
              exact ⟨by rw [A3.out]; rfl, rfl⟩
          · have A3 : Hid (badG 0 xs n = true) := by show _ = _; rw [A2.out, c1, decide_eq_true h1]; simp
            clear A2
            go_wp2
            go_ret
            exact ⟨by rw [A3.out]; rfl, rfl⟩
        · have A3 : Hid (badG 0 xs n = badG t (xs.drop (k + 1)) n) := by show _ = _; rw [A2.out, decide_eq_false h1]; simp
          clear A2
          go_wp2
          go_round
          case rel => exact ⟨k + 1, t, by omega, by go_num, rfl, by omega, by omega, A3.out⟩
          case measure => simp [intOf]; omega
      · have e : badG 0 xs n = false := by
          rw [ha.out, List.drop_of_length_le (by have := HN.out; omega)]
          rfl
        have E := Lib.hid e
        clear e ha HC
        go_wp2
        go_ret
        exact ⟨by rw [E.out]; rfl, rfl⟩

set_option maxHeartbeats 8000000 in
theorem specAvoid_any (m h : Int) (v : Value) (ps : List Int) (w : World) (hi : IRow w v ps) (hh1 : -9223372036854775808 ≤ h) (hh2 : h ≤ 9223372036854775807) :
    Calls Try.prog 25 #[.int .i64 m, v, .int .i64 h] w (OwnInts (avL m ps h) w) := by
  have H := Lib.hid hi
  have B0 := Lib.hid ((Below.refl w.heap.size w).alloc (Nat.le_refl _) (.cells #[] 3))
  have O0 := Lib.hid (World.ownsRow_made (base := w.heap.size) (e := 3) (size := 1) w #[] 0 (Nat.le_refl _) (Nat.zero_le _) rfl)
  have HI0 := Lib.hid (hi.below B0.out)
  cases b1 : inB m 0 999
  · have E := Lib.hid (avL_no (m := m) (ps := ps) (h := h) (by unfold avOk; rw [b1]; rfl))
    clear hi
    go_enter Try.func25, Try.ntmps25
    go_wp2_with fail
    refine (l1In_any _ _ _ _).mono ?_
    rintro e w' ⟨rfl, rfl⟩
    rw [b1]
    go_wp2
    go_ret
    exact ⟨_, rfl, by rw [E.out]; exact O0.out, B0.out⟩
  · cases b2 : endsB m ps
    · have E := Lib.hid (avL_no (m := m) (ps := ps) (h := h) (by unfold avOk; rw [b1, b2]; rfl))
      clear hi
      go_enter Try.func25, Try.ntmps25
      go_wp2_with fail
      refine (l1In_any _ _ _ _).mono ?_
      rintro e w' ⟨rfl, rfl⟩
      rw [b1]
      go_wp2_with fail
      refine (l32Ends_any m v ps _ HI0.out).mono ?_
      rintro e w1 ⟨rfl, q1⟩
      rw [b2]
      have BE := Lib.hid (below_next B0.out q1 (Nat.le_refl _))
      have OE := Lib.hid (owns_below O0.out q1)
      clear q1
      go_wp2
      go_ret
      exact ⟨_, rfl, by rw [E.out]; exact OE.out, BE.out⟩
    · by_cases b3 : 4 ≤ h
      · have E := Lib.hid (avL_yes (m := m) (ps := ps) (h := h) (by unfold avOk; rw [b1, b2, decide_eq_true b3]; rfl))
        have hm := inB_true b1
        obtain ⟨hm1, hm2⟩ := hm
        have HP := Lib.hid (endsB_true b2).2.2
        have hn9 : ps.length ≤ 999 := by have := asc_len 0 ps (endsB_true b2).1; have := (endsB_true b2).2.1; omega
        have HB1 := Lib.hid b1
        have HB2 := Lib.hid b2
        obtain ⟨BG, hBG⟩ : ∃ BG, BG = badG 0 ps := ⟨_, rfl⟩
        have HBG := Lib.hid hBG
        have LAW : Hid (∀ a, 0 ≤ a → a < m → a < avE BG (a + min h (m - a)) ∧ avE BG (a + min h (m - a)) ≤ a + min h (m - a) ∧ BG (avE BG (a + min h (m - a))) = false) := fun a h0 h1 => by rw [hBG]; exact avE_law b2 b3 h0 h1
        have E2 : Hid (avL m ps h = avGo BG m h m.toNat 0) := by show _ = _; rw [E.out, hBG]
        clear b1 b2 hBG E
        have hm9 : Hid (∀ x ∈ ps, 0 < x ∧ x ≤ 999) := fun x hx => by have := HP.out x hx; omega
        have BM : Hid (BG m = false) := by
          show _ = _
          cases e : BG m with
          | false => rfl
          | true =>
            rw [HBG.out] at e
            have h1 := bad_gt ps 0 m (endsB_true HB2.out).1 e
            have h2 := (endsB_true HB2.out).2.1
            omega
        have hsz : ps.length ≤ 9223372036854775807 := by obtain ⟨_, _, _, h, _⟩ := hi; exact h
        obtain ⟨i0, hi0, hz0, hz1, hz2⟩ := info_parts info_intA
        clear hn9 HP hi
        go_enter Try.func25, Try.ntmps25
        go_wp2_with fail
        refine (l1In_any _ _ _ _).mono ?_
        rintro e w' ⟨rfl, rfl⟩
        rw [HB1.out]
        go_wp2_with fail
        refine (l32Ends_any m v ps _ HI0.out).mono ?_
        rintro e w1 ⟨rfl, q1⟩
        rw [HB2.out]
        have BE := Lib.hid (below_next B0.out q1 (Nat.le_refl _))
        have OE := Lib.hid (owns_below O0.out q1)
        clear q1
        go_wp2
        go_loopw [7, 8] (fun v at' wr => ∃ (a : Int) (O : List Int) (fu L : Nat), at' = .int .i64 a ∧ 0 ≤ a ∧ a ≤ m ∧ (m - a).toNat ≤ fu ∧ (L : Int) ≤ a ∧ Hid (avL m ps h = O ++ avGo BG m h fu a) ∧ Hid (wr.ownsRow w.heap.size 3 1 v L (O.map (Value.int .i64))) ∧ Hid (Below w.heap.size w wr)) (fun _ at' _ => (m - intOf at').toNat)
        case atStart => exact ⟨0, [], m.toNat, 0, rfl, by omega, by omega, by omega, by omega, E2.out, OE.out, BE.out⟩
        case round =>
          obtain ⟨a, O, fu, L, rfl, ha0, ham, hfu, hL, hO, ho, hb⟩ := hrel
          have hws := hb.out.size
          by_cases hlt : a < m
          · obtain ⟨q1, q2, q3⟩ := LAW.out a ha0 hlt
            have hst := avGo_step BG m h fu a hlt hfu
            have hall := avE_all BG (a + min h (m - a))
            obtain ⟨e0, he0⟩ : ∃ e0, e0 = a + min h (m - a) := ⟨_, rfl⟩
            rw [← he0] at q1 q2 q3 hst hall
            obtain ⟨q, hq⟩ : ∃ q, q = avE BG e0 := ⟨_, rfl⟩
            rw [← hq] at q1 q2 q3 hst hall
            have O2 : Hid (avL m ps h = (O ++ [q]) ++ avGo BG m h (fu - 1) q) := by show _ = _; rw [hO.out, hst, List.append_assoc]; rfl
            have Q3 := Lib.hid q3
            have ALL := Lib.hid hall
            have hem : e0 ≤ m := by omega
            have hcase : (a + h < m ∧ e0 = a + h) ∨ (h ≤ 999 ∧ m ≤ a + h ∧ e0 = m) ∨ (999 < h ∧ e0 = m) := by omega
            clear hst hall hq q3 hO he0
            rcases hcase with ⟨hmin, he⟩ | ⟨hmin, hmin2, he⟩ | ⟨hmin, he⟩
            all_goals
              have e0h : e0 ≤ 999 := by omega
              go_wp2
              first | rw [show a + h = e0 by omega] | skip
              obtain ⟨wy, rfl⟩ : ∃ wy : World, wy = wr := ⟨_, rfl⟩
              have IY := Lib.hid (H.out.below hb.out)
              have hgo := fun y (_ : y = e0) => (⟨y, y, rfl, rfl, by omega, by omega⟩ : ∃ x y' : Int, Value.int .i64 y = .int .i64 x ∧ Value.int .i64 y = .int .i64 y' ∧ q ≤ x ∧ x ≤ e0)
              have HGO := Lib.hid hgo
              have HE := Lib.hid he
              clear hgo hmin he
              go_loop [10, 11] (fun b e => ∃ x y : Int, e = .int .i64 x ∧ b = .int .i64 y ∧ q ≤ x ∧ x ≤ e0) (fun _ e => (intOf e).toNat)
              case atStart => exact HGO.out _ (by have := HE.out; omega)
              case round =>
                obtain ⟨x, y, rfl, rfl, hx1, hx2⟩ := hrel
                cases hxm : (x == m)
                · cases hbx : BG x
                  · have hxq : x = q := by
                      by_cases hqx : q < x
                      · have := ALL.out x hqx hx2
                        rw [hbx] at this
                        cases this
                      · omega
                    subst hxq
                    have hbx2 : badG 0 ps x = false := by rw [← HBG.out]; exact hbx
                    have HB3 := Lib.hid hbx2
                    clear hbx2
                    go_wp2_with (first | (go_at_call 53; refine (l32Bad_any x v ps _ IY.out hm9.out).mono ?_; rintro e w' ⟨rfl, rfl⟩; rw [HB3.out]) | (at_builtin; refine append_mine _ rfl _ _ 32 rfl w.heap.size 3 i0 (.int .i64 0) 1 8 Try.underlying32 hi0 hz0 hz1 hz2 rfl (by decide) _ _ _ rfl (ho.out.alloc _) ⟨wy.heap.size, 0, none⟩ 1 1 [.int .i64 x] rfl rfl (by simpa using cells_new wy [_] _) (by intro u hu; simp at hu; subst hu; rfl) (by unfold maxLen; omega) (by omega) (by simp; omega) ?_; intro v' w5 hown' hgrow hmv))
                    have bf := (hb.out.alloc hws (.cells #[.int .i64 x] 3)).grown hgrow (by simp; omega) (fun j hj => (ho.out.lt j hj).1)
                    have own2 : w5.ownsRow w.heap.size 3 1 v' (L + 1) ((O ++ [x]).map (Value.int .i64)) := by rw [List.map_append]; exact hown'
                    clear hmv hown'
                    go_roundw
                    case rel => exact ⟨x, O ++ [x], fu - 1, L + 1, rfl, by omega, by omega, by omega, by omega, O2.out, own2, bf⟩
                    case measure => simp [intOf]; omega
                  · have hxq : q < x := by
                      by_cases hqx : q < x
                      · exact hqx
                      · obtain rfl : x = q := by omega
                        have := Q3.out
                        rw [hbx] at this
                        cases this
                    have hbx2 : badG 0 ps x = true := by rw [← HBG.out]; exact hbx
                    have HB3 := Lib.hid hbx2
                    clear hbx2
                    go_wp2_with (go_at_call 53; refine (l32Bad_any x v ps _ IY.out hm9.out).mono ?_; rintro e w' ⟨rfl, rfl⟩; rw [HB3.out])
                    go_round
                    case rel => exact ⟨x - 1, y, rfl, rfl, by omega, by omega⟩
                    case measure => simp [intOf]; omega
                · have hxq : x = q := by
                    by_cases hqx : q < x
                    · have h1 := ALL.out x hqx hx2
                      have h2 : x = m := by simpa using hxm
                      rw [h2, BM.out] at h1
                      cases h1
                    · omega
                  subst hxq
                  go_wp2_with (at_builtin; refine append_mine _ rfl _ _ 32 rfl w.heap.size 3 i0 (.int .i64 0) 1 8 Try.underlying32 hi0 hz0 hz1 hz2 rfl (by decide) _ _ _ rfl (ho.out.alloc _) ⟨wy.heap.size, 0, none⟩ 1 1 [.int .i64 x] rfl rfl (by simpa using cells_new wy [_] _) (by intro u hu; simp at hu; subst hu; rfl) (by unfold maxLen; omega) (by omega) (by simp; omega) ?_; intro v' w5 hown' hgrow hmv)
                  have bf := (hb.out.alloc hws (.cells #[.int .i64 x] 3)).grown hgrow (by simp; omega) (fun j hj => (ho.out.lt j hj).1)
                  have own2 : w5.ownsRow w.heap.size 3 1 v' (L + 1) ((O ++ [x]).map (Value.int .i64)) := by rw [List.map_append]; exact hown'
                  clear hmv hown'
                  go_roundw
                  case rel => exact ⟨x, O ++ [x], fu - 1, L + 1, rfl, by omega, by omega, by omega, by omega, O2.out, own2, bf⟩
                  case measure => simp [intOf]; omega
          · have e : avL m ps h = O := by rw [hO.out, avGo_end BG m h fu a (by omega), List.append_nil]
            have hOl : O.length = L := by have := ho.out.1; simpa using this
            have E3 := Lib.hid e
            have HOL := Lib.hid hOl
            clear e hOl hO
            go_wp2
            go_ret
            exact ⟨_, rfl, by rw [E3.out, HOL.out]; exact ho.out, hb.out⟩
      · have E := Lib.hid (avL_no (m := m) (ps := ps) (h := h) (by unfold avOk; rw [b1, b2, decide_eq_false b3]; rfl))
        have b3' : h < 4 := by omega
        clear hi b3
        go_enter Try.func25, Try.ntmps25
        go_wp2_with fail
        refine (l1In_any _ _ _ _).mono ?_
        rintro e w' ⟨rfl, rfl⟩
        rw [b1]
        go_wp2_with fail
        refine (l32Ends_any m v ps _ HI0.out).mono ?_
        rintro e w1 ⟨rfl, q1⟩
        rw [b2]
        have BE := Lib.hid (below_next B0.out q1 (Nat.le_refl _))
        have OE := Lib.hid (owns_below O0.out q1)
        clear q1
        go_wp2
        go_ret
        exact ⟨_, rfl, by rw [E.out]; exact OE.out, BE.out⟩
end Go.Proofs.Ytaolkplecdbadaa

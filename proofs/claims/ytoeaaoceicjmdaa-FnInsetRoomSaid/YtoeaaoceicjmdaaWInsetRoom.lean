/-
  PROVED HERE: what the text of the law FnInsetRoom does: it returns true and turns nothing that was there. Conditions: the walk's own.
-/
import Derived.Test.YtoeaaoceicjmdaaDrawPl
import Derived.Test.YtoeaaoceicjmdaaPlaceL3
import Derived.Test.YtoeaaoceicjmdaaRows2
namespace Go.Proofs.Ytoeaaoceicjmdaa
open Go.RowKit

theorem irow_idx {w : World} {a : Option Addr} {m cap : Nat} {L : List Int} (h : IRow w (.slice a m cap) L) (j : Nat) (hj : j < m) : ∃ b off, a = some ⟨b, off, none⟩ ∧ b < w.heap.size ∧ ∀ i, i < m → w.cell? ⟨b, off + i, none⟩ = some (.int .i64 (L.getD i 0)) := by
  have hl : m = L.length := by obtain ⟨_, _, e, _⟩ := h; injection e
  subst hl
  obtain ⟨b, off, c, e, hc⟩ := h.pos (by omega)
  injection e with e1
  exact ⟨b, off, e1, World.block_lt_of_cell? w _ (hc j hj), hc⟩
theorem irow_form {w : World} {v : Value} {L : List Int} (h : IRow w v L) : ∃ a c, v = .slice a L.length c := by
  obtain ⟨a, c, e, _⟩ := h
  exact ⟨a, c, e⟩

set_option maxRecDepth 100000 in
set_option maxHeartbeats 8000000 in
theorem fnInsetRoom_walk (a : Option Addr) (n cap : Nat) (w : World) (h : Code8 w a n cap) : Calls Try.prog 7 #[.slice a n cap] w (Ret (.bool true) w) := by
  have hn : n ≤ 9223372036854775807 := by have := h.2.1; unfold maxLen at this; omega
  by_cases hbig : 1048576 < n
  · go_enter Try.func7, Try.ntmps7
    go_wp2
    go_ret
    exact ⟨rfl, Below.refl _ _⟩
  · have H := Lib.hid h
    clear h
    obtain ⟨i0, hi, hz0, hz1, hz2⟩ := info_parts info_int
    go_enter Try.func7, Try.ntmps7
    go_wp2_with fail
    refine (drawPlaceInsets_any a n cap w H.out).mono ?_
    rintro e w1 ⟨xs, rs, v, u, hxl, hrl, rfl, ov, ou, b1⟩
    have hs1 : SRow 2 encInset w1 v xs := SRow.of_owns encInset_len rfl ov
    have hi1 : IRow w1 u rs := IRow.of_owns ou
    have hnil : NilOk u := NilOk.of_owns ou
    obtain ⟨ys, hys⟩ : ∃ ys, ys = placeXs xs rs := ⟨_, rfl⟩
    obtain ⟨bt, hbt⟩ : ∃ b, b = placeB xs rs := ⟨_, rfl⟩
    have S1 := fun w (h : SRow 2 encInset w v xs) (hr : IRow w u rs) => (hys ▸ hbt ▸ implPlace_any v u xs rs w h hr : Calls Try.prog 19 #[v, u] w (PlacePost ys bt w))
    have S2 := fun w (h : SRow 2 encInset w v xs) (hr : IRow w u rs) => (hys ▸ hbt ▸ specPlace_any v u xs rs w h hr hnil (by omega) : Calls Try.prog 17 #[v, u] w (PlacePost ys bt w))
    have C1 := Lib.hid S1
    have C2 := Lib.hid S2
    have HYS := Lib.hid hys
    have HBT := Lib.hid hbt
    clear S1 S2 hys hbt
    go_wp2_with fail
    refine (C1.out w1 hs1 hi1).mono ?_
    rintro e w2 ⟨x, rfl, ox, b2⟩
    go_wp2_with fail
    refine (C2.out w2 (hs1.below b2) (hi1.below b2)).mono ?_
    rintro e w3 ⟨y, rfl, oy, b3⟩
    go_wp2_with fail
    refine (sameInts_any x y ys w3 ((IRow.of_owns ox).below b3) (IRow.of_owns oy)).mono ?_
    rintro e w4 ⟨rfl, b4⟩
    have B4 := Lib.hid (below_next (below_next (below_next b1 b2 (Nat.le_refl _)) b3 (Nat.le_refl _)) b4 (Nat.le_refl _))
    have IX := Lib.hid (((IRow.of_owns ox).below b3).below b4)
    have IU := Lib.hid (((hi1.below b2).below b3).below b4)
    have SV := Lib.hid (((hs1.below b2).below b3).below b4)
    have hws : w.heap.size ≤ w4.heap.size := B4.out.size
    clear C1 C2 ov ou hs1 hi1 hnil ox oy b1 b2 b3 b4 H
    cases bt with
    | false =>
      go_wp2_with fail
      refine (alive_any _).mono ?_
      rintro e w5 ⟨rfl, b5⟩
      have B5 := Lib.hid (below_next B4.out b5 (Nat.le_refl _))
      clear b5
      go_wp2
      go_ret
      exact ⟨rfl, B5.out⟩
    | true =>
      have RL := Lib.hid (room_law HBT.out.symm)
      have HRB := Lib.hid (roomsB_true (place_get HBT.out.symm).2.1).2
      have hyl : ys.length ≤ 20 := by rw [HYS.out]; exact placeXs_len xs rs
      obtain ⟨ua, uc, rfl⟩ := irow_form IU.out
      obtain ⟨xa, xc, rfl⟩ := irow_form IX.out
      obtain ⟨m, hm⟩ : ∃ m, m = rs.length := ⟨_, rfl⟩
      obtain ⟨ny, hny⟩ : ∃ ny, ny = ys.length := ⟨_, rfl⟩
      have O1 := Lib.hid (World.ownsRow_made (base := w4.heap.size) (e := 3) (size := 1) w4 #[] 0 (Nat.le_refl _) (Nat.zero_le _) rfl)
      rw [← hm] at IU hrl ⊢
      rw [← hny] at IX hyl ⊢
      have HM := Lib.hid hm
      have HNY := Lib.hid hny
      clear hm hny
      go_wp2
      go_loopw [9, 10] (fun vw i wr => ∃ k : Nat, k ≤ m ∧ i = .int .i64 k ∧ Hid (wr.ownsRow w4.heap.size 3 1 vw k (((wideOf rs).take k).map (Value.int .i64))) ∧ Hid (Below w4.heap.size w4 wr)) (fun _ i _ => m - (intOf i).toNat)
      case atStart => exact ⟨0, by omega, rfl, O1.out, (Below.refl _ _).alloc (Nat.le_refl _) _⟩
      case round =>
        obtain ⟨k, hk, rfl, ho, hb⟩ := hrel
        have hsr := hb.out.size
        by_cases hlt : k < m
        · obtain ⟨b, off, rfl, hbl, hc⟩ := irow_idx IU.out k hlt
          have hr := HRB.out k
          have wt : (wideOf rs).take (k + 1) = (wideOf rs).take k ++ [min 1000 (rs.getD k 0 + 5)] := by
            rw [take_snoc_getD _ _ (by simp [wideOf]; have := HM.out; omega), wide_getD rs k (by have := HM.out; omega)]
          have c1 : wr.cell? ⟨b, off + k, none⟩ = some (.int .i64 (rs.getD k 0)) := (hb.out.cell (p := ⟨b, off + k, none⟩) hbl).trans (hc k hlt)
          obtain ⟨r, hr'⟩ : ∃ r, r = rs.getD k 0 := ⟨_, rfl⟩
          rw [← hr'] at hr c1 wt
          obtain ⟨r1, r2⟩ := hr
          have WT := Lib.hid wt
          clear hr' hc wt
          by_cases hr5 : r + 5 < 1000
          · go_wp2_with (at_builtin; refine wpList_append_own _ rfl _ _ 35 rfl w4.heap.size 3 i0 (.int .i64 0) 1 8 Try.underlying35 hi hz0 hz1 hz2 rfl (by decide) _ _ _ rfl (ho.out.alloc _) ⟨wr.heap.size, 0, none⟩ 1 1 [.int .i64 (r + 5)] rfl rfl (by simpa using cells_new wr [_] _) (by intro u hu; simp at hu; subst hu; rfl) (by unfold maxLen; omega) (by omega) (by simp; omega) ?_; intro v' w5 hown' hgrow _)
            have bf := (hb.out.alloc hsr (.cells #[.int .i64 (r + 5)] 3)).grown hgrow (by simp; omega) (fun j hj => (ho.out.lt j hj).1)
            have e5 : min 1000 (r + 5) = r + 5 := by omega
            have E5 := Lib.hid e5
            clear e5
            go_roundw
            case rel => exact ⟨k + 1, by omega, by go_num, by show World.ownsRow _ _ _ _ _ _ _; rw [WT.out, E5.out, List.map_append]; exact hown', bf⟩
            case measure => simp [intOf]; omega
          · go_wp2_with (at_builtin; refine wpList_append_own _ rfl _ _ 35 rfl w4.heap.size 3 i0 (.int .i64 0) 1 8 Try.underlying35 hi hz0 hz1 hz2 rfl (by decide) _ _ _ rfl (ho.out.alloc _) ⟨wr.heap.size, 0, none⟩ 1 1 [.int .i64 1000] rfl rfl (by simpa using cells_new wr [_] _) (by intro u hu; simp at hu; subst hu; rfl) (by unfold maxLen; omega) (by omega) (by simp; omega) ?_; intro v' w5 hown' hgrow _)
            have bf := (hb.out.alloc hsr (.cells #[.int .i64 1000] 3)).grown hgrow (by simp; omega) (fun j hj => (ho.out.lt j hj).1)
            have e5 : min 1000 (r + 5) = 1000 := by omega
            have E5 := Lib.hid e5
            clear e5
            go_roundw
            case rel => exact ⟨k + 1, by omega, by go_num, by show World.ownsRow _ _ _ _ _ _ _; rw [WT.out, E5.out, List.map_append]; exact hown', bf⟩
            case measure => simp [intOf]; omega
        · have hkm : k = m := by omega
          have iw : IRow wr u9 (wideOf rs) := by
            have h := ho.out
            rw [List.take_of_length_le (by simp [wideOf]; have := HM.out; omega)] at h
            exact IRow.of_owns h
          have C3 := implPlace_any v u9 xs (wideOf rs) wr (SV.out.below hb.out) iw
          obtain ⟨zs, hzs⟩ : ∃ zs, zs = placeXs xs (wideOf rs) := ⟨_, rfl⟩
          have rl := RL.out
          rw [← HYS.out] at rl
          rw [rl.1, ← hzs] at C3
          rw [← hzs] at rl
          have RZ := Lib.hid rl.2.2
          have hzl : zs.length = ny := by rw [rl.2.1]; exact HNY.out.symm
          have C4 := Lib.hid C3
          have B5 := Lib.hid (below_next B4.out hb.out (Nat.le_refl _))
          have IX5 := Lib.hid (IX.out.below hb.out)
          have HZL := Lib.hid hzl
          clear C3 iw ho hb hzs rl hkm hzl
          go_wp2_with fail
          refine C4.out.mono ?_
          rintro e w6 ⟨z, rfl, oz, b6⟩
          have IZ := Lib.hid (IRow.of_owns oz)
          have IX6 := Lib.hid (IX5.out.below b6)
          have B6 := Lib.hid (below_next B5.out b6 (Nat.le_refl _))
          obtain ⟨za, zc, rfl⟩ := irow_form IZ.out
          clear oz b6 C4 B5 IX5
          rw [HZL.out] at IZ ⊢
          go_wp2
          go_loopw [13] (fun i wr => ∃ j : Nat, j ≤ ny ∧ i = .int .i64 j ∧ Hid (Below w6.heap.size w6 wr)) (fun i _ => ny - (intOf i).toNat)
          case atStart => exact ⟨0, Nat.zero_le _, rfl, Below.refl _ _⟩
          case round =>
            obtain ⟨j, hj, rfl, hb⟩ := hrel
            by_cases hlj : j < ny
            · obtain ⟨bz, oz, rfl, hzb, hcz⟩ := irow_idx IZ.out j hlj
              obtain ⟨bx, ox, rfl, hxb, hcx⟩ := irow_idx IX6.out j hlj
              have cz : wr.cell? ⟨bz, oz + j, none⟩ = some (.int .i64 (zs.getD j 0)) := (hb.out.cell (p := ⟨bz, oz + j, none⟩) hzb).trans (hcz j hlj)
              have cx : wr.cell? ⟨bx, ox + j, none⟩ = some (.int .i64 (ys.getD j 0)) := (hb.out.cell (p := ⟨bx, ox + j, none⟩) hxb).trans (hcx j hlj)
              have le := RZ.out j
              obtain ⟨p, hp⟩ : ∃ p, p = zs.getD j 0 := ⟨_, rfl⟩
              obtain ⟨q, hq⟩ : ∃ q, q = ys.getD j 0 := ⟨_, rfl⟩
              rw [← hp] at cz le
              rw [← hq] at cx le
              have HB := Lib.hid hb.out
              have g1 : decide (q < p) = false := decide_eq_false (by omega)
              have g2 : decide (ny ≤ j) = false := decide_eq_false (by omega)
              clear hp hq hcz hcx hb
              go_wp2_with fail
              go_quiet (fail)
              go_wp2
              go_roundw
              case rel => exact ⟨j + 1, by omega, by go_num, below_drewN HB.out _⟩
              case measure => simp [intOf]; omega
            · go_wp2
              go_ret
              exact ⟨by simp, below_next B6.out hb.out (Nat.le_refl _)⟩
end Go.Proofs.Ytoeaaoceicjmdaa

/-
  PROVED HERE: what the reference's PlaceInsets does where pages have rooms. Conditions: each theorem's own.
-/
import Derived.Test.YtoeaaoceicjmdaaPlaceS
namespace Go.Proofs.Ytoeaaoceicjmdaa
open Go.RowKit

set_option maxHeartbeats 8000000 in
theorem specPlace_pos (v : Value) (br offr cc : Nat) (xs : List DInset) (rs : List Int) (w : World) (h : SRow 2 encInset w v xs) (hr : IRow w (.slice (some ⟨br, offr, none⟩) rs.length cc) rs) (hm : 0 < rs.length) (hmx : rs.length ≤ 1048576) :
    Calls Try.prog 17 #[v, .slice (some ⟨br, offr, none⟩) rs.length cc] w (PlacePost (placeXs xs rs) (placeB xs rs) w) := by
  have H := Lib.hid h
  obtain ⟨i0, hi, hz0, hz1, hz2⟩ := info_parts info_int
  have hrc : ∀ j, j < rs.length → w.cell? ⟨br, offr + j, none⟩ = some (.int .i64 (rs.getD j 0)) := by
    obtain ⟨b', o', c', e, hc⟩ := hr.pos hm
    injection e with e1
    injection e1 with e1
    injection e1 with e1 e2
    subst e1 e2
    exact hc
  have hbr0 : br < w.heap.size := World.block_lt_of_cell? w _ (hrc 0 hm)
  have o1 : ((w.alloc (.cells #[] 3)).alloc (.cells #[] 3)).ownsRow (w.heap.size + 1) 3 1 (.slice (some ⟨w.heap.size + 1, 0, none⟩) 0 0) 0 [] := by
    have e := World.ownsRow_made (base := w.heap.size + 1) (e := 3) (size := 1) (w.alloc (.cells #[] 3)) #[] 0 (by simp) (Nat.zero_le _) rfl
    simpa using e
  have o0 : ((w.alloc (.cells #[] 3)).alloc (.cells #[] 3)).ownsRow w.heap.size 3 1 (.slice (some ⟨w.heap.size, 0, none⟩) 0 0) 0 [] := (World.ownsRow_made (base := w.heap.size) (e := 3) (size := 1) w #[] 0 (Nat.le_refl _) (Nat.zero_le _) rfl).alloc _
  have b0 : Below w.heap.size w ((w.alloc (.cells #[] 3)).alloc (.cells #[] 3)) := ((Below.refl _ _).alloc (Nat.le_refl _) _).alloc (by simp) _
  have hnews : ∀ j u, (rs.map (Value.int .i64))[j]? = some u → ((w.alloc (.cells #[] 3)).alloc (.cells #[] 3)).cell? ((⟨br, offr, none⟩ : Addr).add j) = some u := by
    intro j u hu
    obtain ⟨x, hx, rfl⟩ : ∃ x, rs[j]? = some x ∧ .int .i64 x = u := by simpa using hu
    have hj : j < rs.length := (List.getElem?_eq_some_iff.1 hx).1
    have e : ((⟨br, offr, none⟩ : Addr).add j) = ⟨br, offr + j, none⟩ := by unfold Addr.add; split <;> simp_all
    rw [e, b0.cell (p := ⟨br, offr + j, none⟩) hbr0, hrc j hj]
    simp [List.getD, hx]
  obtain ⟨m, hm2⟩ : ∃ m, m = rs.length := ⟨_, rfl⟩
  have HM := Lib.hid hm2
  have HRC := Lib.hid hrc
  have HNW := Lib.hid hnews
  have O1 := Lib.hid o1
  have O0 := Lib.hid o0
  have B0 := Lib.hid b0
  clear o1 o0 b0 h hr hrc hnews
  rw [← hm2] at hm hmx ⊢
  clear hm2
  go_enter Try.func17, Try.ntmps17
  go_wp2_with (at_builtin; refine append_mine _ rfl _ _ 35 rfl (w.heap.size + 1) 3 i0 (.int .i64 0) 1 8 Try.underlying35 hi hz0 hz1 hz2 rfl (by decide) (.slice (some ⟨w.heap.size + 1, 0, none⟩) 0 0) 0 [] rfl O1.out ⟨br, offr, none⟩ m cc (rs.map (Value.int .i64)) rfl (by rw [List.length_map, HM.out]; simp) HNW.out (by intro u hu; obtain ⟨x, _, rfl⟩ := List.mem_map.1 hu; rfl) (by unfold maxLen; omega) (by omega) (by simp) ?_; intro VL w1 hown' hgrow hmv)
  have bW : Below w.heap.size w w1 := B0.out.grown hgrow (by have := B0.out.size; omega) (fun j hj => by cases hj; exact Nat.le_succ _)
  have oW : w1.ownsRow w.heap.size 3 1 (.slice (some ⟨w.heap.size, 0, none⟩) 0 0) 0 [] := O0.out.kept hgrow (.inr (by simp [Value.ownBlock]))
  have oL : w1.ownsRow (w.heap.size + 1) 3 1 VL m (rs.map (Value.int .i64)) := by simpa using hown'
  obtain ⟨g, cl, rfl, hgb⟩ : ∃ g cl, VL = .slice (some ⟨g, 0, none⟩) m cl ∧ w.heap.size < g := by
    rcases oL.2 with ⟨_, e⟩ | ⟨g, cap, _, e, hb, _⟩
    · omega
    · exact ⟨g, cap, e, hb⟩
  have BW := Lib.hid bW
  have OW := Lib.hid oW
  have OL := Lib.hid (World.ownsRow.mono oL (Nat.le_succ _))
  clear bW oW B0 O0 O1 hown' hgrow hmv HNW oL
  refine (specInsetsValid_any v xs _ (H.out.below BW.out)).mono ?_
  rintro e w2 ⟨rfl, b2⟩
  have B2 := Lib.hid (below_next BW.out b2 (Nat.le_refl _))
  have O2 := Lib.hid (owns_below OW.out b2)
  have OL2 := Lib.hid (owns_below OL.out b2)
  have hs2 : SRow 2 encInset w2 v xs := H.out.below B2.out
  have hg2 : g < w2.heap.size := (OL2.out.lt g rfl).2
  clear b2 BW OW OL
  cases hv : insB xs
  · have E := Lib.hid (place_none (rs := rs) (fun h => by rw [hv] at h; exact absurd h.1 (by decide) : ¬ (insB xs = true ∧ roomsB rs = true)))
    clear hv hs2
    go_wp2
    go_ret2
    rw [E.out.1, E.out.2]
    exact ⟨_, rfl, O2.out, B2.out⟩
  · by_cases hm20 : 20 < m
    · have E := Lib.hid (place_none (xs := xs) (rs := rs) (fun h => by have := (roomsB_true h.2).1; have := HM.out; omega))
      clear hv hs2
      go_wp2
      go_ret2
      rw [E.out.1, E.out.2]
      exact ⟨_, rfl, O2.out, B2.out⟩
    · have HV := Lib.hid hv
      have HS2 := Lib.hid hs2
      clear hv hs2
      go_wp2
      go_loop [8] (fun i => ∃ k : Nat, k ≤ m ∧ i = .int .i64 k ∧ Hid (∀ j, j < k → inB (rs.getD j 0) 0 1000 = true)) (fun i => m - (intOf i).toNat)
      case atStart => exact ⟨0, Nat.zero_le _, rfl, fun j hj => absurd hj (Nat.not_lt_zero _)⟩
      case round =>
        obtain ⟨k, hk, rfl, hall⟩ := hrel
        by_cases hlt : k < m
        · obtain ⟨u, hu⟩ : ∃ u, u = rs.getD k 0 := ⟨_, rfl⟩
          have c1 : w2.cell? ⟨br, offr + k, none⟩ = some (.int .i64 u) := by
            rw [hu, ← HRC.out k (by have := HM.out; omega)]
            exact B2.out.cell (p := ⟨br, offr + k, none⟩) hbr0
          have HU := Lib.hid hu
          clear hu
          cases hb : inB u 0 1000
          · have E := Lib.hid (place_none (xs := xs) (rs := rs) (fun h => by
              have := (roomsB_true h.2).2 k
              rw [← HU.out] at this
              rw [inB_yes this.1 this.2] at hb
              cases hb))
            clear hall
            go_wp2_with fail
            refine (l1In_any _ _ _ _).mono ?_
            rintro e w' ⟨rfl, rfl⟩
            rw [hb]
            go_wp2
            go_ret2
            rw [E.out.1, E.out.2]
            exact ⟨_, rfl, O2.out, B2.out⟩
          · have hall2 : Hid (∀ j, j < k + 1 → inB (rs.getD j 0) 0 1000 = true) := by
              intro j hj
              by_cases hjk : j < k
              · exact hall.out j hjk
              · obtain rfl : j = k := by omega
                rw [← HU.out, hb]
            clear hall
            go_wp2_with fail
            refine (l1In_any _ _ _ _).mono ?_
            rintro e w' ⟨rfl, rfl⟩
            rw [hb]
            go_wp2
            go_round
            case rel => exact ⟨k + 1, by omega, by go_num, hall2⟩
            case measure => simp [intOf]; omega
        · have hq : roomsB rs = true := by
            unfold roomsB
            rw [Bool.and_eq_true]
            refine ⟨decide_eq_true (by have := HM.out; omega), List.all_eq_true.2 fun y hy => ?_⟩
            obtain ⟨j, hj, rfl⟩ := List.getElem_of_mem hy
            have := hall.out j (by have := HM.out; omega)
            simpa [List.getD, hj] using this
          have HP := Lib.hid (show placeO xs rs = insGo xs 0 rs [] by unfold placeO; rw [if_pos ⟨HV.out, hq⟩])
          have HRB := Lib.hid (roomsB_true hq).2
          have HXB := Lib.hid (insB_true HV.out).2
          have hxl : xs.length ≤ 20 := (insB_true HV.out).1
          clear hall hq HV
          by_cases h0 : xs.length = 0
          · obtain rfl : xs = [] := List.eq_nil_of_length_eq_zero h0
            obtain ⟨a, cap, rfl⟩ := HS2.out.empty
            clear h0 HS2 HXB hxl H
            go_wp2
            refine wp_loop_rounds 1 ?_
            rw [rounds_succ]
            go_wp2
            go_ret2
            have e : placeO [] rs = some [] := HP.out
            unfold placeXs placeB
            rw [e]
            exact ⟨_, rfl, O2.out, B2.out⟩
          · obtain ⟨b, off, cap, rfl, hbl, hc⟩ := HS2.out.pos encInset_pos (by omega)
            have hbw : b < w.heap.size := by
              obtain ⟨b', off', cap', e, hb', _⟩ := H.out.pos encInset_pos (by omega)
              have e1 : b = b' := by injection e with e1 _ _; injection e1 with e1; injection e1
              rw [e1]; exact hb'
            have HC := Lib.hid hc
            obtain ⟨n, hn⟩ : ∃ n, n = xs.length := ⟨_, rfl⟩
            rw [← hn] at h0 hxl ⊢
            have HN := Lib.hid hn
            clear hn hc HS2 H
            go_wp2
            go_loopw [6, 9, 10] (fun vo pg i wr => ∃ (k p : Nat) (L O : List Int), k ≤ n ∧ i = .int .i64 k ∧ p ≤ 20 ∧ pg = .int .i64 p ∧ Hid (insGo xs 0 rs [] = insGo (xs.drop k) p L O) ∧ Hid (∀ j, 0 ≤ L.getD j 0 ∧ L.getD j 0 ≤ 1000) ∧ Hid (wr.ownsRow w.heap.size 3 1 (.slice (some ⟨g, 0, none⟩) m cl) m (L.map (Value.int .i64))) ∧ Hid (wr.ownsRow w.heap.size 3 1 vo k (O.map (Value.int .i64))) ∧ Hid (some g ≠ vo.ownBlock) ∧ Hid (Below w.heap.size w wr) ∧ g < wr.heap.size) (fun _ _ i _ => n - (intOf i).toNat)
            case atStart => exact ⟨0, 0, rs, [], Nat.zero_le _, rfl, by omega, rfl, rfl, HRB.out, OL2.out, O2.out, by show _ ≠ _; simp [Value.ownBlock]; omega, B2.out, hg2⟩
            case round =>
              obtain ⟨k, p, L, O, hk, rfl, hp, rfl, hgo, hL, ho1, ho2, hap, hb, hgr⟩ := hrel
              by_cases hlt : k < n
              · have hk' : k < xs.length := by rw [← HN.out]; exact hlt
                have q := HC.out k hk'
                have hzb := HXB.out xs[k] (List.getElem_mem hk')
                have hd : xs.drop k = xs[k] :: xs.drop (k + 1) := List.drop_eq_getElem_cons hk'
                obtain ⟨z, hx⟩ : ∃ x, x = xs[k] := ⟨_, rfl⟩
                rw [← hx] at q hzb hd
                obtain ⟨z1, z2, z3, z4⟩ := hzb
                have hLl : L.length = m := by have := ho1.out.1; simpa using this
                have hbr : b < wr.heap.size := by have := hb.out.size; omega
                have r : ∀ i u, (encInset z)[i]? = some u → wr.cell? ⟨b, off + k * 2 + i, none⟩ = some u := fun i u hu => by
                  have e := q i u hu
                  have h3 : w.cell? ⟨b, off + k * 2 + i, none⟩ = some u := (B2.out.cell (p := ⟨b, off + k * 2 + i, none⟩) hbw).symm.trans e
                  exact (hb.out.cell (p := ⟨b, off + k * 2 + i, none⟩) hbw).trans h3
                obtain ⟨hh, f1⟩ := z
                simp only at z1 z2 z3 z4
                obtain ⟨f, rfl⟩ := Int.eq_ofNat_of_zero_le z3
                have c0 : wr.cell? ⟨b, off + k * 2, none⟩ = some (.int .i64 hh) := by simpa using r 0 _ rfl
                have c1 : wr.cell? ⟨b, off + k * 2 + 1, none⟩ = some (.int .i64 (f : Int)) := by simpa using r 1 _ rfl
                obtain ⟨p1, hp1⟩ : ∃ p1 : Nat, p1 = max p f := ⟨_, rfl⟩
                have hp1b : p1 ≤ 20 := by omega
                have FE : Hid (insGo xs 0 rs [] = if insSkip hh L p1 < m then insGo (xs.drop (k + 1)) (insSkip hh L p1) (L.set (insSkip hh L p1) (L.getD (insSkip hh L p1) 0 - hh)) (O ++ [((insSkip hh L p1 : Nat) : Int)]) else none) := by
                  show _ = _
                  rw [hgo.out, hd, insGo]
                  simp only [Int.toNat_natCast]
                  rw [← hp1, hLl]
                have HLL := Lib.hid hLl
                have hcase : p < f ∧ p1 = f ∨ f ≤ p ∧ p1 = p := by omega
                clear q r hx hd hgo hLl hp1 z3
                rcases hcase with ⟨hpf, hp1⟩ | ⟨hpf, hp1⟩
                all_goals
                  first | (obtain rfl : p1 = f := hp1) | (obtain rfl : p1 = p := hp1)
                  go_wp2
                  obtain ⟨W, rfl⟩ : ∃ W : World, W = wr := ⟨_, rfl⟩
                  have HCD := Lib.hid c0
                  clear c0 c1
                  go_loopw [9] (fun pg wi => ∃ q : Nat, q ≤ 20 ∧ pg = .int .i64 q ∧ Hid (insSkip hh L p1 = insSkip hh L q) ∧ Hid (Below W.heap.size W wi)) (fun pg _ => 20 - (intOf pg).toNat)
                  case atStart => exact ⟨p1, hp1b, rfl, rfl, Below.refl _ _⟩
                  case round =>
                    obtain ⟨q, hq, rfl, hsk, hbi⟩ := hrel
                    have hi1 := owns_below ho1.out hbi.out
                    have hi2 := owns_below ho2.out hbi.out
                    have cD2 : wr.cell? ⟨b, off + k * 2, none⟩ = some (.int .i64 hh) := (hbi.out.cell (p := ⟨b, off + k * 2, none⟩) hbr).trans HCD.out
                    have hwis : W.heap.size ≤ wr.heap.size := hbi.out.size
                    have bW := hb.out.trans (hbi.out.mono hb.out.size)
                    have BW := Lib.hid bW
                    have HI1 := Lib.hid hi1
                    have HI2 := Lib.hid hi2
                    by_cases hqm : q < m
                    · have cL := irow_cell hi1 q hqm
                      have cF := hi1.frozenAt q
                      obtain ⟨t1, t2⟩ := hL.out q
                      obtain ⟨u, hu⟩ : ∃ u, u = L.getD q 0 := ⟨_, rfl⟩
                      rw [← hu] at cL t1 t2
                      by_cases hlu : u < hh
                      · have nx : Hid (insSkip hh L p1 = insSkip hh L (q + 1)) := hsk.out.trans (insSkip_next (by rw [HLL.out]; exact hqm) (by rw [← hu]; exact hlu))
                        have B2 := Lib.hid hbi.out
                        clear hi1 hi2 bW hsk hbi cF hu
                        go_wp2_with fail
                        go_quiet (fail)
                        go_wp2
                        go_roundw
                        case rel => exact ⟨q + 1, by omega, by go_num, nx.out, below_drewN B2.out _⟩
                        case measure => simp [intOf]; omega
                      · have hst : insSkip hh L p1 = q := hsk.out.trans (insSkip_stop (fun h => hlu (by rw [hu]; exact h.2)))
                        have fe2 : insGo xs 0 rs [] = insGo (xs.drop (k + 1)) q (L.set q (u - hh)) (O ++ [(q : Int)]) := by rw [FE.out, hst, if_pos hqm, ← hu]
                        have FE2 := Lib.hid fe2
                        clear hi1 hi2 bW hsk hbi hu hst fe2 FE
                        go_wp2_with fail
                        go_quiet (fail)
                        go_wp2_with fail
                        obtain ⟨wd, hwd⟩ : ∃ wd, wd = wr.drewN nq := ⟨_, rfl⟩
                        have d1 : wd.ownsRow w.heap.size 3 1 (.slice (some ⟨g, 0, none⟩) m cl) m (L.map (Value.int .i64)) := by rw [hwd]; exact HI1.out
                        have d2 : wd.ownsRow w.heap.size 3 1 u6 k (O.map (Value.int .i64)) := by rw [hwd]; exact HI2.out
                        have D2 := Lib.hid d2
                        have d3 : wd.cell? ⟨g, q, none⟩ = some (.int .i64 u) := by rw [hwd]; exact cL
                        have d4 : wd.cell? ⟨b, off + k * 2, none⟩ = some (.int .i64 hh) := by rw [hwd]; exact cD2
                        have d5 : Below w.heap.size w wd := by rw [hwd]; exact below_drewN BW.out _
                        have d6 := d1.frozenAt q
                        have d7 : W.heap.size ≤ wd.heap.size := by rw [hwd]; exact hwis
                        rw [← hwd]
                        have st := d1.stored q (.int .i64 (u - hh))
                        rw [← List.map_set] at st
                        obtain ⟨st1, st2⟩ := st
                        have st3 := d2.kept st2 (.inr hap.out.symm)
                        have ST1 := Lib.hid st1
                        have ST2 := Lib.hid st2
                        have ST3 := Lib.hid st3
                        have D5 := Lib.hid d5
                        clear hwd cL cD2 cF HI1 HI2 BW d1 d2 d5 st1 st2 st3
                        have hws : w.heap.size ≤ wd.heap.size := D5.out.size
                        go_still_tail 13, (by kernel_rfl)
                        go_wp2_with (at_builtin; refine append_mine _ rfl _ _ 35 rfl w.heap.size 3 i0 (.int .i64 0) 1 8 Try.underlying35 hi hz0 hz1 hz2 rfl (by decide) u6 k (O.map (Value.int .i64)) rfl (ST3.out.alloc _).drew ⟨wd.heap.size, 0, none⟩ 1 1 [.int .i64 (q : Int)] rfl rfl (by simpa using cells_new (wd.setCell ⟨g, q, none⟩ (.int .i64 (u - hh))) [_] _) (by intro u hu; simp at hu; subst hu; rfl) (by unfold maxLen; omega) (by omega) (by simp; omega) ?_; intro v' w1 hown' hgrow hmv)
                        have hap2 : some g ≠ v'.ownBlock := hmv.apart hap.out (by simp; omega)
                        have k1 := ((ST1.out.alloc _).drew).kept hgrow (.inr hap.out)
                        have bs : Below w.heap.size w (wd.setCell ⟨g, q, none⟩ (.int .i64 (u - hh))) := D5.out.grown ST2.out (by have := D5.out.size; omega) (fun j hj => by cases hj; omega)
                        have bf := ((bs.alloc (by have := bs.size; omega) _).drew).grown hgrow (by have := bs.size; simp at this ⊢; omega) (fun j hj => (ST3.out.lt j hj).1)
                        have gs := hgrow.size
                        have e0 := FE2.out
                        have e1 := set_bd (L := L) (q := q) (z := u - hh) hL.out (by omega) (by omega)
                        have hq20 : q ≤ 20 := hq
                        go_roundw
                        case rel => exact ⟨k + 1, q, _, _, by omega, by go_num, hq20, rfl, e0, e1, k1, by show World.ownsRow _ _ _ _ _ _ _; rw [List.map_append]; exact hown', hap2, bf, by simp at gs; omega⟩
                        case measure => simp [intOf]; omega
                    · have hst : insSkip hh L p1 = q := hsk.out.trans (insSkip_stop (fun h => hqm (by rw [← HLL.out]; exact h.1)))
                      have e : placeO xs rs = none := by rw [HP.out, FE.out, hst, if_neg hqm]
                      have E := Lib.hid e
                      have hws : w.heap.size ≤ wr.heap.size := bW.size
                      clear hi1 hi2 bW hsk hbi hst e FE
                      go_wp2_with fail
                      go_quiet (fail)
                      go_wp2
                      go_ret2
                      unfold placeXs placeB
                      rw [E.out]
                      exact ⟨_, rfl, World.ownsRow.mono (World.ownsRow_made _ #[] 0 (Nat.le_refl _) (Nat.zero_le _) rfl) (by simpa using hws), (below_drewN BW.out _).alloc (by simpa using hws) _⟩
              · have e : placeO xs rs = some O := by
                  rw [HP.out, hgo.out, List.drop_of_length_le (by have := HN.out; omega), insGo]
                have E := Lib.hid e
                clear e hgo
                go_wp2
                go_ret2
                unfold placeXs placeB
                rw [E.out]
                have hO : O.length = k := by have := ho2.out.1; simpa using this
                exact ⟨_, rfl, by have h := ho2.out; rw [← hO] at h; exact h, hb.out⟩

theorem specPlace_any (v u : Value) (xs : List DInset) (rs : List Int) (w : World) (h : SRow 2 encInset w v xs) (hr : IRow w u rs) (hn : NilOk u) (hx : rs.length ≤ 1048576) :
    Calls Try.prog 17 #[v, u] w (PlacePost (placeXs xs rs) (placeB xs rs) w) := by
  by_cases h0 : rs.length = 0
  · obtain rfl : rs = [] := List.eq_nil_of_length_eq_zero h0
    obtain ⟨a, cap, rfl⟩ := hr.empty
    exact specPlace_m0 v a cap xs w h (fun e => (hn 0 cap (by rw [e])).2)
  · obtain ⟨b, off, cap, rfl, hc⟩ := hr.pos (by omega)
    exact specPlace_pos v b off cap xs rs w h hr (by omega) hx
end Go.Proofs.Ytoeaaoceicjmdaa

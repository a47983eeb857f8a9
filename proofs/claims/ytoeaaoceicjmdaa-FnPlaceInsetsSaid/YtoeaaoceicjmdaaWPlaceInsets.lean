/-
  PROVED HERE: what the text of the law FnPlaceInsets does: it returns true and turns nothing that was there. Conditions: the walk's own.
-/
import Derived.Test.YtoeaaoceicjmdaaDrawPl
import Derived.Test.YtoeaaoceicjmdaaDelay
import Derived.Test.YtoeaaoceicjmdaaPlaceL2
import Derived.Test.YtoeaaoceicjmdaaRows2
namespace Go.Proofs.Ytoeaaoceicjmdaa
open Go.RowKit

theorem own_form {w : World} {base : Nat} {E : TypeId} {sz n : Nat} {v : Value} {xs : List Value} (h : w.ownsRow base E sz v n xs) (hn : 0 < n) : ∃ g cap, v = .slice (some ⟨g, 0, none⟩) n cap ∧ base ≤ g ∧ g < w.heap.size := by
  rcases h.2 with ⟨_, e⟩ | ⟨g, cap, _, rfl, hb, _⟩
  · omega
  · exact ⟨g, cap, rfl, hb, (h.lt g rfl).2⟩

set_option maxRecDepth 100000 in
set_option maxHeartbeats 8000000 in
theorem fnPlaceInsets_walk (a : Option Addr) (n cap : Nat) (w : World) (h : Code8 w a n cap) : Calls Try.prog 6 #[.slice a n cap] w (Ret (.bool true) w) := by
  have hn : n ≤ 9223372036854775807 := by have := h.2.1; unfold maxLen at this; omega
  by_cases hbig : 1048576 < n
  · go_enter Try.func6, Try.ntmps6
    go_wp2
    go_ret
    exact ⟨rfl, Below.refl _ _⟩
  · have H := Lib.hid h
    clear h
    obtain ⟨i0, hi, hz0, hz1, hz2⟩ := info_parts info_int
    go_enter Try.func6, Try.ntmps6
    go_wp2_with fail
    refine (drawPlaceInsets_any a n cap w H.out).mono ?_
    rintro e w1 ⟨xs, rs, v, u, hxl, hrl, rfl, ov, ou, b1⟩
    have hs1 : SRow 2 encInset w1 v xs := SRow.of_owns encInset_len rfl ov
    have hi1 : IRow w1 u rs := IRow.of_owns ou
    have hnil : NilOk u := NilOk.of_owns ou
    obtain ⟨ys, hys⟩ : ∃ ys, ys = placeXs xs rs := ⟨_, rfl⟩
    obtain ⟨bt, hbt⟩ : ∃ b, b = placeB xs rs := ⟨_, rfl⟩
    have S1 := fun w (h : SRow 2 encInset w v xs) (hr : IRow w u rs) => (hys ▸ hbt ▸ implPlace_any v u xs rs w h hr : Calls Try.prog 19 #[v, u] w (PlacePost ys bt w))
    have S2 := fun w (h : SRow 2 encInset w v xs) (hr : IRow w u rs) => (hys ▸ hbt ▸ specPlace_any v u xs rs w h hr hnil (by omega) : Calls Try.prog 17 #[v, u] w (PlacePost ys bt w))
    have C1 := Lib.hid S1
    have C2 := Lib.hid S2
    have HYS := Lib.hid hys
    have HBT := Lib.hid hbt
    clear S1 S2 hys hbt
    go_wp2_with fail
    refine (C1.out w1 hs1 hi1).mono ?_
    rintro e w2 ⟨x, rfl, ox, b2⟩
    go_wp2_with fail
    refine (C2.out w2 (hs1.below b2) (hi1.below b2)).mono ?_
    rintro e w3 ⟨y, rfl, oy, b3⟩
    go_wp2_with fail
    refine (sameInts_any x y ys w3 ((IRow.of_owns ox).below b3) (IRow.of_owns oy)).mono ?_
    rintro e w4 ⟨rfl, b4⟩
    have B4 := Lib.hid (below_next (below_next (below_next b1 b2 (Nat.le_refl _)) b3 (Nat.le_refl _)) b4 (Nat.le_refl _))
    have OX := Lib.hid (owns_below (owns_below ox b3) b4)
    have OV := Lib.hid (owns_below (owns_below (owns_below ov b2) b3) b4)
    have OU := Lib.hid (owns_below (owns_below (owns_below ou b2) b3) b4)
    have hws : w.heap.size ≤ w4.heap.size := B4.out.size
    clear C1 C2 ov ou hs1 hi1 hnil ox oy b1 b2 b3 b4 H
    cases bt with
    | false =>
      have hy0 : ys = [] := by
        rw [HYS.out]
        have h := HBT.out
        unfold placeB at h
        unfold placeXs
        cases e : placeO xs rs with
        | none => rfl
        | some R => rw [e] at h; cases h
      subst hy0
      obtain ⟨xa, xc, rfl⟩ := (IRow.of_owns (xs := ([] : List Int)) OX.out).empty
      go_wp2_with fail
      refine (alive_any _).mono ?_
      rintro e w5 ⟨rfl, b5⟩
      have B5 := Lib.hid (below_next B4.out b5 (Nat.le_refl _))
      clear b5
      go_wp2
      go_ret
      exact ⟨rfl, B5.out⟩
    | true =>
      obtain ⟨hl, hxl2, hxb, hyb⟩ := place_some HBT.out.symm
      obtain ⟨hgo, hrb⟩ : insGo xs 0 rs [] = some ys ∧ ∀ j, 0 ≤ rs.getD j 0 ∧ rs.getD j 0 ≤ 1000 := by
        have h := HBT.out
        have h2 := HYS.out
        unfold placeB placeO at h
        unfold placeXs placeO at h2
        split at h
        · rename_i hc
          rw [if_pos hc] at h2
          refine ⟨?_, (roomsB_true hc.2).2⟩
          cases e : insGo xs 0 rs [] with
          | none => rw [e] at h; cases h
          | some R => rw [e] at h2; rw [h2]; rfl
        · cases h
      rw [← HYS.out] at hl hyb
      clear HYS HBT
      have o1 : (w4.alloc (.cells #[] 3)).ownsRow w4.heap.size 3 1 (.slice (some ⟨w4.heap.size, 0, none⟩) 0 0) 0 [] := World.ownsRow_made w4 #[] 0 (Nat.le_refl _) (Nat.zero_le _) rfl
      have O1 := Lib.hid o1
      clear o1
      by_cases h0 : xs.length = 0
      · obtain rfl : xs = [] := List.eq_nil_of_length_eq_zero h0
        obtain rfl : ys = [] := List.eq_nil_of_length_eq_zero hl
        obtain ⟨xa, xc, rfl⟩ := (IRow.of_owns (xs := ([] : List Int)) OX.out).empty
        obtain ⟨va, vc, rfl⟩ : ∃ va vc, v = .slice va 0 vc := by
          rcases OV.out.2 with ⟨rfl, _⟩ | ⟨g, cap, _, rfl, _⟩
          · exact ⟨_, _, rfl⟩
          · exact ⟨_, _, rfl⟩
        clear h0 hgo hxb hyb hl hxl2
        rcases OU.out.2 with ⟨rfl, hr0⟩ | ⟨gu, cu, _, rfl, hgb, _⟩
        · go_wp2_with (at_builtin; refine wpList_append_own_none rfl _ _ 35 rfl w4.heap.size 3 i0 1 Try.underlying35 hi _ _ _ rfl O1.out rfl ?_)
          refine wp_loop_rounds 1 ?_
          rw [rounds_succ]
          go_wp2
          go_ret
          exact ⟨rfl, B4.out.alloc hws _⟩
        · have hnews : ∀ j z, (rs.map (Value.int .i64))[j]? = some z → (w4.alloc (.cells #[] 3)).cell? ((⟨gu, 0, none⟩ : Addr).add j) = some z := by
            intro j z hz
            have hj : j < rs.length * 1 := by rw [← OU.out.1]; exact (List.getElem?_eq_some_iff.1 hz).1
            have e : ((⟨gu, 0, none⟩ : Addr).add j) = ⟨gu, j, none⟩ := by unfold Addr.add; split <;> simp_all
            rw [e, World.cell?_alloc_past _ _ _ (OU.out.lt gu rfl).2, OU.out.cellAt j hj]
            exact hz
          have HN := Lib.hid hnews
          obtain ⟨m, hm⟩ : ∃ m, m = rs.length := ⟨_, rfl⟩
          rw [← hm] at hrl ⊢
          have HM := Lib.hid hm
          clear hnews hm
          go_wp2_with (at_builtin; refine wpList_append_own _ rfl _ _ 35 rfl w4.heap.size 3 i0 (.int .i64 0) 1 8 Try.underlying35 hi hz0 hz1 hz2 rfl (by decide) (.slice (some ⟨w4.heap.size, 0, none⟩) 0 0) 0 [] rfl O1.out ⟨gu, 0, none⟩ m cu (rs.map (Value.int .i64)) rfl (by rw [List.length_map, HM.out]; simp) HN.out (by intro z hz; obtain ⟨x, _, rfl⟩ := List.mem_map.1 hz; rfl) (by unfold maxLen; omega) (by omega) (by simp) ?_; intro VL w5 hown' hgrow _)
          have b5 : Below w.heap.size w w5 := (B4.out.alloc hws _).grown hgrow (by simp; omega) (fun j hj => by cases hj; exact hws)
          have B5 := Lib.hid b5
          clear b5 hown' hgrow
          refine wp_loop_rounds 1 ?_
          rw [rounds_succ]
          go_wp2
          go_ret
          exact ⟨rfl, B5.out⟩
      · have hr0 : 0 < rs.length := by
          cases xs with
          | nil => simp at h0
          | cons x t =>
            obtain ⟨q, _, _, _, _, hq, _⟩ := place_step hgo
            omega
        obtain ⟨gv, cv, rfl, hgv1, hgv⟩ := own_form OV.out (by omega)
        obtain ⟨gx, cx, rfl, hgx1, hgx⟩ := own_form OX.out (by omega)
        obtain ⟨gu, cu, rfl, hgu1, hgu⟩ := own_form OU.out hr0
        have hnews : ∀ j z, (rs.map (Value.int .i64))[j]? = some z → (w4.alloc (.cells #[] 3)).cell? ((⟨gu, 0, none⟩ : Addr).add j) = some z := by
          intro j z hz
          have hj : j < rs.length * 1 := by rw [← OU.out.1]; exact (List.getElem?_eq_some_iff.1 hz).1
          have e : ((⟨gu, 0, none⟩ : Addr).add j) = ⟨gu, j, none⟩ := by unfold Addr.add; split <;> simp_all
          rw [e, World.cell?_alloc_past _ _ _ hgu, OU.out.cellAt j hj]
          exact hz
        have sv := (SRow.of_owns (xs := xs) encInset_len rfl OV.out).pos encInset_pos (by omega)
        obtain ⟨b', off', cap', e, _, hc⟩ := sv
        obtain ⟨rfl, rfl⟩ : gv = b' ∧ 0 = off' := by injection e with e1; injection e1 with e1; injection e1 with e1 e2; exact ⟨e1, e2⟩
        have HC := Lib.hid hc
        have HN := Lib.hid hnews
        have HXB := Lib.hid hxb
        have HRB := Lib.hid hrb
        have HGO := Lib.hid hgo
        obtain ⟨m, hm⟩ : ∃ m, m = rs.length := ⟨_, rfl⟩
        rw [← hm] at hrl hr0 ⊢
        have HM := Lib.hid hm
        obtain ⟨k0, hk0⟩ : ∃ k0, k0 = xs.length := ⟨_, rfl⟩
        rw [hl]
        rw [← hk0] at h0 hl hxl2 ⊢
        have HK0 := Lib.hid hk0
        have HYL := Lib.hid hl
        clear hnews hm hc e hxb hrb hgo hk0 hl hyb OU hxl
        go_wp2_with (at_builtin; refine wpList_append_own _ rfl _ _ 35 rfl w4.heap.size 3 i0 (.int .i64 0) 1 8 Try.underlying35 hi hz0 hz1 hz2 rfl (by decide) (.slice (some ⟨w4.heap.size, 0, none⟩) 0 0) 0 [] rfl O1.out ⟨gu, 0, none⟩ m cu (rs.map (Value.int .i64)) rfl (by rw [List.length_map, HM.out]; simp) HN.out (by intro z hz; obtain ⟨x, _, rfl⟩ := List.mem_map.1 hz; rfl) (by unfold maxLen; omega) (by omega) (by simp) ?_; intro VL w5 hown' hgrow _)
        have hgrow2 : (w4.alloc (.cells #[] 3)).grownBy w5 (some w4.heap.size) := hgrow
        have b5 : Below w4.heap.size w4 w5 := ((Below.refl _ _).alloc (Nat.le_refl _) _).grown hgrow2 (by simp) (fun j hj => by cases hj; exact Nat.le_refl _)
        have oL : w5.ownsRow w4.heap.size 3 1 VL m (rs.map (Value.int .i64)) := by simpa using hown'
        obtain ⟨gl, cl, rfl, hgl1, hgl⟩ := own_form oL hr0
        have B5 := Lib.hid b5
        have OL := Lib.hid oL
        clear b5 oL hown' hgrow hgrow2 O1 HN
        go_loopw [10] (fun i wr => ∃ (k p : Nat) (L O : List Int), k ≤ k0 ∧ i = .int .i64 k ∧ Hid (insGo (xs.drop k) p L O = some ys) ∧ Hid (O.length = k) ∧ Hid (∀ j, 0 ≤ L.getD j 0 ∧ L.getD j 0 ≤ 1000) ∧ Hid (0 < k → ys.getD (k - 1) 0 = (p : Int)) ∧ Hid (wr.ownsRow w4.heap.size 3 1 (.slice (some ⟨gl, 0, none⟩) m cl) m (L.map (Value.int .i64))) ∧ Hid (Below w4.heap.size w4 wr) ∧ gl < wr.heap.size) (fun i _ => k0 - (intOf i).toNat)
        case atStart => exact ⟨0, 0, rs, [], Nat.zero_le _, rfl, HGO.out, rfl, HRB.out, fun h => absurd h (Nat.lt_irrefl _), OL.out, B5.out, hgl⟩
        case round =>
          obtain ⟨k, p, L, O, hk, rfl, hgo, hO, hL, hp, ho, hb, hglr⟩ := hrel
          by_cases hlt : k < k0
          · have hk' : k < xs.length := by rw [← HK0.out]; exact hlt
            have hd : xs.drop k = xs[k] :: xs.drop (k + 1) := List.drop_eq_getElem_cons hk'
            have hgo2 := hgo.out
            rw [hd] at hgo2
            obtain ⟨q, hyq, -, hpq, hfq, hqm, hroom, hnx⟩ := place_step hgo2
            rw [hO.out] at hyq
            have hLl : L.length = m := by have := ho.out.1; simpa using this
            rw [hLl] at hqm
            obtain ⟨z1, z2, z3, z4⟩ := HXB.out xs[k] (List.getElem_mem hk')
            have qc := HC.out k hk'
            obtain ⟨z, hz⟩ : ∃ z, z = xs[k] := ⟨_, rfl⟩
            rw [← hz] at qc z1 z2 z3 z4 hfq hroom hnx
            obtain ⟨hh, f1⟩ := z
            simp only at z1 z2 z3 z4 hfq hroom hnx
            obtain ⟨f, rfl⟩ := Int.eq_ofNat_of_zero_le z3
            simp only [Int.toNat_natCast] at hfq
            have hgvr : gv < w4.heap.size := hgv
            have c0 : wr.cell? ⟨gv, k * 2, none⟩ = some (.int .i64 hh) := (hb.out.cell (p := ⟨gv, k * 2, none⟩) hgv).trans (by simpa using qc 0 _ rfl)
            have c1 : wr.cell? ⟨gv, k * 2 + 1, none⟩ = some (.int .i64 (f : Int)) := (hb.out.cell (p := ⟨gv, k * 2 + 1, none⟩) hgv).trans (by simpa using qc 1 _ rfl)
            have cx1 : ∀ j, j < k0 → wr.cell? ⟨gx, j, none⟩ = some (.int .i64 (ys.getD j 0)) := fun j hj => (hb.out.cell (p := ⟨gx, j, none⟩) hgx).trans (irow_cell (m := k0) (cap := cx) (by have e := OX.out; rw [HYL.out] at e; exact e) j hj)
            have c2 : wr.cell? ⟨gx, k, none⟩ = some (.int .i64 (q : Int)) := by rw [cx1 k hlt, hyq]
            have c3 : 0 < k → wr.cell? ⟨gx, k - 1, none⟩ = some (.int .i64 (p : Int)) := fun h0 => by rw [cx1 (k - 1) (by omega), hp.out h0]
            have cL := irow_cell ho.out q hqm
            have cF := ho.out.frozenAt q
            obtain ⟨t1, t2⟩ := hL.out q
            obtain ⟨u, hu⟩ : ∃ u, u = L.getD q 0 := ⟨_, rfl⟩
            rw [← hu] at cL t1 t2 hroom hnx
            have HNX := Lib.hid hnx
            have HB := Lib.hid hb.out
            have HO2 := Lib.hid ho.out
            have HYQ := Lib.hid hyq
            have hs4r : w4.heap.size ≤ wr.heap.size := hb.out.size
            have hneX : gx ≠ gl := by omega
            have hneV : gv ≠ gl := by omega
            have bd1 := set_bd (L := L) (q := q) (z := u - hh) hL.out (by omega) (by omega)
            have BD1 := Lib.hid bd1
            have HP0 := Lib.hid hp.out
            have C3 := Lib.hid c3
            have OL1 : Hid ((O ++ [(q : Int)]).length = k + 1) := by show _ = _; simp [hO.out]
            clear qc hz hd hgo2 hgo hyq hLl hnx hb ho hu cx1 bd1 hp c3 hO
            have g1 : decide ((q : Int) < (f : Int)) = false := decide_eq_false (by omega)
            have g2 : decide ((m : Int) ≤ (q : Int)) = false := decide_eq_false (by omega)
            have g1' : decide (q < f) = false := decide_eq_false (by omega)
            have g2' : decide (m ≤ q) = false := decide_eq_false (by omega)
            have g3' : decide (k0 ≤ k) = false := decide_eq_false (by omega)
            by_cases hk0' : 0 < k
            · have c3 := C3.out hk0'
              have g4' : decide (q < p) = false := decide_eq_false (by omega)
              go_wp2_with fail
              go_quiet (fail)
              go_wp2_with fail
              obtain ⟨wd, hwd⟩ : ∃ wd, wd = wr.drewN nq := ⟨_, rfl⟩
              have d1 : wd.ownsRow w4.heap.size 3 1 (.slice (some ⟨gl, 0, none⟩) m cl) m (L.map (Value.int .i64)) := by rw [hwd]; exact HO2.out
              have d3 : wd.cell? ⟨gl, q, none⟩ = some (.int .i64 u) := by rw [hwd]; exact cL
              have d4 : wd.cell? ⟨gv, k * 2, none⟩ = some (.int .i64 hh) := by rw [hwd]; exact c0
              have d4' : wd.cell? ⟨gx, k, none⟩ = some (.int .i64 (q : Int)) := by rw [hwd]; exact c2
              have d5 : Below w4.heap.size w4 wd := by rw [hwd]; exact below_drewN HB.out _
              have d6 := d1.frozenAt q
              have st := d1.stored q (.int .i64 (u - hh))
              rw [← List.map_set] at st
              obtain ⟨st1, st2⟩ := st
              have e3 : (wd.setCell ⟨gl, q, none⟩ (.int .i64 (u - hh))).cell? ⟨gx, k, none⟩ = some (.int .i64 (q : Int)) := by rw [World.cell?_setCell_other _ _ _ _ (fun e => hneX (by have := congrArg Addr.block e; first | exact this | exact this.symm))]; exact d4'
              have e4 : (wd.setCell ⟨gl, q, none⟩ (.int .i64 (u - hh))).cell? ⟨gl, q, none⟩ = some (.int .i64 (u - hh)) := World.cell?_setCell_same _ _ _ d3
              have ST1 := Lib.hid st1
              have BF := Lib.hid (d5.grown st2 (by have := d5.size; omega) (fun j hj => by cases hj; exact hgl1))
              have hwds : gl < (wd.setCell ⟨gl, q, none⟩ (.int .i64 (u - hh))).heap.size := by simp [hwd]; exact hglr
              have g5 : decide (u - hh < 0) = false := decide_eq_false (by omega)
              rw [← hwd]
              clear hwd cL c0 c2 d1 d5 st1 st2 cF HO2 HB
              go_still_tail 19, (by kernel_rfl)
              go_wp2
              go_roundw
              case rel => exact ⟨k + 1, q, _, _, by omega, by go_num, HNX.out, OL1.out, BD1.out, fun _ => HYQ.out, ST1.out, BF.out.drew, by simpa using hwds⟩
              case measure => simp [intOf]; omega
            · obtain rfl : k = 0 := by omega
              simp only [Nat.zero_mul, Nat.zero_add] at c0 c1
              go_wp2_with fail
              go_quiet (fail)
              go_wp2_with fail
              obtain ⟨wd, hwd⟩ : ∃ wd, wd = wr.drewN nq := ⟨_, rfl⟩
              have d1 : wd.ownsRow w4.heap.size 3 1 (.slice (some ⟨gl, 0, none⟩) m cl) m (L.map (Value.int .i64)) := by rw [hwd]; exact HO2.out
              have d3 : wd.cell? ⟨gl, q, none⟩ = some (.int .i64 u) := by rw [hwd]; exact cL
              have d4 : wd.cell? ⟨gv, 0, none⟩ = some (.int .i64 hh) := by rw [hwd]; exact c0
              have d4' : wd.cell? ⟨gx, 0, none⟩ = some (.int .i64 (q : Int)) := by rw [hwd]; exact c2
              have d5 : Below w4.heap.size w4 wd := by rw [hwd]; exact below_drewN HB.out _
              have d6 := d1.frozenAt q
              have st := d1.stored q (.int .i64 (u - hh))
              rw [← List.map_set] at st
              obtain ⟨st1, st2⟩ := st
              have e3 : (wd.setCell ⟨gl, q, none⟩ (.int .i64 (u - hh))).cell? ⟨gx, 0, none⟩ = some (.int .i64 (q : Int)) := by rw [World.cell?_setCell_other _ _ _ _ (fun e => hneX (by have := congrArg Addr.block e; first | exact this | exact this.symm))]; exact d4'
              have e4 : (wd.setCell ⟨gl, q, none⟩ (.int .i64 (u - hh))).cell? ⟨gl, q, none⟩ = some (.int .i64 (u - hh)) := World.cell?_setCell_same _ _ _ d3
              have ST1 := Lib.hid st1
              have BF := Lib.hid (d5.grown st2 (by have := d5.size; omega) (fun j hj => by cases hj; exact hgl1))
              have hwds : gl < (wd.setCell ⟨gl, q, none⟩ (.int .i64 (u - hh))).heap.size := by simp [hwd]; exact hglr
              have g5 : decide (u - hh < 0) = false := decide_eq_false (by omega)
              rw [← hwd]
              clear hwd cL c0 c2 d1 d5 st1 st2 cF HO2 HB
              go_still_tail 19, (by kernel_rfl)
              go_wp2
              go_roundw
              case rel => exact ⟨0 + 1, q, _, _, by omega, by go_num, HNX.out, OL1.out, BD1.out, fun _ => HYQ.out, ST1.out, BF.out.drew, by simpa using hwds⟩
              case measure => simp [intOf]; omega
          · clear hgo hL hp ho HC HXB
            go_wp2
            go_ret
            exact ⟨by simp, below_next B4.out hb.out (Nat.le_refl _)⟩
end Go.Proofs.Ytoeaaoceicjmdaa

/-
  PROVED HERE: what the text of the law FnSpansOf does: it returns true and turns nothing that was there. Conditions: the walk's own.
-/
import Derived.Test.YtnlhlgefaamdgaaSoD
import Derived.Test.YtnlhlgefaamdgaaSoL
import Derived.Test.YtnlhlgefaamdgaaSoH
import Derived.Test.YtnlhlgefaamdgaaLawOwn
set_option linter.unusedVariables false
set_option linter.unusedSimpArgs false
namespace Go.Proofs.Ytnlhlgefaamdgaa
open Go.RowKit

set_option maxRecDepth 100000
set_option maxHeartbeats 8000000 in
theorem fnSpansOf_walk (a : Option Addr) (n cap : Nat) (w : World) (h : Code8 w a n cap) : Calls Try.prog 4 #[.slice a n cap] w (Ret (.bool true) w) := by
  have hn : n ≤ 9223372036854775807 := by have := h.2.1; unfold maxLen at this; omega
  by_cases hbig : 1048576 < n
  · go_enter Try.func4, Try.ntmps4
    go_wp2
    go_ret
    exact ⟨rfl, Below.refl _ _⟩
  · have H := Lib.hid h
    clear h
    go_enter Try.func4, Try.ntmps4
    go_wp2_with fail
    refine (drawSpansOf_any a n cap w H.out).mono ?_
    rintro e w1 ⟨zs, V, hzl, rfl, rv, b1⟩
    have C1 := Lib.hid (fun w (h : IRow w V zs) => implSpansOf_any V zs w h (by omega))
    have C2 := Lib.hid (fun w (h : IRow w V zs) => specSpansOf_any V zs w h (by omega))
    clear H
    go_wp2_with fail
    refine (C1.out w1 rv).mono ?_
    rintro e w2 ⟨X, rfl, ox, b2⟩
    go_wp2_with fail
    refine (C2.out w2 (rv.below b2)).mono ?_
    rintro e w3 ⟨Y, rfl, oy, b3⟩
    have sx := (SRow.of_owns encSpan_len rfl ox).below b3
    go_wp2_with fail
    refine (sameSpans_any X Y (soR zs) w3 sx (SRow.of_owns encSpan_len rfl oy)).mono ?_
    rintro e w4 ⟨rfl, b4⟩
    have SX := Lib.hid (sx.below b4)
    have RV := Lib.hid (((rv.below b2).below b3).below b4)
    have B4 := Lib.hid (below_next (below_next (below_next b1 b2 (Nat.le_refl _)) b3 (Nat.le_refl _)) b4 (Nat.le_refl _))
    clear C2 rv ox oy sx b1 b2 b3 b4
    cases hso : soB zs
    · have e0 := so_no hso
      have SX := SX.out
      rw [e0] at SX
      obtain ⟨ax, cx, rfl⟩ := SX.empty
      clear SX C1 e0 RV
      go_wp2_with fail
      refine (alive_any _).mono ?_
      rintro e w9 ⟨rfl, b9⟩
      have B9 := Lib.hid (below_next B4.out b9 (Nat.le_refl _))
      clear b9
      go_wp2
      go_ret
      exact ⟨rfl, B9.out⟩
    · obtain ⟨_, _, hv, hpp, hb2, hr2⟩ := so_yes hso
      have PF := Lib.hid (fun k hk => pg_found (zs := zs) hso k hk)
      have PB := Lib.hid (fun k hk => pg_back zs k hk)
      have PL := pgs_len zs
      clear hso
      go_wp2_with fail
      refine (implSpanPages_any X (soR zs) 999 w4 SX.out).mono ?_
      rintro e w5 ⟨A, rfl, oa, b5⟩
      rw [hpp] at oa
      have RA := Lib.hid (IRow.of_owns oa)
      have SX5 := Lib.hid (SX.out.below b5)
      have RV5 := Lib.hid (RV.out.below b5)
      have B5 := Lib.hid (below_next B4.out b5 (Nat.le_refl _))
      clear oa b5 SX RV B4 C1 hpp
      obtain ⟨va, vc, e1, _, hiv⟩ := RV5.out
      obtain ⟨aa, ac, e2, _, hia⟩ := RA.out
      subst e1 e2
      obtain ⟨ps, hps⟩ : ∃ ps, ps = pgs zs := ⟨_, rfl⟩
      rw [← hps] at hia PL PF PB RA hb2 hr2 ⊢
      obtain ⟨nz, hnz⟩ : ∃ nz, nz = zs.length := ⟨_, rfl⟩
      obtain ⟨np, hnp⟩ : ∃ np, np = ps.length := ⟨_, rfl⟩
      rw [← hnp] at PL ⊢
      rw [← hnz] at hzl ⊢
      have HIV := Lib.hid hiv
      have HIA := Lib.hid hia
      have NZ := Lib.hid hnz
      have NP := Lib.hid hnp
      have H2 := Lib.hid hb2
      have H3 := Lib.hid hr2
      have HV := Lib.hid hv
      have HZL := Lib.hid hzl
      have HPL := Lib.hid PL
      clear hiv hia hnz hnp hps hb2 hr2 hv RV5
      go_wp2
      go_loopw [9] (fun i wr => ∃ k : Nat, k ≤ nz ∧ i = .int .i64 k ∧ Hid (Below w5.heap.size w5 wr)) (fun i _ => nz - (intOf i).toNat)
      case atStart => exact ⟨0, Nat.zero_le _, rfl, Below.refl _ _⟩
      case round =>
        obtain ⟨k, hk, rfl, hb⟩ := hrel
        by_cases hlt : k < nz
        · have hk' : k < zs.length := by rw [← NZ.out]; exact hlt
          obtain ⟨bx, ofx, rfl, hcx⟩ := HIV.out k hk'
          have hbx : bx < w5.heap.size := World.block_lt_of_cell? w5 _ hcx
          have LA := Lib.hid (PF.out k hk')
          obtain ⟨y, hy⟩ : ∃ y, y = zs.getD k 0 := ⟨_, rfl⟩
          rw [← hy] at hcx LA
          have HCX := Lib.hid hcx
          have HBO := Lib.hid hb.out
          clear hcx hy hb
          go_wp2
          go_loopw [10, 11] (fun fd i wi => ∃ j : Nat, j ≤ np ∧ i = .int .i64 j ∧ fd = .bool ((ps.take j).contains y) ∧ Hid (Below w5.heap.size w5 wi)) (fun _ i _ => np - (intOf i).toNat)
          case atStart => exact ⟨0, Nat.zero_le _, rfl, by simp, HBO.out⟩
          case round =>
            obtain ⟨j, hj, rfl, rfl, hbi⟩ := hrel
            have cy : wr.cell? ⟨bx, ofx + k, none⟩ = some (.int .i64 y) := (hbi.out.cell (p := ⟨bx, ofx + k, none⟩) hbx).trans HCX.out
            by_cases hlj : j < np
            · have hj' : j < ps.length := by rw [← NP.out]; exact hlj
              obtain ⟨bv, ofv, rfl, hcv⟩ := HIA.out j hj'
              have hbv : bv < w5.heap.size := World.block_lt_of_cell? w5 _ hcv
              have TK := Lib.hid (take_has ps y j hj')
              have c0 : wr.cell? ⟨bv, ofv + j, none⟩ = some (.int .i64 (ps.getD j 0)) := (hbi.out.cell (p := ⟨bv, ofv + j, none⟩) hbv).trans hcv
              obtain ⟨z, hz⟩ : ∃ z, z = ps.getD j 0 := ⟨_, rfl⟩
              obtain ⟨fb, hfb⟩ : ∃ fb, fb = (ps.take j).contains y := ⟨_, rfl⟩
              rw [← hz] at c0 TK
              rw [← hfb] at TK ⊢
              have HB := Lib.hid hbi.out
              clear hcv hz hfb hbi
              cases fb
              · have TK := TK.out
                rw [Bool.false_or] at TK
                by_cases hzy : z = y
                · have d1 : (z == y) = true := by simp [hzy]
                  rw [decide_eq_true hzy] at TK
                  have TK := Lib.hid TK
                  have HZ := Lib.hid hzy
                  clear hzy
                  go_wp2_with fail
                  go_quiet (fail)
                  go_wp2
                  go_roundw
                  case rel => exact ⟨j + 1, by omega, by go_num, by rw [TK.out], below_drewN HB.out _⟩
                  case measure => simp [intOf]; omega
                · have d1 : (z == y) = false := by rw [beq_eq_false_iff_ne]; exact fun e => hzy (by rw [e])
                  rw [decide_eq_false hzy] at TK
                  have TK := Lib.hid TK
                  have HZ := Lib.hid hzy
                  clear hzy
                  go_wp2_with fail
                  go_quiet (fail)
                  go_wp2
                  go_roundw
                  case rel => exact ⟨j + 1, by omega, by go_num, by rw [TK.out], below_drewN HB.out _⟩
                  case measure => simp [intOf]; omega
              · have TK := TK.out
                rw [Bool.true_or] at TK
                have TK := Lib.hid TK
                go_wp2_with fail
                go_quiet (fail)
                go_wp2
                go_roundw
                case rel => exact ⟨j + 1, by omega, by go_num, by rw [TK.out], below_drewN HB.out _⟩
                case measure => simp [intOf]; omega
            · obtain rfl : j = np := by omega
              have hfd : (ps.take j).contains y = true := by rw [List.take_of_length_le (by have := NP.out; omega)]; exact LA.out
              have HBI := Lib.hid hbi.out
              rw [hfd]
              clear hfd hbi HBO cy
              go_wp2
              go_roundw
              case rel => exact ⟨k + 1, by omega, by go_num, HBI.out⟩
              case measure => simp [intOf]; omega
        · have HB1 := Lib.hid hb.out
          clear hb
          go_wp2
          go_loopw [12] (fun i wr => ∃ k : Nat, k ≤ np ∧ i = .int .i64 k ∧ Hid (Below w5.heap.size w5 wr)) (fun i _ => np - (intOf i).toNat)
          case atStart => exact ⟨0, Nat.zero_le _, rfl, HB1.out⟩
          case round =>
            obtain ⟨k, hk, rfl, hb⟩ := hrel
            by_cases hlt : k < np
            · have hk' : k < ps.length := by rw [← NP.out]; exact hlt
              obtain ⟨bx, ofx, rfl, hcx⟩ := HIA.out k hk'
              have hbx : bx < w5.heap.size := World.block_lt_of_cell? w5 _ hcx
              have LA := Lib.hid (PB.out k hk')
              obtain ⟨y, hy⟩ : ∃ y, y = ps.getD k 0 := ⟨_, rfl⟩
              rw [← hy] at hcx LA
              have HCX := Lib.hid hcx
              have HBO := Lib.hid hb.out
              clear hcx hy hb
              go_wp2
              go_loopw [13, 14] (fun fd i wi => ∃ j : Nat, j ≤ nz ∧ i = .int .i64 j ∧ fd = .bool ((zs.take j).contains y) ∧ Hid (Below w5.heap.size w5 wi)) (fun _ i _ => nz - (intOf i).toNat)
              case atStart => exact ⟨0, Nat.zero_le _, rfl, by simp, HBO.out⟩
              case round =>
                obtain ⟨j, hj, rfl, rfl, hbi⟩ := hrel
                have cy : wr.cell? ⟨bx, ofx + k, none⟩ = some (.int .i64 y) := (hbi.out.cell (p := ⟨bx, ofx + k, none⟩) hbx).trans HCX.out
                by_cases hlj : j < nz
                · have hj' : j < zs.length := by rw [← NZ.out]; exact hlj
                  obtain ⟨bv, ofv, rfl, hcv⟩ := HIV.out j hj'
                  have hbv : bv < w5.heap.size := World.block_lt_of_cell? w5 _ hcv
                  have TK := Lib.hid (take_has zs y j hj')
                  have c0 : wr.cell? ⟨bv, ofv + j, none⟩ = some (.int .i64 (zs.getD j 0)) := (hbi.out.cell (p := ⟨bv, ofv + j, none⟩) hbv).trans hcv
                  obtain ⟨z, hz⟩ : ∃ z, z = zs.getD j 0 := ⟨_, rfl⟩
                  obtain ⟨fb, hfb⟩ : ∃ fb, fb = (zs.take j).contains y := ⟨_, rfl⟩
                  rw [← hz] at c0 TK
                  rw [← hfb] at TK ⊢
                  have HB := Lib.hid hbi.out
                  clear hcv hz hfb hbi
                  cases fb
                  · have TK := TK.out
                    rw [Bool.false_or] at TK
                    by_cases hzy : z = y
                    · have d1 : (y == z) = true := by simp [hzy]
                      rw [decide_eq_true hzy] at TK
                      have TK := Lib.hid TK
                      have HZ := Lib.hid hzy
                      clear hzy
                      go_wp2_with fail
                      go_quiet (fail)
                      go_wp2
                      go_roundw
                      case rel => exact ⟨j + 1, by omega, by go_num, by rw [TK.out], below_drewN HB.out _⟩
                      case measure => simp [intOf]; omega
                    · have d1 : (y == z) = false := by rw [beq_eq_false_iff_ne]; exact fun e => hzy (by rw [e])
                      rw [decide_eq_false hzy] at TK
                      have TK := Lib.hid TK
                      have HZ := Lib.hid hzy
                      clear hzy
                      go_wp2_with fail
                      go_quiet (fail)
                      go_wp2
                      go_roundw
                      case rel => exact ⟨j + 1, by omega, by go_num, by rw [TK.out], below_drewN HB.out _⟩
                      case measure => simp [intOf]; omega
                  · have TK := TK.out
                    rw [Bool.true_or] at TK
                    have TK := Lib.hid TK
                    go_wp2_with fail
                    go_quiet (fail)
                    go_wp2
                    go_roundw
                    case rel => exact ⟨j + 1, by omega, by go_num, by rw [TK.out], below_drewN HB.out _⟩
                    case measure => simp [intOf]; omega
                · obtain rfl : j = nz := by omega
                  have hfd : (zs.take j).contains y = true := by rw [List.take_of_length_le (by have := NZ.out; omega)]; exact LA.out
                  have HBI := Lib.hid hbi.out
                  rw [hfd]
                  clear hfd hbi HBO cy
                  go_wp2
                  go_roundw
                  case rel => exact ⟨k + 1, by omega, by go_num, HBI.out⟩
                  case measure => simp [intOf]; omega
            · have HB2 := Lib.hid (below_next B5.out hb.out (Nat.le_refl _))
              have RA9 := Lib.hid (RA.out.below hb.out)
              have SX9 := Lib.hid (SX5.out.below hb.out)
              clear hb HIV HIA PF PB HB1 RA SX5
              go_wp2_with fail
              rw [NP.out]
              refine (implSpansOf_any _ ps wr RA9.out (by have := HPL.out; have := NP.out; omega)).mono ?_
              rintro e w6 ⟨Z, rfl, oz, b6⟩
              rw [H2.out]
              have sz := SRow.of_owns encSpan_len rfl oz
              rw [H3.out] at sz
              have SZ := Lib.hid sz
              have SX6 := Lib.hid (SX9.out.below b6)
              have B6 := Lib.hid (below_next HB2.out b6 (Nat.le_refl _))
              clear oz sz b6 SX9 HB2
              go_wp2_with fail
              refine (implSpansValid_any X (soR zs) w6 SX6.out).mono ?_
              rintro e w7 ⟨rfl, b7⟩
              rw [HV.out]
              have SZ7 := Lib.hid (SZ.out.below b7)
              have SX7 := Lib.hid (SX6.out.below b7)
              have B7 := Lib.hid (below_next B6.out b7 (Nat.le_refl _))
              clear b7 SZ SX6 B6
              go_wp2_with fail
              refine (sameSpans_any Z X (soR zs) w7 SZ7.out SX7.out).mono ?_
              rintro e w8 ⟨rfl, b8⟩
              have B8 := Lib.hid (below_next B7.out b8 (Nat.le_refl _))
              clear b8
              go_wp2
              go_ret
              exact ⟨rfl, B8.out⟩
end Go.Proofs.Ytnlhlgefaamdgaa

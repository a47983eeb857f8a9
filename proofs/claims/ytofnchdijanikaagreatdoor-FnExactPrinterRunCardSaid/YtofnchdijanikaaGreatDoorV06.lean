/-
  PROVED HERE: what the printer's lines need, part V06. Conditions: each theorem's own.
-/
import Derived.Test.YtofnchdijanikaaGreatDoorV05
import Derived.Test.YtofnchdijanikaaGreatDoorV01
set_option linter.unusedVariables false
set_option linter.unusedSimpArgs false
set_option maxRecDepth 100000
namespace Go.Proofs.YtofnchdijanikaaGreatDoor
open Go.RowKit
set_option maxHeartbeats 32000000 in
theorem implPL_any (b : DBook) (hv : bookB b = true) (v : Value) (w : World) (h : BookR w v b) (hz : BookN v) (l : List UInt8) (hl : l.length ≤ 4000000) (htab : LnTab w) :
  Calls Tryz.prog 10 #[v, .string (bs l)] w (LinePost w.heap.size (prLine b l) w) := by
 obtain ⟨p1, q1, rfl, hp, hq⟩ := h
 have hok := bookB_true hv
 obtain ⟨pa, pl, pc, rfl⟩ : ∃ a l c, p1 = .slice a l c := by obtain ⟨va, vc, e, _⟩ := ss_idx hp; exact ⟨_, _, _, e⟩
 obtain ⟨qa, ql, qc, rfl⟩ : ∃ a l c, q1 = .slice a l c := by obtain ⟨a, c, e, _⟩ := hq; exact ⟨_, _, _, e⟩
 obtain ⟨bw, hbw⟩ : ∃ y, y = b.w := ⟨_, rfl⟩
 obtain ⟨bm, hbm⟩ : ∃ y, y = b.most := ⟨_, rfl⟩
 obtain ⟨bl, hbl⟩ : ∃ y, y = b.lines := ⟨_, rfl⟩
 have VB : Hid (∀ y z, bookV y z b = .agg #[y, z, .int .i64 bw, .int .i64 bm, .int .i64 bl]) := fun y z => by rw [hbw, hbm, hbl]; rfl
 have VX : Hid (∀ y z ps qs, bookV y z { b with pars := ps, pats := qs } = .agg #[y, z, .int .i64 bw, .int .i64 bm, .int .i64 bl]) := fun y z ps qs => by unfold bookV; simp only [hbw, hbm, hbl]
 have BRB := hQ (fun w' (hb : Below w.heap.size w w') => BookR.below (b := b) ⟨_, _, rfl, hp, hq⟩ hb)
 have HSH := hQ (bookSh_ok hok)
 have h6 : b.pars.length ≤ 4000000 := by have := hok.six; omega
 have h7 : b.pats.length ≤ 4000000 := by have := (pats_all hok.pats).2; omega
 rw [← hbw, ← hbm, ← hbl] at BRB hz ⊢
 have HZ := hQ hz
 obtain ⟨W2, hW2⟩ : ∃ W2, W2 = ((w.alloc (.cells #[.slice pa pl pc, .slice qa ql qc, .int .i64 bw, .int .i64 bm, .int .i64 bl] BoxT)).alloc (.cells #[.slice none 0 0, .slice none 0 0, .int .i64 0, .int .i64 0, .int .i64 0] BoxT)) := ⟨_, rfl⟩
 have AW : Below w.heap.size w W2 := by rw [hW2]; exact ((Below.refl _ _).alloc nR _).alloc (by simp) _
 have S2 : W2.heap.size = w.heap.size + 2 := by rw [hW2]; simp
 have R1 : W2.ownsRow w.heap.size BoxT 5 (.slice (some ⟨w.heap.size, 0, none⟩) 1 1) 1 [.slice pa pl pc, .slice qa ql qc, .int .i64 bw, .int .i64 bm, .int .i64 bl] := by rw [hW2]; exact (own5_made w nR _ _ _ _ _ _).alloc _
 have R2 : W2.ownsRow w.heap.size BoxT 5 (.slice (some ⟨w.heap.size + 1, 0, none⟩) 1 1) 1 [.slice none 0 0, .slice none 0 0, .int .i64 0, .int .i64 0, .int .i64 0] := by
  have := own5_made (w.alloc (.cells #[.slice pa pl pc, .slice qa ql qc, .int .i64 bw, .int .i64 bm, .int .i64 bl] BoxT)) (B := w.heap.size) (by simp) BoxT (.slice none 0 0) (.slice none 0 0) (.int .i64 0) (.int .i64 0) (.int .i64 0)
  rw [show (w.alloc (.cells #[.slice pa pl pc, .slice qa ql qc, .int .i64 bw, .int .i64 bm, .int .i64 bl] BoxT)).heap.size = w.heap.size + 1 by simp] at this
  rw [hW2]
  exact this
 have HA := hQ AW
 have HS2 := hQ S2
 have H1 := hQ R1
 have H2 := hQ R2
 have HTB : Hid (∀ w', Below w.heap.size w w' → LnTab w') := fun w' hb => htab.below hb nR
 have BV : Hid (Calls Tryz.prog 27 #[.agg #[.slice pa pl pc, .slice qa ql qc, .int .i64 bw, .int .i64 bm, .int .i64 bl]] W2 (Ret (.bool true) W2)) := by
  have := implBook_any b HSH.out _ W2 (BRB.out W2 AW)
  rw [hv] at this
  exact this
 have SPL : Hid (∀ w', Below w.heap.size w w' → Calls Tryz.prog 36 #[.string (bs l), .string (bs [32])] w' fun e w2 => e = .returned (.slice (some ⟨w'.heap.size, 0, none⟩) (wds l).length (wds l).length) ∧ OwnT w2 w'.heap.size (.slice (some ⟨w'.heap.size, 0, none⟩) (wds l).length (wds l).length) (wds l) ∧ Below w'.heap.size w' w2) := fun w' hb => split_any l w' hl (HTB.out w' hb).2
 have CLH : Hid (∀ w', Below w.heap.size w w' → Calls Tryz.prog 37 #[.agg #[.slice pa pl pc, .slice qa ql qc, .int .i64 bw, .int .i64 bm, .int .i64 bl]] w' fun e w2 => ∃ ya ma da yb mb db us2, e = .returned (.agg #[.slice ya ma da, .slice yb mb db, .int .i64 bw, .int .i64 bm, .int .i64 bl]) ∧ OwnB w2 w'.heap.size w2.heap.size (.slice ya ma da) (.slice yb mb db) us2 b ∧ Below w'.heap.size w' w2) := fun w' hb => by
  refine Calls.mono (clone_any b hv _ w' (BRB.out w' hb) hz) ?_
  rintro e w2 ⟨pv2, qv2, us2, rfl, ho, hb⟩
  obtain ⟨ya, ma, da, yb, mb, db, rfl, rfl⟩ := ho.forms
  exact ⟨ya, ma, da, yb, mb, db, us2, by rw [VB.out], ho, hb⟩
 have HV := hQ hv
 have hwd := wds_len l
 have WL := hQ (wds_mem l)
 have HL := hQ hl
 obtain ⟨T, hT⟩ : ∃ T, T = wds l := ⟨_, rfl⟩
 have PRL : Hid (prLine b l = if l = tPages then (b, ansPages b) else if T.getD 0 [] = tText ∧ 1 < T.length then tried b { b with pars := b.pars ++ [T.drop 1] } else if T.getD 0 [] = tHyphen ∧ T.length = 2 then tried b { b with pats := b.pats ++ [T.getD 1 []] } else if T.length = 2 ∧ isNumW (T.getD 0 []) = true then (match numV (T.getD 1 []) with | none => (b, tWhat) | some n => prNum b (T.getD 0 []) n) else (b, tWhat)) := by rw [hT]; rfl
 obtain ⟨r, hr⟩ : ∃ r, r = prLine b l := ⟨_, rfl⟩
 rw [← hr] at PRL ⊢
 rw [← hT] at SPL hwd WL
 obtain ⟨N, hN⟩ : ∃ N, N = T.length := ⟨_, rfl⟩
 rw [← hN] at SPL hwd PRL
 have HN := hQ hN
 clear hok hp hq hbw hbm hbl AW S2 R1 R2 hz hv htab hT hr hN
 unfold BoxT at hW2
 go_enter Tryz.func10, Tryz.ntmps10
 go_upto_region 1 with fail
 rw [← hW2]
 obtain ⟨r0, r1, r2, r3, r4⟩ := own5 H1.out
 clear hW2
 go_upto_region 5 with (first | (go_at_call 27; refine BV.out.mono ?_; rintro e w2 ⟨rfl, hb2⟩; have B2 := hQ (below_next HA.out hb2 nR); have I1 := hQ (owns_below H1.out hb2); have I2 := hQ (owns_below H2.out hb2); obtain ⟨i0, i1, i2, i3, i4⟩ := own5 I1.out) | (go_at_call 36; refine (SPL.out _ B2.out).mono ?_; rintro e w3 ⟨rfl, o3, hb3⟩; have B3 := hQ (below_next B2.out hb3 nR); have J1 := hQ (owns_below I1.out hb3); have J2 := hQ (owns_below I2.out hb3); have O3 := hQ o3; obtain ⟨j0, j1, j2, j3, j4⟩ := own5 J1.out) | (go_at_call 37; refine (CLH.out _ B3.out).mono ?_; rintro e w4 ⟨ya, ma, da, yb, mb, db, us, rfl, ho4, hb4⟩))
 have s2 := hb2.size
 have s3 := hb3.size
 have s4 := hb4.size
 have lt3 := (World.ownsRow.lt O3.out w2.heap.size rfl).2
 have hsw := HS2.out
 have ST : ∃ wc g0 g7 hi, wc = w4.alloc (.cells #[.slice ya ma da, .slice yb mb db, .int .i64 bw, .int .i64 bm, .int .i64 bl] BoxT) ∧ g0 = w2.heap.size ∧ g7 = w4.heap.size ∧ Hid (OwnT wc W2.heap.size (.slice (some ⟨g0, 0, none⟩) N N) T) ∧ Hid (wc.ownsRow w.heap.size BoxT 5 (.slice (some ⟨w.heap.size, 0, none⟩) 1 1) 1 [.slice pa pl pc, .slice qa ql qc, .int .i64 bw, .int .i64 bm, .int .i64 bl]) ∧ Hid (wc.ownsRow w.heap.size BoxT 5 (.slice (some ⟨w.heap.size + 1, 0, none⟩) 1 1) 1 [.slice none 0 0, .slice none 0 0, .int .i64 0, .int .i64 0, .int .i64 0]) ∧ Hid (wc.ownsRow W2.heap.size BoxT 5 (.slice (some ⟨g7, 0, none⟩) 1 1) 1 [.slice ya ma da, .slice yb mb db, .int .i64 bw, .int .i64 bm, .int .i64 bl]) ∧ Hid (OwnB wc W2.heap.size hi (.slice ya ma da) (.slice yb mb db) us b) ∧ hi ≤ g7 ∧ g0 < g7 ∧ Hid (∀ k, (Value.slice ya ma da).ownBlock = some k → g0 < k) ∧ g7 < wc.heap.size ∧ Hid (Below w.heap.size w wc) := by
  have B4 := below_next B3.out hb4 nR
  exact ⟨_, w2.heap.size, w4.heap.size, w4.heap.size, rfl, rfl, rfl, World.ownsRow.alloc (owns_below (OwnT.mono O3.out (by omega : W2.heap.size ≤ w2.heap.size)) hb4) _, (owns_below J1.out hb4).alloc _, (owns_below J2.out hb4).alloc _, own5_made w4 (by omega) _ _ _ _ _ _, (ho4.below ((Below.refl w4.heap.size w4).alloc nR _)).mono (by omega), nR, by omega, (fun k hk => by have := (World.ownsRow.lt ho4.p.2.1 k hk).1; omega), by rw [World.size_alloc]; omega, B4.alloc B4.size _⟩
 obtain ⟨wc, g0, g7, hi, hwc, hg0e, hg7e, HW, HP, HR, HB, HO, hhi, hg0, HYA, hg7, HBW⟩ := ST
 unfold BoxT at hwc
 rw [← hwc, ← hg0e, ← hg7e]
 clear hwc hg0e hg7e H1 H2 BV SPL CLH hb2 hb3 hb4 B2 B3 I1 I2 J1 J2 O3 ho4 i0 i1 i2 i3 i4 j0 j1 j2 j3 j4 r0 r1 r2 r3 r4 s2 s3 s4 lt3
 obtain ⟨c0, c1, c2, c3, c4⟩ := own5 HP.out
 obtain ⟨d0, d1, d2, d3, d4⟩ := own5 HR.out
 obtain ⟨e0, e1, e2, e3, e4⟩ := own5 HB.out
 obtain ⟨n0, n1, n2, n3, n4⟩ := fz5 HR.out
 have FF := hQ (own5_set HR.out (.slice ya ma da) (.slice yb mb db) (.int .i64 bw) (.int .i64 bm) (.int .i64 bl))
 obtain ⟨w0, hw0⟩ : ∃ x, x = T.getD 0 [] := ⟨_, rfl⟩
 obtain ⟨w1, hw1⟩ : ∃ x, x = T.getD 1 [] := ⟨_, rfl⟩
 rw [← hw0, ← hw1] at PRL
 have hN := HN.out
 have WC : Hid (∀ j, j < N → wc.cell? ⟨g0, j, none⟩ = some (.string (bs (T.getD j [])))) := fun j hj => by
  obtain ⟨bq, off, cap, e, _, hcell⟩ := txt_pos (OwnT.row HW.out) (by omega)
  injection e with q1 q2 q3
  injection q1 with q4
  injection q4 with q5 q6
  subst q5 q6
  have := hcell j (by omega)
  rw [Nat.zero_add] at this
  exact this
 have t0 := WC.out 0 (by omega)
 rw [← hw0] at t0
 have HW0 := hQ hw0
 have HW1 := hQ hw1
 have W1C : Hid (1 < N → wc.cell? ⟨g0, 1, none⟩ = some (.string (bs w1))) := fun h1 => by
  have := WC.out 1 h1
  rwa [← hw1] at this
 have hN1 : 1 ≤ N := hwd.2
 have hN2 : (1 : Int) ≤ (N : Int) := by omega
 have hNl : N ≤ 4000001 := by have := hwd.1; have := HL.out; omega
 clear hw0 hw1 hN WC hwd
 by_cases hpg : l = tPages
 ·have ER : r = (b, ansPages b) := by rw [PRL.out, if_pos hpg]
  subst ER
  subst hpg
  unfold tPages
  clear PRL
  have BPH := hQ (implBPages_any b HV.out _ wc (BRB.out _ HBW.out))
  cases hbp : bookP b with
  | none =>
   have EA : Hid (ansPages b = tNo) := by show _ = _; unfold ansPages; rw [hbp]
   have BPN : Hid (Calls Tryz.prog 38 #[.agg #[.slice pa pl pc, .slice qa ql qc, .int .i64 bw, .int .i64 bm, .int .i64 bl]] wc fun e w5 => ∃ v5, e = .returned (.tuple #[v5, .bool false]) ∧ Below wc.heap.size wc w5) := BPH.out.mono fun e w5 ⟨v5, us5, he, _, hb⟩ => ⟨v5, by rw [he, hbp]; rfl, hb⟩
   clear hbp BPH FF d0 d1 d2 d3 d4 n0 n1 n2 n3 n4
   go_wp2_with (go_at_call 38; refine BPN.out.mono ?_; rintro e w5 ⟨v5, rfl, hb5⟩; have KN := hQ (owns_below HB.out hb5); obtain ⟨i0, i1, i2, i3, i4⟩ := own5 KN.out; have KR := hQ (owns_below HR.out hb5); obtain ⟨p0, p1, p2, p3, p4⟩ := own5 KR.out; obtain ⟨n0, n1, n2, n3, n4⟩ := fz5 KR.out; have FF := hQ (own5_set KR.out (.slice ya ma da) (.slice yb mb db) (.int .i64 bw) (.int .i64 bm) (.int .i64 bl)))
   have B5 := below_next HBW.out hb5 nR
   have z5 := hb5.size
   obtain ⟨y0, y1, y2, y3, y4⟩ := own5 FF.out.1
   have hsw := HS2.out
   have fs := FF.out.2.size
   have FX := ((((HO.out.below hb5).wider (by omega : hi ≤ w5.heap.size)).grown FF.out.2 (.inl (by omega))).mono (by omega : w.heap.size ≤ W2.heap.size)).wider fs
   have FB := B5.grown FF.out.2 B5.size (fun k hk => by cases hk; omega)
   refine bodyPost_ret (v := .tuple #[.agg #[.slice ya ma da, .slice yb mb db, .int .i64 bw, .int .i64 bm, .int .i64 bl], .string (bs tNo)]) (by simp [results, Tryz.results10, go_sem, y0, y1, y2, y3, y4]; rfl) rfl ⟨.slice ya ma da, .slice yb mb db, us, by rw [EA.out, VB.out], FX, FB⟩
  | some p =>
   obtain ⟨m, hm⟩ : ∃ m, m = p.length := ⟨_, rfl⟩
   have EA : Hid (ansPages b = Lib.decDigits m) := by show _ = _; unfold ansPages; rw [hbp, hm]
   have BPS : Hid (Calls Tryz.prog 38 #[.agg #[.slice pa pl pc, .slice qa ql qc, .int .i64 bw, .int .i64 bm, .int .i64 bl]] wc fun e w5 => ∃ z c, e = .returned (.tuple #[.slice z m c, .bool true]) ∧ m ≤ 9223372036854775807 ∧ Below wc.heap.size wc w5) := BPH.out.mono fun e w5 ⟨v5, us5, he, ho, hb⟩ => by
    rw [hbp] at he ho
    simp only [Option.getD_some] at ho
    obtain ⟨z, c, rfl⟩ := ho.form
    obtain ⟨_, _, _, hl, _⟩ := ss_idx ho.read
    rw [← hm] at he hl
    exact ⟨z, c, he, hl, hb⟩
   have ITH : Hid (∀ w', Below w.heap.size w w' → m ≤ 9223372036854775807 → Calls Tryz.prog 39 #[.int .i64 m] w' (Ret (.string (bs (Lib.decDigits m))) w')) := fun w' hb hm => by
    have := itoa_any (m : Int) (by omega) (by omega) w' (HTB.out _ hb).1
    rwa [Lib.itoa_nonneg] at this
   have LTR := (World.ownsRow.lt HR.out (w.heap.size + 1) rfl).2
   clear hbp BPH FF d0 d1 d2 d3 d4 n0 n1 n2 n3 n4 hm
   go_upto_region 9 with (go_at_call 38; refine BPS.out.mono ?_; rintro e w5 ⟨z8, c8, rfl, hm9, hb5⟩)
   have B5 := hQ (below_next HBW.out hb5 nR)
   have BD := hQ B5.out.drew
   have D5 := hQ hb5.drew
   have KN := hQ (owns_below HB.out hb5)
   obtain ⟨i0, i1, i2, i3, i4⟩ := own5 KN.out
   have KNd := hQ (owns_below KN.out ((Below.refl w5.heap.size w5).drew))
   have KR := hQ (owns_below (owns_below HR.out hb5) ((Below.refl w5.heap.size w5).drew))
   obtain ⟨p0, p1, p2, p3, p4⟩ := own5 KR.out
   obtain ⟨n0, n1, n2, n3, n4⟩ := fz5 KR.out
   have FD := hQ (own5_set KR.out (.slice ya ma da) (.slice yb mb db) (.int .i64 bw) (.int .i64 bm) (.int .i64 bl))
   have z5 := hb5.size
   have zz : w5.drew.heap.size = w5.heap.size := rfl
   have BS := hQ (BD.out.grown FD.out.2 BD.out.size (fun k hk => by cases hk; omega))
   go_region_with (first
    | (go_at_call 39; refine (ITH.out _ (by with_reducible exact BD.out) hm9).mono ?_; rintro e w6 ⟨rfl, b6⟩; obtain ⟨v0, v1, v2, v3, v4⟩ := own5 (owns_below KNd.out b6); have K6 := hQ (owns_below KR.out b6); obtain ⟨x0, x1, x2, x3, x4⟩ := own5 K6.out; obtain ⟨y0, y1, y2, y3, y4⟩ := fz5 K6.out)
    | (go_at_call 39; refine (ITH.out _ (by with_reducible exact BS.out) hm9).mono ?_; rintro e w6 ⟨rfl, b6⟩; have KS := hQ (owns_below FD.out.1 b6)))
   all_goals first
    | (go_wp2_with fail
       have FF6 := hQ (own5_set K6.out (.slice ya ma da) (.slice yb mb db) (.int .i64 bw) (.int .i64 bm) (.int .i64 bl))
       have B6 := below_next D5.out b6 nR
       have z6 := B6.size
       have B7 := below_next HBW.out B6 nR
       obtain ⟨y0, y1, y2, y3, y4⟩ := own5 FF6.out.1
       have hsw := HS2.out
       have fs := FF6.out.2.size
       have FX := ((((HO.out.below B6).wider (by omega : hi ≤ w6.heap.size)).grown FF6.out.2 (.inl (by omega))).mono (by omega : w.heap.size ≤ W2.heap.size)).wider fs
       have FB := B7.grown FF6.out.2 B7.size (fun k hk => by cases hk; omega)
       refine bodyPost_ret (v := .tuple #[.agg #[.slice ya ma da, .slice yb mb db, .int .i64 bw, .int .i64 bm, .int .i64 bl], .string (bs (Lib.decDigits m))]) (by simp [results, Tryz.results10, go_sem, y0, y1, y2, y3, y4]) rfl ⟨.slice ya ma da, .slice yb mb db, us, by rw [EA.out, VB.out], FX, FB⟩)
    | (go_wp2_with fail
       obtain ⟨y0, y1, y2, y3, y4⟩ := own5 KS.out
       have hsw := HS2.out
       have fs := FD.out.2.size
       have f6 := b6.size
       have O6 := (((HO.out.below D5.out).wider (by omega : hi ≤ w5.drew.heap.size)).grown FD.out.2 (.inl (by omega))).below b6
       have FX := (O6.mono (by omega : w.heap.size ≤ W2.heap.size)).wider (Nat.le_trans fs f6)
       have FB := below_next BS.out b6 nR
       refine bodyPost_ret (v := .tuple #[.agg #[.slice ya ma da, .slice yb mb db, .int .i64 bw, .int .i64 bm, .int .i64 bl], .string (bs (Lib.decDigits m))]) (by simp [results, Tryz.results10, go_sem, y0, y1, y2, y3, y4]) rfl ⟨.slice ya ma da, .slice yb mb db, us, by rw [EA.out, VB.out], FX, FB⟩)
 ·rw [if_neg hpg] at PRL
  have f0 : (l == [112, 97, 103, 101, 115]) = false := by
   cases h : (l == [112, 97, 103, 101, 115])
   ·rfl
   ·exact absurd (beq_iff_eq.1 h) hpg
  clear hpg
  by_cases htx : w0 = tText
  ·subst htx
   unfold tText at t0 PRL
   by_cases hn : 1 < N
   ·have ER : Hid (r = tried b { b with pars := b.pars ++ [T.drop 1] }) := by show _ = _; rw [PRL.out, if_pos ⟨rfl, hn⟩]
    obtain ⟨D, hD⟩ : ∃ D, D = T.drop 1 := ⟨_, rfl⟩
    rw [← hD] at ER
    have DL : D.length = N - 1 := by rw [hD, List.length_drop, HN.out]
    have SX : Hid (BookSh { b with pars := b.pars ++ [D] }) := ⟨fun p hp => by
     rcases List.mem_append.1 hp with h | h
     ·exact HSH.out.pars p h
     ·rw [List.mem_singleton.1 h]
      intro y hy
      rw [hD] at hy
      have := WL.out y (List.mem_of_mem_drop hy)
      have := HL.out
      omega, HSH.out.pats⟩
    have TD : Hid (∀ w', Below wc.heap.size wc w' → TxtS w' (.slice (some ⟨g0, 1, none⟩) (N - 1) (N - 1)) D) := fun w' hb => by
     have h1 := txt_part (OwnT.row (HW.out.below hb)) 1 N (N - 1) (by omega) (by rw [HN.out]; exact nR)
     rw [← hD, List.take_of_length_le (by omega)] at h1
     exact h1
    have NCD : NC (.slice (some ⟨g0, 1, none⟩) (N - 1) (N - 1)) := fun c n e => by cases e
    have DLL : D.length ≤ 4000000 := by omega
    have PRT : Hid (∀ w', Below w.heap.size w w' → W2.heap.size ≤ w'.heap.size → ∀ pv qv us', OwnB w' W2.heap.size w'.heap.size pv qv us' { b with pars := b.pars ++ [D] } → Calls Tryz.prog 40 #[.agg #[.slice pa pl pc, .slice qa ql qc, .int .i64 bw, .int .i64 bm, .int .i64 bl], .agg #[pv, qv, .int .i64 bw, .int .i64 bm, .int .i64 bl]] w' fun e w9 => ∃ zc lc cc zd ld cd rw rm rl us2, e = .returned (.tuple #[.agg #[.slice zc lc cc, .slice zd ld cd, .int .i64 rw, .int .i64 rm, .int .i64 rl], .string (bs r.2)]) ∧ Hid (bookV (.slice zc lc cc) (.slice zd ld cd) r.1 = .agg #[.slice zc lc cc, .slice zd ld cd, .int .i64 rw, .int .i64 rm, .int .i64 rl]) ∧ OwnB w9 W2.heap.size w9.heap.size (.slice zc lc cc) (.slice zd ld cd) us2 r.1 ∧ Below w'.heap.size w' w9) := fun w' hb hs pv qv us' ho => by
     have := printed_any b { b with pars := b.pars ++ [D] } HV.out SX.out _ w' (BRB.out w' hb) HZ.out W2.heap.size hs pv qv us' ho
     rw [show bookV pv qv { b with pars := b.pars ++ [D] } = .agg #[pv, qv, .int .i64 bw, .int .i64 bm, .int .i64 bl] from VX.out pv qv (b.pars ++ [D]) b.pats, ← ER.out] at this
     refine this.mono ?_
     rintro e w9 ⟨pv2, qv2, us2, rfl, ho2, hb2⟩
     obtain ⟨zc, lc, cc, zd, ld, cd, rfl, rfl⟩ := ho2.forms
     exact ⟨zc, lc, cc, zd, ld, cd, _, _, _, us2, rfl, rfl, ho2, hb2⟩
    have hn3 : ¬ N = 1 := by omega
    have hn4 : (1 : Int) < (N : Int) := by omega
    have W2c : W2.heap.size ≤ wc.heap.size := by have := (World.ownsRow.lt HB.out g7 rfl).1; omega
    have hB7 := (World.ownsRow.lt HB.out g7 rfl).1
    have YH := hQ (fun k hk => HO.out.p.2.2.1 k hk)
    have YB := hQ (fun k hk => (World.ownsRow.lt HO.out.p.2.1 k hk).1)
    have UH := hQ HO.out.p.us_lt
    have AP := hQ HO.out.ap
    have E0 := hQ ((Below.refl wc.heap.size wc).drew)
    have x01 := (own5 (owns_below HB.out E0.out)).1
    have hicw : hi ≤ wc.heap.size := by omega
    have hsw0 := HS2.out
    clear hD PRL ER SX FF d0 d1 d2 d3 d4 n0 n1 n2 n3 n4
    go_upto_region 11 with fail
    go_region_law (first
     | (refine step_strs wc.drew wc.drew rfl _ _ rfl wc.heap.size (.slice none 0 0) [] D (.slice (some ⟨g0, 1, none⟩) (N - 1) (N - 1)) rfl rfl (OwnT.nil _ _) (TD.out _ E0.out) NCD (by decide) DLL nR (Below.refl _ _) ?_; intro zr nr cr w5 o5 b5 m5 gr5; have B5 := hQ (below_next E0.out b5 nR); have U5 := hQ (HO.out.p.below B5.out); have X5 := hQ (owns_below HB.out B5.out); have x5 := (own5 X5.out).1; have x6 := (own5 (World.ownsRow.alloc X5.out (.cells #[.slice zr nr cr] 23))).1; have sz5 := B5.out.size; have O5 := hQ (show OwnT w5 W2.heap.size (.slice zr nr cr) D from OwnT.mono o5 W2c); have D5 : Hid (∀ q, (Value.slice zr nr cr).ownBlock = some q → wc.heap.size ≤ q) := (fun q hq => (World.ownsRow.lt o5 q hq).1))
     | (refine step_ss w5 w5 rfl _ _ rfl W2.heap.size hi (.slice ya ma da) b.pars us zr nr cr D rfl rfl U5.out (Nat.le_trans hicw sz5) O5.out (fun q hq => Nat.le_trans hicw (D5.out q hq)) h6 (Nat.le_trans W2c sz5) (Below.refl _ _) ?_; intro z' n' c' w7 o7 b7 m7 gr7; have X7 := hQ (World.ownsRow.kept X5.out gr7 (.inr (fun e => (by have := YH.out g7 e.symm; omega)))); have x7 := (own5 X7.out).1; have y7 := World.ownsRow.frozenAt X7.out 0; have T7 := hQ (X7.out.stored 0 (.slice z' n' c'))))
    all_goals
     have BW5 := below_next HBW.out B5.out nR
     have BW7 := BW5.trans (b7.mono (by omega : w.heap.size ≤ W2.heap.size))
     have B8 := hQ (BW7.grown T7.out.2 BW7.size (fun k hk => by cases hk; omega))
     have fs8 := T7.out.2.size
     have gs7 := gr7.size
     have sz8 : wc.heap.size ≤ (w7.setCell ⟨g7, 0, none⟩ (.slice z' n' c')).heap.size := by omega
     have nY : ∀ m, m < W2.heap.size → some m ≠ (Value.slice ya ma da).ownBlock := fun m hm e => by have := YB.out m e.symm; omega
     have N8 : (w7.setCell ⟨g7, 0, none⟩ (.slice z' n' c')).ownsRow W2.heap.size BoxT 5 (.slice (some ⟨g7, 0, none⟩) 1 1) 1 [.slice z' n' c', .slice yb mb db, .int .i64 bw, .int .i64 bm, .int .i64 bl] := T7.out.1
     have P8 := World.ownsRow.kept (World.ownsRow.kept (owns_below HP.out B5.out) gr7 (.inr (nY w.heap.size (by omega)))) T7.out.2 (.inr (show some w.heap.size ≠ some g7 from fun e => by have := Option.some.inj e; omega))
     have R8 := World.ownsRow.kept (World.ownsRow.kept (owns_below HR.out B5.out) gr7 (.inr (nY (w.heap.size + 1) (by omega)))) T7.out.2 (.inr (show some (w.heap.size + 1) ≠ some g7 from fun e => by have := Option.some.inj e; omega))
     have zB : ∀ k, (Value.slice z' n' c').ownBlock = some k → (Value.slice ya ma da).ownBlock = some k ∨ wc.heap.size ≤ k := fun k hk => by
      rcases m7 with m7 | m7
      ·left; rw [← m7]; exact hk
      ·right
       have h9 := m7 k hk
       rw [World.size_alloc] at h9
       omega
     have uB : ∀ u ∈ us ++ [.slice zr nr cr], ∀ k, u.ownBlock = some k → u ∈ us ∧ k < hi ∨ wc.heap.size ≤ k := fun u hu k hk => by
      rcases List.mem_append.1 hu with h | h
      ·exact .inl ⟨h, (UH.out u h k hk).2⟩
      ·right
       rw [List.mem_singleton.1 h] at hk
       exact D5.out k hk
     have qn : ∀ m, (∀ k, (Value.slice yb mb db).ownBlock = some k → k ≠ m) → (Value.slice yb mb db).ownBlock = none ∨ (Value.slice yb mb db).ownBlock ≠ some m := fun m hm => by
      cases hh : (Value.slice yb mb db).ownBlock with
      | none => exact .inl rfl
      | some k => exact .inr fun e => hm k hh (Option.some.inj e)
     have Q7 : (Value.slice yb mb db).ownBlock = none ∨ (Value.slice yb mb db).ownBlock ≠ (Value.slice ya ma da).ownBlock := by
      cases hh : (Value.slice yb mb db).ownBlock with
      | none => exact .inl rfl
      | some k => exact .inr fun e => (AP.out k hh).2.1 e.symm
     have OX : OwnB (w7.setCell ⟨g7, 0, none⟩ (.slice z' n' c')) W2.heap.size (w7.setCell ⟨g7, 0, none⟩ (.slice z' n' c')).heap.size (.slice z' n' c') (.slice yb mb db) (us ++ [.slice zr nr cr]) { b with pars := b.pars ++ [D] } := by
      refine ⟨(o7.grown' T7.out.2 (fun k e hk => ?_) (fun k e u hu hk => ?_)).wider fs8, World.ownsRow.kept (World.ownsRow.kept (owns_below HO.out.q B5.out) gr7 Q7) T7.out.2 (qn _ fun k hk => ?_), fun k hk => ⟨?_, fun e => ?_, fun u hu e => ?_⟩⟩
      ·cases e
       rcases zB _ hk with h | h
       ·have := YH.out _ h; omega
       ·omega
      ·cases e
       rcases uB u hu _ hk with h | h
       ·omega
       ·omega
      ·have := (AP.out k hk).1; omega
      ·have := (AP.out k hk).1; omega
      ·rcases zB _ e with h | h
       ·exact (AP.out k hk).2.1 h
       ·have := (AP.out k hk).1; omega
      ·rcases uB u hu _ e with h | h
       ·exact (AP.out k hk).2.2 u h.1 e
       ·have := (AP.out k hk).1; omega
     clear U5 X5 X7 T7 m7 gr7 b7 o7 o5 b5 m5 gr5 O5 D5 nY zB uB qn Q7 x5 x6 x7 y7 x01 BW5 BW7 t0
     have PR := hQ (PRT.out _ B8.out (Nat.le_trans W2c sz8) _ _ _ OX)
     have N8c := hQ N8
     obtain ⟨i0, i1, i2, i3, i4⟩ := own5 N8
     obtain ⟨j0, j1, j2, j3, j4⟩ := own5 P8
     have R8c := hQ R8
     clear N8 P8 R8 OX
     go_wp2_with (go_at_call 40; refine PR.out.mono ?_; rintro e w9 ⟨zc, lc, cc, zd, ld, cd, rw, rm, rl, us2, rfl, hbv, ho9, hb9⟩; have K9 := hQ (owns_below R8c.out hb9); obtain ⟨p0, p1, p2, p3, p4⟩ := own5 K9.out; obtain ⟨n0, n1, n2, n3, n4⟩ := fz5 K9.out; have FF := hQ (own5_set K9.out (.slice zc lc cc) (.slice zd ld cd) (.int .i64 rw) (.int .i64 rm) (.int .i64 rl)))
     obtain ⟨y0, y1, y2, y3, y4⟩ := own5 FF.out.1
     have hsw := HS2.out
     have fs := FF.out.2.size
     have FX := ((ho9.grown FF.out.2 (.inl (by omega))).mono (by omega : w.heap.size ≤ W2.heap.size)).wider fs
     have B9 := below_next B8.out hb9 nR
     have FB := B9.grown FF.out.2 B9.size (fun k hk => by cases hk; omega)
     refine bodyPost_ret (v := .tuple #[.agg #[.slice zc lc cc, .slice zd ld cd, .int .i64 rw, .int .i64 rm, .int .i64 rl], .string (bs r.2)]) (by simp [results, Tryz.results10, go_sem, y0, y1, y2, y3, y4]) rfl ⟨.slice zc lc cc, .slice zd ld cd, us2, by rw [hbv.out], FX, FB⟩
   ·obtain rfl : N = 1 := by omega
    have ER : r = (b, tWhat) := by rw [PRL.out, if_neg (fun h => hn h.2), if_neg (fun h => absurd h.1 (by decide)), if_neg (fun h => absurd h.1 (by decide))]
    subst ER
    go_wp2_with fail
    obtain ⟨y0, y1, y2, y3, y4⟩ := own5 FF.out.1
    have hsw := HS2.out
    have fs := FF.out.2.size
    have FX := (((HO.out.wider (by omega : hi ≤ wc.heap.size)).grown FF.out.2 (.inl (by omega))).mono (by omega : w.heap.size ≤ W2.heap.size)).wider fs
    have FB := HBW.out.grown FF.out.2 HBW.out.size (fun k hk => by cases hk; omega)
    refine bodyPost_ret (v := .tuple #[.agg #[.slice ya ma da, .slice yb mb db, .int .i64 bw, .int .i64 bm, .int .i64 bl], .string (bs tWhat)]) (by simp [results, Tryz.results10, go_sem, y0, y1, y2, y3, y4]; rfl) rfl ⟨.slice ya ma da, .slice yb mb db, us, by rw [VB.out], FX, FB⟩
  ·rw [if_neg (fun h => htx h.1)] at PRL
   have f1 : (w0 == [116, 101, 120, 116]) = false := by
    cases h : (w0 == [116, 101, 120, 116])
    ·rfl
    ·exact absurd (beq_iff_eq.1 h) htx
   by_cases hhy : w0 = tHyphen
   ·subst hhy
    unfold tHyphen at t0 PRL
    by_cases hn : N = 2
    ·have ER : Hid (r = tried b { b with pats := b.pats ++ [w1] }) := by show _ = _; rw [PRL.out, if_pos ⟨rfl, hn⟩]
     subst hn
     have hw1l : w1.length ≤ 4000000 := by
      have h1 := WL.out w1 (by rw [HW1.out, getD_eq T [] 1 (by have := HN.out; omega)]; exact List.getElem_mem _)
      have h2 := HL.out
      omega
     have t1 := W1C.out (by omega)
     have SX : Hid (BookSh { b with pats := b.pats ++ [w1] }) := ⟨HSH.out.pars, fun y hy => by
      rcases List.mem_append.1 hy with h | h
      ·exact HSH.out.pats y h
      ·rw [List.mem_singleton.1 h]
       exact hw1l⟩
     have PRT : Hid (∀ w', Below w.heap.size w w' → W2.heap.size ≤ w'.heap.size → ∀ pv qv us', OwnB w' W2.heap.size w'.heap.size pv qv us' { b with pats := b.pats ++ [w1] } → Calls Tryz.prog 40 #[.agg #[.slice pa pl pc, .slice qa ql qc, .int .i64 bw, .int .i64 bm, .int .i64 bl], .agg #[pv, qv, .int .i64 bw, .int .i64 bm, .int .i64 bl]] w' fun e w9 => ∃ zc lc cc zd ld cd rw rm rl us2, e = .returned (.tuple #[.agg #[.slice zc lc cc, .slice zd ld cd, .int .i64 rw, .int .i64 rm, .int .i64 rl], .string (bs r.2)]) ∧ Hid (bookV (.slice zc lc cc) (.slice zd ld cd) r.1 = .agg #[.slice zc lc cc, .slice zd ld cd, .int .i64 rw, .int .i64 rm, .int .i64 rl]) ∧ OwnB w9 W2.heap.size w9.heap.size (.slice zc lc cc) (.slice zd ld cd) us2 r.1 ∧ Below w'.heap.size w' w9) := fun w' hb hs pv qv us' ho => by
      have := printed_any b { b with pats := b.pats ++ [w1] } HV.out SX.out _ w' (BRB.out w' hb) HZ.out W2.heap.size hs pv qv us' ho
      rw [show bookV pv qv { b with pats := b.pats ++ [w1] } = .agg #[pv, qv, .int .i64 bw, .int .i64 bm, .int .i64 bl] from VX.out pv qv b.pars (b.pats ++ [w1]), ← ER.out] at this
      refine this.mono ?_
      rintro e w9 ⟨pv2, qv2, us2, rfl, ho2, hb2⟩
      obtain ⟨zc, lc, cc, zd, ld, cd, rfl, rfl⟩ := ho2.forms
      exact ⟨zc, lc, cc, zd, ld, cd, _, _, _, us2, rfl, rfl, ho2, hb2⟩
     have W2c : W2.heap.size ≤ wc.heap.size := by have := (World.ownsRow.lt HB.out g7 rfl).1; omega
     have hB7 := (World.ownsRow.lt HB.out g7 rfl).1
     have YH := hQ (fun k hk => HO.out.p.2.2.1 k hk)
     have QB := hQ (fun k hk => (World.ownsRow.lt HO.out.q k hk).1)
     have UH := hQ HO.out.p.us_lt
     have AP := hQ HO.out.ap
     have E0 := hQ ((Below.refl wc.heap.size wc).drew)
     have x01 := (own5 (owns_below HB.out E0.out)).2.1
     have x02 : (wc.alloc (.cells #[.string (bs w1)] 9)).drew.cell? ⟨g7, 1, none⟩ = some (.slice yb mb db) := (own5 (World.ownsRow.alloc HB.out (.cells #[.string (bs w1)] 9))).2.1
     have x03 := (own5 (World.ownsRow.alloc HB.out (.cells #[.string (bs w1)] 9))).2.1
     have HQd := hQ (HO.out.q.below E0.out)
     have hsw0 := HS2.out
     clear PRL ER SX FF d0 d1 d2 d3 d4 n0 n1 n2 n3 n4
     go_upto_region 14 with fail
     go_region_law (refine step_str wc.drew wc.drew rfl _ _ rfl W2.heap.size (.slice yb mb db) b.pats w1 rfl rfl HQd.out h7 W2c (Below.refl _ _) ?_; intro z' n' c' w7 o7 b7 m7 gr7; have X7 := hQ (World.ownsRow.kept (owns_below HB.out E0.out) gr7 (.inr (fun e => (by have := (AP.out g7 e.symm).1; omega)))); have x7 := (own5 X7.out).2.1; have y7 := World.ownsRow.frozenAt X7.out 1; have T7 := hQ (X7.out.stored 1 (.slice z' n' c')))
     all_goals
      have BW5 := below_next HBW.out E0.out nR
      have BW7 := BW5.trans (b7.mono (by omega : w.heap.size ≤ W2.heap.size))
      have B8 := hQ (BW7.grown T7.out.2 BW7.size (fun k hk => by cases hk; omega))
      have fs8 := T7.out.2.size
      have gs7 : wc.heap.size ≤ w7.heap.size := gr7.size
      have sz8 : wc.heap.size ≤ (w7.setCell ⟨g7, 1, none⟩ (.slice z' n' c')).heap.size := by omega
      have nY : ∀ m, m < W2.heap.size → some m ≠ (Value.slice yb mb db).ownBlock := fun m hm e => by have := QB.out m e.symm; omega
      have N8 : (w7.setCell ⟨g7, 1, none⟩ (.slice z' n' c')).ownsRow W2.heap.size BoxT 5 (.slice (some ⟨g7, 0, none⟩) 1 1) 1 [.slice ya ma da, .slice z' n' c', .int .i64 bw, .int .i64 bm, .int .i64 bl] := T7.out.1
      have P8 := World.ownsRow.kept (World.ownsRow.kept (owns_below HP.out E0.out) gr7 (.inr (nY w.heap.size (by omega)))) T7.out.2 (.inr (show some w.heap.size ≠ some g7 from fun e => by have := Option.some.inj e; omega))
      have R8 := World.ownsRow.kept (World.ownsRow.kept (owns_below HR.out E0.out) gr7 (.inr (nY (w.heap.size + 1) (by omega)))) T7.out.2 (.inr (show some (w.heap.size + 1) ≠ some g7 from fun e => by have := Option.some.inj e; omega))
      have zB : ∀ k, (Value.slice z' n' c').ownBlock = some k → (Value.slice yb mb db).ownBlock = some k ∨ wc.heap.size ≤ k := fun k hk => by
       rcases m7 with m7 | m7
       ·left; rw [← m7]; exact hk
       ·right
        have h9 : (wc.alloc _).heap.size ≤ k := m7 k hk
        rw [World.size_alloc] at h9
        omega
      have OX : OwnB (w7.setCell ⟨g7, 1, none⟩ (.slice z' n' c')) W2.heap.size (w7.setCell ⟨g7, 1, none⟩ (.slice z' n' c')).heap.size (.slice ya ma da) (.slice z' n' c') us { b with pats := b.pats ++ [w1] } := by
       refine ⟨(((HO.out.p.below E0.out).grown' gr7 (fun k e => (AP.out k e).2.1) (fun k e u hu => (AP.out k e).2.2 u hu)).grown' T7.out.2 (fun k e hk => ?_) (fun k e u hu hk => ?_)).wider (by omega), World.ownsRow.kept o7 T7.out.2 ?_, fun k hk => ⟨?_, fun e => ?_, fun u hu e => ?_⟩⟩
       ·cases e
        have := YH.out _ hk; omega
       ·cases e
        have := (UH.out u hu _ hk).2; omega
       ·cases hh : (Value.slice z' n' c').ownBlock with
        | none => exact .inl rfl
        | some k =>
         refine .inr fun e => ?_
         have e2 : k = g7 := Option.some.inj e
         rcases zB _ hh with h | h
         ·have := (AP.out k h).1; omega
         ·omega
       ·have := (World.ownsRow.lt o7 k hk).2; omega
       ·rcases zB _ hk with h | h
        ·exact (AP.out k h).2.1 e
        ·have := YH.out _ e; omega
       ·rcases zB _ hk with h | h
        ·exact (AP.out k h).2.2 u hu e
        ·have := (UH.out u hu _ e).2; omega
      clear X7 T7 m7 gr7 b7 o7 nY zB x7 y7 x01 x02 x03 BW5 BW7 t0 t1 HQd
      have PR := hQ (PRT.out _ B8.out (Nat.le_trans W2c sz8) _ _ _ OX)
      have N8c := hQ N8
      obtain ⟨i0, i1, i2, i3, i4⟩ := own5 N8
      obtain ⟨j0, j1, j2, j3, j4⟩ := own5 P8
      have R8c := hQ R8
      clear N8 P8 R8 OX
      go_wp2_with (go_at_call 40; refine PR.out.mono ?_; rintro e w9 ⟨zc, lc, cc, zd, ld, cd, rw, rm, rl, us2, rfl, hbv, ho9, hb9⟩; have K9 := hQ (owns_below R8c.out hb9); obtain ⟨p0, p1, p2, p3, p4⟩ := own5 K9.out; obtain ⟨n0, n1, n2, n3, n4⟩ := fz5 K9.out; have FF := hQ (own5_set K9.out (.slice zc lc cc) (.slice zd ld cd) (.int .i64 rw) (.int .i64 rm) (.int .i64 rl)))
      obtain ⟨y0, y1, y2, y3, y4⟩ := own5 FF.out.1
      have hsw := HS2.out
      have fs := FF.out.2.size
      have FX := ((ho9.grown FF.out.2 (.inl (by omega))).mono (by omega : w.heap.size ≤ W2.heap.size)).wider fs
      have B9 := below_next B8.out hb9 nR
      have FB := B9.grown FF.out.2 B9.size (fun k hk => by cases hk; omega)
      refine bodyPost_ret (v := .tuple #[.agg #[.slice zc lc cc, .slice zd ld cd, .int .i64 rw, .int .i64 rm, .int .i64 rl], .string (bs r.2)]) (by simp [results, Tryz.results10, go_sem, y0, y1, y2, y3, y4]) rfl ⟨.slice zc lc cc, .slice zd ld cd, us2, by rw [hbv.out], FX, FB⟩
    ·have ER : r = (b, tWhat) := by rw [PRL.out, if_neg (fun h => hn h.2), if_neg (fun h => hn h.1)]
     subst ER
     have hn2 : ¬ (N : Int) = 2 := by omega
     go_wp2_with fail
     obtain ⟨y0, y1, y2, y3, y4⟩ := own5 FF.out.1
     have hsw := HS2.out
     have fs := FF.out.2.size
     have FX := (((HO.out.wider (by omega : hi ≤ wc.heap.size)).grown FF.out.2 (.inl (by omega))).mono (by omega : w.heap.size ≤ W2.heap.size)).wider fs
     have FB := HBW.out.grown FF.out.2 HBW.out.size (fun k hk => by cases hk; omega)
     refine bodyPost_ret (v := .tuple #[.agg #[.slice ya ma da, .slice yb mb db, .int .i64 bw, .int .i64 bm, .int .i64 bl], .string (bs tWhat)]) (by simp [results, Tryz.results10, go_sem, y0, y1, y2, y3, y4]; rfl) rfl ⟨.slice ya ma da, .slice yb mb db, us, by rw [VB.out], FX, FB⟩
   ·rw [if_neg (fun h => hhy h.1)] at PRL
    have f2 : (w0 == [104, 121, 112, 104, 101, 110]) = false := by
     cases h : (w0 == [104, 121, 112, 104, 101, 110])
     ·rfl
     ·exact absurd (beq_iff_eq.1 h) hhy
    by_cases hn : N = 2
    ·subst hn
     cases hnw : isNumW w0 with
     | false =>
      have ER : r = (b, tWhat) := by rw [PRL.out, if_neg (fun h => by rw [hnw] at h; cases h.2)]
      subst ER
      obtain ⟨f3, f4, f5, f6⟩ := isNumW_false hnw
      clear hnw
      go_wp2_with fail
      obtain ⟨y0, y1, y2, y3, y4⟩ := own5 FF.out.1
      have hsw := HS2.out
      have fs := FF.out.2.size
      have FX := (((HO.out.wider (by omega : hi ≤ wc.heap.size)).grown FF.out.2 (.inl (by omega))).mono (by omega : w.heap.size ≤ W2.heap.size)).wider fs
      have FB := HBW.out.grown FF.out.2 HBW.out.size (fun k hk => by cases hk; omega)
      refine bodyPost_ret (v := .tuple #[.agg #[.slice ya ma da, .slice yb mb db, .int .i64 bw, .int .i64 bm, .int .i64 bl], .string (bs tWhat)]) (by simp [results, Tryz.results10, go_sem, y0, y1, y2, y3, y4]; rfl) rfl ⟨.slice ya ma da, .slice yb mb db, us, by rw [VB.out], FX, FB⟩
     | true =>
      have hw1l : w1.length ≤ 4000000 := by
       have h1 := WL.out w1 (by rw [HW1.out, getD_eq T [] 1 (by have := HN.out; omega)]; exact List.getElem_mem _)
       have h2 := HL.out
       omega
      have t1 := W1C.out (by omega)
      rcases isNumW_true hnw with rfl | rfl | rfl | rfl
      ·unfold tWidth at t0 PRL hnw
       cases hnv : numV w1 with
       | none =>
        have ER : r = (b, tWhat) := by rw [PRL.out, if_pos ⟨rfl, hnw⟩, hnv]
        subst ER
        have NUN : Hid (Calls Tryz.prog 41 #[.string (bs w1)] wc fun e w5 => ∃ nn, e = .returned (.tuple #[.int .i64 nn, .bool false]) ∧ Below wc.heap.size wc w5) := (number_any w1 hw1l wc (HTB.out _ HBW.out).1).mono fun e w5 ⟨nn, he, _, hb⟩ => ⟨nn, by rw [he, hnv]; rfl, hb⟩
        clear hnw hnv FF d0 d1 d2 d3 d4 n0 n1 n2 n3 n4
        go_wp2_with (go_at_call 41; refine NUN.out.mono ?_; rintro e w5 ⟨nn, rfl, hb5⟩; have KN := hQ (owns_below HB.out hb5); obtain ⟨i0, i1, i2, i3, i4⟩ := own5 KN.out; have KR := hQ (owns_below HR.out hb5); obtain ⟨p0, p1, p2, p3, p4⟩ := own5 KR.out; obtain ⟨n0, n1, n2, n3, n4⟩ := fz5 KR.out; have FF := hQ (own5_set KR.out (.slice ya ma da) (.slice yb mb db) (.int .i64 bw) (.int .i64 bm) (.int .i64 bl)))
        have B5 := below_next HBW.out hb5 nR
        have z5 := hb5.size
        obtain ⟨y0, y1, y2, y3, y4⟩ := own5 FF.out.1
        have hsw := HS2.out
        have fs := FF.out.2.size
        have FX := ((((HO.out.below hb5).wider (by omega : hi ≤ w5.heap.size)).grown FF.out.2 (.inl (by omega))).mono (by omega : w.heap.size ≤ W2.heap.size)).wider fs
        have FB := B5.grown FF.out.2 B5.size (fun k hk => by cases hk; omega)
        refine bodyPost_ret (v := .tuple #[.agg #[.slice ya ma da, .slice yb mb db, .int .i64 bw, .int .i64 bm, .int .i64 bl], .string (bs tWhat)]) (by simp [results, Tryz.results10, go_sem, y0, y1, y2, y3, y4]; rfl) rfl ⟨.slice ya ma da, .slice yb mb db, us, by rw [VB.out], FX, FB⟩
       | some n =>
        have ER : Hid (r = prNum b [119, 105, 100, 116, 104] n) := by show _ = _; rw [PRL.out, if_pos ⟨rfl, hnw⟩, hnv]
        have hn9 : n ≤ 999999 := numV_le hnv
        have NUS : Hid (Calls Tryz.prog 41 #[.string (bs w1)] wc fun e w5 => e = .returned (.tuple #[.int .i64 n, .bool true]) ∧ Below wc.heap.size wc w5) := (number_any w1 hw1l wc (HTB.out _ HBW.out).1).mono fun e w5 ⟨nn, he, h2, hb⟩ => ⟨by rw [he, hnv, h2 n hnv]; rfl, hb⟩
        have PNH : Hid (∀ w', Below w.heap.size w w' → Calls Tryz.prog 42 #[.agg #[.slice pa pl pc, .slice qa ql qc, .int .i64 bw, .int .i64 bm, .int .i64 bl], .string (bs [119, 105, 100, 116, 104]), .int .i64 n] w' fun e w6 => ∃ zc lc cc zd ld cd rw rm rl us2, e = .returned (.tuple #[.agg #[.slice zc lc cc, .slice zd ld cd, .int .i64 rw, .int .i64 rm, .int .i64 rl], .string (bs r.2)]) ∧ Hid (bookV (.slice zc lc cc) (.slice zd ld cd) r.1 = .agg #[.slice zc lc cc, .slice zd ld cd, .int .i64 rw, .int .i64 rm, .int .i64 rl]) ∧ OwnB w6 w'.heap.size w6.heap.size (.slice zc lc cc) (.slice zd ld cd) us2 r.1 ∧ Below w'.heap.size w' w6) := fun w' hb => by
         have := prNum_any b HV.out _ w' (BRB.out w' hb) HZ.out [119, 105, 100, 116, 104] hnw n hn9
         rw [← ER.out] at this
         refine this.mono ?_
         rintro e w6 ⟨pv2, qv2, us2, rfl, ho2, hb2⟩
         obtain ⟨zc, lc, cc, zd, ld, cd, rfl, rfl⟩ := ho2.forms
         exact ⟨zc, lc, cc, zd, ld, cd, _, _, _, us2, rfl, rfl, ho2, hb2⟩
        have LTR := (World.ownsRow.lt HR.out (w.heap.size + 1) rfl).2
        clear hnw hnv FF d0 d1 d2 d3 d4 n0 n1 n2 n3 n4 ER PRL
        go_upto_region 20 with (go_at_call 41; refine NUS.out.mono ?_; rintro e w5 ⟨rfl, hb5⟩)
        have B5 := hQ (below_next HBW.out hb5 nR)
        have BD := hQ B5.out.drew
        have KP := hQ (owns_below HP.out hb5)
        obtain ⟨i0, i1, i2, i3, i4⟩ := own5 KP.out
        have KR := hQ (owns_below (owns_below HR.out hb5) ((Below.refl w5.heap.size w5).drew))
        have t5 : w5.cell? ⟨g0, 0, none⟩ = some (.string (bs [119, 105, 100, 116, 104])) := (hb5.cell (p := ⟨g0, 0, none⟩) (World.block_lt_of_cell? wc _ t0)).trans t0
        have z5 := hb5.size
        go_region_with (go_at_call 42; refine (PNH.out _ BD.out).mono ?_; rintro e w6 ⟨zc, lc, cc, zd, ld, cd, rw, rm, rl, us2, rfl, hbv, ho6, hb6⟩; have K6 := hQ (owns_below KR.out hb6); obtain ⟨p0, p1, p2, p3, p4⟩ := own5 K6.out; obtain ⟨n0, n1, n2, n3, n4⟩ := fz5 K6.out; have FF := hQ (own5_set K6.out (.slice zc lc cc) (.slice zd ld cd) (.int .i64 rw) (.int .i64 rm) (.int .i64 rl)))
        all_goals
         go_wp2_with fail
         obtain ⟨y0, y1, y2, y3, y4⟩ := own5 FF.out.1
         have zz : w5.drew.heap.size = w5.heap.size := rfl
         have fs := FF.out.2.size
         have s5 := B5.out.size
         have FX := ((ho6.grown FF.out.2 (.inl (by omega))).mono (by omega : w.heap.size ≤ w5.drew.heap.size)).wider fs
         have B6 := below_next BD.out hb6 nR
         have FB := B6.grown FF.out.2 B6.size (fun k hk => by cases hk; omega)
         refine bodyPost_ret (v := .tuple #[.agg #[.slice zc lc cc, .slice zd ld cd, .int .i64 rw, .int .i64 rm, .int .i64 rl], .string (bs r.2)]) (by simp [results, Tryz.results10, go_sem, y0, y1, y2, y3, y4]) rfl ⟨.slice zc lc cc, .slice zd ld cd, us2, by rw [hbv.out], FX, FB⟩
      ·unfold tMost at t0 PRL hnw
       cases hnv : numV w1 with
       | none =>
        have ER : r = (b, tWhat) := by rw [PRL.out, if_pos ⟨rfl, hnw⟩, hnv]
        subst ER
        have NUN : Hid (Calls Tryz.prog 41 #[.string (bs w1)] wc fun e w5 => ∃ nn, e = .returned (.tuple #[.int .i64 nn, .bool false]) ∧ Below wc.heap.size wc w5) := (number_any w1 hw1l wc (HTB.out _ HBW.out).1).mono fun e w5 ⟨nn, he, _, hb⟩ => ⟨nn, by rw [he, hnv]; rfl, hb⟩
        clear hnw hnv FF d0 d1 d2 d3 d4 n0 n1 n2 n3 n4
        go_wp2_with (go_at_call 41; refine NUN.out.mono ?_; rintro e w5 ⟨nn, rfl, hb5⟩; have KN := hQ (owns_below HB.out hb5); obtain ⟨i0, i1, i2, i3, i4⟩ := own5 KN.out; have KR := hQ (owns_below HR.out hb5); obtain ⟨p0, p1, p2, p3, p4⟩ := own5 KR.out; obtain ⟨n0, n1, n2, n3, n4⟩ := fz5 KR.out; have FF := hQ (own5_set KR.out (.slice ya ma da) (.slice yb mb db) (.int .i64 bw) (.int .i64 bm) (.int .i64 bl)))
        have B5 := below_next HBW.out hb5 nR
        have z5 := hb5.size
        obtain ⟨y0, y1, y2, y3, y4⟩ := own5 FF.out.1
        have hsw := HS2.out
        have fs := FF.out.2.size
        have FX := ((((HO.out.below hb5).wider (by omega : hi ≤ w5.heap.size)).grown FF.out.2 (.inl (by omega))).mono (by omega : w.heap.size ≤ W2.heap.size)).wider fs
        have FB := B5.grown FF.out.2 B5.size (fun k hk => by cases hk; omega)
        refine bodyPost_ret (v := .tuple #[.agg #[.slice ya ma da, .slice yb mb db, .int .i64 bw, .int .i64 bm, .int .i64 bl], .string (bs tWhat)]) (by simp [results, Tryz.results10, go_sem, y0, y1, y2, y3, y4]; rfl) rfl ⟨.slice ya ma da, .slice yb mb db, us, by rw [VB.out], FX, FB⟩
       | some n =>
        have ER : Hid (r = prNum b [109, 111, 115, 116] n) := by show _ = _; rw [PRL.out, if_pos ⟨rfl, hnw⟩, hnv]
        have hn9 : n ≤ 999999 := numV_le hnv
        have NUS : Hid (Calls Tryz.prog 41 #[.string (bs w1)] wc fun e w5 => e = .returned (.tuple #[.int .i64 n, .bool true]) ∧ Below wc.heap.size wc w5) := (number_any w1 hw1l wc (HTB.out _ HBW.out).1).mono fun e w5 ⟨nn, he, h2, hb⟩ => ⟨by rw [he, hnv, h2 n hnv]; rfl, hb⟩
        have PNH : Hid (∀ w', Below w.heap.size w w' → Calls Tryz.prog 42 #[.agg #[.slice pa pl pc, .slice qa ql qc, .int .i64 bw, .int .i64 bm, .int .i64 bl], .string (bs [109, 111, 115, 116]), .int .i64 n] w' fun e w6 => ∃ zc lc cc zd ld cd rw rm rl us2, e = .returned (.tuple #[.agg #[.slice zc lc cc, .slice zd ld cd, .int .i64 rw, .int .i64 rm, .int .i64 rl], .string (bs r.2)]) ∧ Hid (bookV (.slice zc lc cc) (.slice zd ld cd) r.1 = .agg #[.slice zc lc cc, .slice zd ld cd, .int .i64 rw, .int .i64 rm, .int .i64 rl]) ∧ OwnB w6 w'.heap.size w6.heap.size (.slice zc lc cc) (.slice zd ld cd) us2 r.1 ∧ Below w'.heap.size w' w6) := fun w' hb => by
         have := prNum_any b HV.out _ w' (BRB.out w' hb) HZ.out [109, 111, 115, 116] hnw n hn9
         rw [← ER.out] at this
         refine this.mono ?_
         rintro e w6 ⟨pv2, qv2, us2, rfl, ho2, hb2⟩
         obtain ⟨zc, lc, cc, zd, ld, cd, rfl, rfl⟩ := ho2.forms
         exact ⟨zc, lc, cc, zd, ld, cd, _, _, _, us2, rfl, rfl, ho2, hb2⟩
        have LTR := (World.ownsRow.lt HR.out (w.heap.size + 1) rfl).2
        clear hnw hnv FF d0 d1 d2 d3 d4 n0 n1 n2 n3 n4 ER PRL
        go_upto_region 20 with (go_at_call 41; refine NUS.out.mono ?_; rintro e w5 ⟨rfl, hb5⟩)
        have B5 := hQ (below_next HBW.out hb5 nR)
        have BD := hQ B5.out.drew
        have KP := hQ (owns_below HP.out hb5)
        obtain ⟨i0, i1, i2, i3, i4⟩ := own5 KP.out
        have KR := hQ (owns_below (owns_below HR.out hb5) ((Below.refl w5.heap.size w5).drew))
        have t5 : w5.cell? ⟨g0, 0, none⟩ = some (.string (bs [109, 111, 115, 116])) := (hb5.cell (p := ⟨g0, 0, none⟩) (World.block_lt_of_cell? wc _ t0)).trans t0
        have z5 := hb5.size
        go_region_with (go_at_call 42; refine (PNH.out _ BD.out).mono ?_; rintro e w6 ⟨zc, lc, cc, zd, ld, cd, rw, rm, rl, us2, rfl, hbv, ho6, hb6⟩; have K6 := hQ (owns_below KR.out hb6); obtain ⟨p0, p1, p2, p3, p4⟩ := own5 K6.out; obtain ⟨n0, n1, n2, n3, n4⟩ := fz5 K6.out; have FF := hQ (own5_set K6.out (.slice zc lc cc) (.slice zd ld cd) (.int .i64 rw) (.int .i64 rm) (.int .i64 rl)))
        all_goals
         go_wp2_with fail
         obtain ⟨y0, y1, y2, y3, y4⟩ := own5 FF.out.1
         have zz : w5.drew.heap.size = w5.heap.size := rfl
         have fs := FF.out.2.size
         have s5 := B5.out.size
         have FX := ((ho6.grown FF.out.2 (.inl (by omega))).mono (by omega : w.heap.size ≤ w5.drew.heap.size)).wider fs
         have B6 := below_next BD.out hb6 nR
         have FB := B6.grown FF.out.2 B6.size (fun k hk => by cases hk; omega)
         refine bodyPost_ret (v := .tuple #[.agg #[.slice zc lc cc, .slice zd ld cd, .int .i64 rw, .int .i64 rm, .int .i64 rl], .string (bs r.2)]) (by simp [results, Tryz.results10, go_sem, y0, y1, y2, y3, y4]) rfl ⟨.slice zc lc cc, .slice zd ld cd, us2, by rw [hbv.out], FX, FB⟩
      ·unfold tLines at t0 PRL hnw
       cases hnv : numV w1 with
       | none =>
        have ER : r = (b, tWhat) := by rw [PRL.out, if_pos ⟨rfl, hnw⟩, hnv]
        subst ER
        have NUN : Hid (Calls Tryz.prog 41 #[.string (bs w1)] wc fun e w5 => ∃ nn, e = .returned (.tuple #[.int .i64 nn, .bool false]) ∧ Below wc.heap.size wc w5) := (number_any w1 hw1l wc (HTB.out _ HBW.out).1).mono fun e w5 ⟨nn, he, _, hb⟩ => ⟨nn, by rw [he, hnv]; rfl, hb⟩
        clear hnw hnv FF d0 d1 d2 d3 d4 n0 n1 n2 n3 n4
        go_wp2_with (go_at_call 41; refine NUN.out.mono ?_; rintro e w5 ⟨nn, rfl, hb5⟩; have KN := hQ (owns_below HB.out hb5); obtain ⟨i0, i1, i2, i3, i4⟩ := own5 KN.out; have KR := hQ (owns_below HR.out hb5); obtain ⟨p0, p1, p2, p3, p4⟩ := own5 KR.out; obtain ⟨n0, n1, n2, n3, n4⟩ := fz5 KR.out; have FF := hQ (own5_set KR.out (.slice ya ma da) (.slice yb mb db) (.int .i64 bw) (.int .i64 bm) (.int .i64 bl)))
        have B5 := below_next HBW.out hb5 nR
        have z5 := hb5.size
        obtain ⟨y0, y1, y2, y3, y4⟩ := own5 FF.out.1
        have hsw := HS2.out
        have fs := FF.out.2.size
        have FX := ((((HO.out.below hb5).wider (by omega : hi ≤ w5.heap.size)).grown FF.out.2 (.inl (by omega))).mono (by omega : w.heap.size ≤ W2.heap.size)).wider fs
        have FB := B5.grown FF.out.2 B5.size (fun k hk => by cases hk; omega)
        refine bodyPost_ret (v := .tuple #[.agg #[.slice ya ma da, .slice yb mb db, .int .i64 bw, .int .i64 bm, .int .i64 bl], .string (bs tWhat)]) (by simp [results, Tryz.results10, go_sem, y0, y1, y2, y3, y4]; rfl) rfl ⟨.slice ya ma da, .slice yb mb db, us, by rw [VB.out], FX, FB⟩
       | some n =>
        have ER : Hid (r = prNum b [108, 105, 110, 101, 115] n) := by show _ = _; rw [PRL.out, if_pos ⟨rfl, hnw⟩, hnv]
        have hn9 : n ≤ 999999 := numV_le hnv
        have NUS : Hid (Calls Tryz.prog 41 #[.string (bs w1)] wc fun e w5 => e = .returned (.tuple #[.int .i64 n, .bool true]) ∧ Below wc.heap.size wc w5) := (number_any w1 hw1l wc (HTB.out _ HBW.out).1).mono fun e w5 ⟨nn, he, h2, hb⟩ => ⟨by rw [he, hnv, h2 n hnv]; rfl, hb⟩
        have PNH : Hid (∀ w', Below w.heap.size w w' → Calls Tryz.prog 42 #[.agg #[.slice pa pl pc, .slice qa ql qc, .int .i64 bw, .int .i64 bm, .int .i64 bl], .string (bs [108, 105, 110, 101, 115]), .int .i64 n] w' fun e w6 => ∃ zc lc cc zd ld cd rw rm rl us2, e = .returned (.tuple #[.agg #[.slice zc lc cc, .slice zd ld cd, .int .i64 rw, .int .i64 rm, .int .i64 rl], .string (bs r.2)]) ∧ Hid (bookV (.slice zc lc cc) (.slice zd ld cd) r.1 = .agg #[.slice zc lc cc, .slice zd ld cd, .int .i64 rw, .int .i64 rm, .int .i64 rl]) ∧ OwnB w6 w'.heap.size w6.heap.size (.slice zc lc cc) (.slice zd ld cd) us2 r.1 ∧ Below w'.heap.size w' w6) := fun w' hb => by
         have := prNum_any b HV.out _ w' (BRB.out w' hb) HZ.out [108, 105, 110, 101, 115] hnw n hn9
         rw [← ER.out] at this
         refine this.mono ?_
         rintro e w6 ⟨pv2, qv2, us2, rfl, ho2, hb2⟩
         obtain ⟨zc, lc, cc, zd, ld, cd, rfl, rfl⟩ := ho2.forms
         exact ⟨zc, lc, cc, zd, ld, cd, _, _, _, us2, rfl, rfl, ho2, hb2⟩
        have LTR := (World.ownsRow.lt HR.out (w.heap.size + 1) rfl).2
        clear hnw hnv FF d0 d1 d2 d3 d4 n0 n1 n2 n3 n4 ER PRL
        go_upto_region 20 with (go_at_call 41; refine NUS.out.mono ?_; rintro e w5 ⟨rfl, hb5⟩)
        have B5 := hQ (below_next HBW.out hb5 nR)
        have BD := hQ B5.out.drew
        have KP := hQ (owns_below HP.out hb5)
        obtain ⟨i0, i1, i2, i3, i4⟩ := own5 KP.out
        have KR := hQ (owns_below (owns_below HR.out hb5) ((Below.refl w5.heap.size w5).drew))
        have t5 : w5.cell? ⟨g0, 0, none⟩ = some (.string (bs [108, 105, 110, 101, 115])) := (hb5.cell (p := ⟨g0, 0, none⟩) (World.block_lt_of_cell? wc _ t0)).trans t0
        have z5 := hb5.size
        go_region_with (go_at_call 42; refine (PNH.out _ BD.out).mono ?_; rintro e w6 ⟨zc, lc, cc, zd, ld, cd, rw, rm, rl, us2, rfl, hbv, ho6, hb6⟩; have K6 := hQ (owns_below KR.out hb6); obtain ⟨p0, p1, p2, p3, p4⟩ := own5 K6.out; obtain ⟨n0, n1, n2, n3, n4⟩ := fz5 K6.out; have FF := hQ (own5_set K6.out (.slice zc lc cc) (.slice zd ld cd) (.int .i64 rw) (.int .i64 rm) (.int .i64 rl)))
        all_goals
         go_wp2_with fail
         obtain ⟨y0, y1, y2, y3, y4⟩ := own5 FF.out.1
         have zz : w5.drew.heap.size = w5.heap.size := rfl
         have fs := FF.out.2.size
         have s5 := B5.out.size
         have FX := ((ho6.grown FF.out.2 (.inl (by omega))).mono (by omega : w.heap.size ≤ w5.drew.heap.size)).wider fs
         have B6 := below_next BD.out hb6 nR
         have FB := B6.grown FF.out.2 B6.size (fun k hk => by cases hk; omega)
         refine bodyPost_ret (v := .tuple #[.agg #[.slice zc lc cc, .slice zd ld cd, .int .i64 rw, .int .i64 rm, .int .i64 rl], .string (bs r.2)]) (by simp [results, Tryz.results10, go_sem, y0, y1, y2, y3, y4]) rfl ⟨.slice zc lc cc, .slice zd ld cd, us2, by rw [hbv.out], FX, FB⟩
      ·unfold tPage at t0 PRL hnw
       cases hnv : numV w1 with
       | none =>
        have ER : r = (b, tWhat) := by rw [PRL.out, if_pos ⟨rfl, hnw⟩, hnv]
        subst ER
        have NUN : Hid (Calls Tryz.prog 41 #[.string (bs w1)] wc fun e w5 => ∃ nn, e = .returned (.tuple #[.int .i64 nn, .bool false]) ∧ Below wc.heap.size wc w5) := (number_any w1 hw1l wc (HTB.out _ HBW.out).1).mono fun e w5 ⟨nn, he, _, hb⟩ => ⟨nn, by rw [he, hnv]; rfl, hb⟩
        clear hnw hnv FF d0 d1 d2 d3 d4 n0 n1 n2 n3 n4
        go_wp2_with (go_at_call 41; refine NUN.out.mono ?_; rintro e w5 ⟨nn, rfl, hb5⟩; have KN := hQ (owns_below HB.out hb5); obtain ⟨i0, i1, i2, i3, i4⟩ := own5 KN.out; have KR := hQ (owns_below HR.out hb5); obtain ⟨p0, p1, p2, p3, p4⟩ := own5 KR.out; obtain ⟨n0, n1, n2, n3, n4⟩ := fz5 KR.out; have FF := hQ (own5_set KR.out (.slice ya ma da) (.slice yb mb db) (.int .i64 bw) (.int .i64 bm) (.int .i64 bl)))
        have B5 := below_next HBW.out hb5 nR
        have z5 := hb5.size
        obtain ⟨y0, y1, y2, y3, y4⟩ := own5 FF.out.1
        have hsw := HS2.out
        have fs := FF.out.2.size
        have FX := ((((HO.out.below hb5).wider (by omega : hi ≤ w5.heap.size)).grown FF.out.2 (.inl (by omega))).mono (by omega : w.heap.size ≤ W2.heap.size)).wider fs
        have FB := B5.grown FF.out.2 B5.size (fun k hk => by cases hk; omega)
        refine bodyPost_ret (v := .tuple #[.agg #[.slice ya ma da, .slice yb mb db, .int .i64 bw, .int .i64 bm, .int .i64 bl], .string (bs tWhat)]) (by simp [results, Tryz.results10, go_sem, y0, y1, y2, y3, y4]; rfl) rfl ⟨.slice ya ma da, .slice yb mb db, us, by rw [VB.out], FX, FB⟩
       | some n =>
        have ER : Hid (r = prNum b [112, 97, 103, 101] n) := by show _ = _; rw [PRL.out, if_pos ⟨rfl, hnw⟩, hnv]
        have hn9 : n ≤ 999999 := numV_le hnv
        have NUS : Hid (Calls Tryz.prog 41 #[.string (bs w1)] wc fun e w5 => e = .returned (.tuple #[.int .i64 n, .bool true]) ∧ Below wc.heap.size wc w5) := (number_any w1 hw1l wc (HTB.out _ HBW.out).1).mono fun e w5 ⟨nn, he, h2, hb⟩ => ⟨by rw [he, hnv, h2 n hnv]; rfl, hb⟩
        have PNH : Hid (∀ w', Below w.heap.size w w' → Calls Tryz.prog 42 #[.agg #[.slice pa pl pc, .slice qa ql qc, .int .i64 bw, .int .i64 bm, .int .i64 bl], .string (bs [112, 97, 103, 101]), .int .i64 n] w' fun e w6 => ∃ zc lc cc zd ld cd rw rm rl us2, e = .returned (.tuple #[.agg #[.slice zc lc cc, .slice zd ld cd, .int .i64 rw, .int .i64 rm, .int .i64 rl], .string (bs r.2)]) ∧ Hid (bookV (.slice zc lc cc) (.slice zd ld cd) r.1 = .agg #[.slice zc lc cc, .slice zd ld cd, .int .i64 rw, .int .i64 rm, .int .i64 rl]) ∧ OwnB w6 w'.heap.size w6.heap.size (.slice zc lc cc) (.slice zd ld cd) us2 r.1 ∧ Below w'.heap.size w' w6) := fun w' hb => by
         have := prNum_any b HV.out _ w' (BRB.out w' hb) HZ.out [112, 97, 103, 101] hnw n hn9
         rw [← ER.out] at this
         refine this.mono ?_
         rintro e w6 ⟨pv2, qv2, us2, rfl, ho2, hb2⟩
         obtain ⟨zc, lc, cc, zd, ld, cd, rfl, rfl⟩ := ho2.forms
         exact ⟨zc, lc, cc, zd, ld, cd, _, _, _, us2, rfl, rfl, ho2, hb2⟩
        have LTR := (World.ownsRow.lt HR.out (w.heap.size + 1) rfl).2
        clear hnw hnv FF d0 d1 d2 d3 d4 n0 n1 n2 n3 n4 ER PRL
        go_upto_region 20 with (go_at_call 41; refine NUS.out.mono ?_; rintro e w5 ⟨rfl, hb5⟩)
        have B5 := hQ (below_next HBW.out hb5 nR)
        have BD := hQ B5.out.drew
        have KP := hQ (owns_below HP.out hb5)
        obtain ⟨i0, i1, i2, i3, i4⟩ := own5 KP.out
        have KR := hQ (owns_below (owns_below HR.out hb5) ((Below.refl w5.heap.size w5).drew))
        have t5 : w5.cell? ⟨g0, 0, none⟩ = some (.string (bs [112, 97, 103, 101])) := (hb5.cell (p := ⟨g0, 0, none⟩) (World.block_lt_of_cell? wc _ t0)).trans t0
        have z5 := hb5.size
        go_region_with (go_at_call 42; refine (PNH.out _ BD.out).mono ?_; rintro e w6 ⟨zc, lc, cc, zd, ld, cd, rw, rm, rl, us2, rfl, hbv, ho6, hb6⟩; have K6 := hQ (owns_below KR.out hb6); obtain ⟨p0, p1, p2, p3, p4⟩ := own5 K6.out; obtain ⟨n0, n1, n2, n3, n4⟩ := fz5 K6.out; have FF := hQ (own5_set K6.out (.slice zc lc cc) (.slice zd ld cd) (.int .i64 rw) (.int .i64 rm) (.int .i64 rl)))
        all_goals
         go_wp2_with fail
         obtain ⟨y0, y1, y2, y3, y4⟩ := own5 FF.out.1
         have zz : w5.drew.heap.size = w5.heap.size := rfl
         have fs := FF.out.2.size
         have s5 := B5.out.size
         have FX := ((ho6.grown FF.out.2 (.inl (by omega))).mono (by omega : w.heap.size ≤ w5.drew.heap.size)).wider fs
         have B6 := below_next BD.out hb6 nR
         have FB := B6.grown FF.out.2 B6.size (fun k hk => by cases hk; omega)
         refine bodyPost_ret (v := .tuple #[.agg #[.slice zc lc cc, .slice zd ld cd, .int .i64 rw, .int .i64 rm, .int .i64 rl], .string (bs r.2)]) (by simp [results, Tryz.results10, go_sem, y0, y1, y2, y3, y4]) rfl ⟨.slice zc lc cc, .slice zd ld cd, us2, by rw [hbv.out], FX, FB⟩
    ·have ER : r = (b, tWhat) := by rw [PRL.out, if_neg (fun h => hn h.1)]
     subst ER
     have hn2 : ¬ (N : Int) = 2 := by omega
     go_wp2_with fail
     obtain ⟨y0, y1, y2, y3, y4⟩ := own5 FF.out.1
     have hsw := HS2.out
     have fs := FF.out.2.size
     have FX := (((HO.out.wider (by omega : hi ≤ wc.heap.size)).grown FF.out.2 (.inl (by omega))).mono (by omega : w.heap.size ≤ W2.heap.size)).wider fs
     have FB := HBW.out.grown FF.out.2 HBW.out.size (fun k hk => by cases hk; omega)
     refine bodyPost_ret (v := .tuple #[.agg #[.slice ya ma da, .slice yb mb db, .int .i64 bw, .int .i64 bm, .int .i64 bl], .string (bs tWhat)]) (by simp [results, Tryz.results10, go_sem, y0, y1, y2, y3, y4]; rfl) rfl ⟨.slice ya ma da, .slice yb mb db, us, by rw [VB.out], FX, FB⟩
end Go.Proofs.YtofnchdijanikaaGreatDoor

/-
  PROVED HERE: what the printer's lines need, part V08. Conditions: each theorem's own.
-/
import Derived.Test.YtofnchdijanikaaGreatDoorV07
import Derived.Test.YtofnchdijanikaaGreatDoorV01
set_option linter.unusedVariables false
set_option linter.unusedSimpArgs false
set_option maxRecDepth 100000
namespace Go.Proofs.YtofnchdijanikaaGreatDoor
open Go.RowKit
set_option maxHeartbeats 64000000 in
theorem specPL_any (b : DBook) (hv : bookB b = true) (v : Value) (w : World) (h : BookR w v b) (hz : BookN v) (l : List UInt8) (hl : l.length ≤ 3000000) :
  Calls Tryz.prog 8 #[v, .string (bs l)] w (LinePost w.heap.size (prLine b l) w) := by
 obtain ⟨p1, q1, rfl, hp, hq⟩ := h
 have hok := bookB_true hv
 obtain ⟨pa, pl, pc, rfl⟩ : ∃ a l c, p1 = .slice a l c := by obtain ⟨va, vc, e, _⟩ := ss_idx hp; exact ⟨_, _, _, e⟩
 obtain ⟨qa, ql, qc, rfl⟩ : ∃ a l c, q1 = .slice a l c := by obtain ⟨a, c, e, _⟩ := hq; exact ⟨_, _, _, e⟩
 obtain ⟨bw, hbw⟩ : ∃ y, y = b.w := ⟨_, rfl⟩
 obtain ⟨bm, hbm⟩ : ∃ y, y = b.most := ⟨_, rfl⟩
 obtain ⟨bl, hbl⟩ : ∃ y, y = b.lines := ⟨_, rfl⟩
 have VB : Hid (∀ y z, bookV y z b = .agg #[y, z, .int .i64 bw, .int .i64 bm, .int .i64 bl]) := fun y z => by rw [hbw, hbm, hbl]; rfl
 have VX : Hid (∀ y z ps qs, bookV y z { b with pars := ps, pats := qs } = .agg #[y, z, .int .i64 bw, .int .i64 bm, .int .i64 bl]) := fun y z ps qs => by unfold bookV; simp only [hbw, hbm, hbl]
 have VW : Hid (∀ y z n, bookV y z { b with w := n } = .agg #[y, z, .int .i64 n, .int .i64 bm, .int .i64 bl]) := fun y z n => by unfold bookV; simp only [hbm, hbl]
 have VM : Hid (∀ y z n, bookV y z { b with most := n } = .agg #[y, z, .int .i64 bw, .int .i64 n, .int .i64 bl]) := fun y z n => by unfold bookV; simp only [hbw, hbl]
 have VL : Hid (∀ y z n, bookV y z { b with lines := n } = .agg #[y, z, .int .i64 bw, .int .i64 bm, .int .i64 n]) := fun y z n => by unfold bookV; simp only [hbw, hbm]
 have BRB := hQ (fun w' (hb : Below w.heap.size w w') => BookR.below (b := b) ⟨_, _, rfl, hp, hq⟩ hb)
 have HSH := hQ (bookSh_ok hok)
 have h6 : b.pars.length ≤ 4000000 := by have := hok.six; omega
 have h7 : b.pats.length ≤ 4000000 := by have := (pats_all hok.pats).2; omega
 rw [← hbw, ← hbm, ← hbl] at BRB hz ⊢
 have HZ := hQ hz
 obtain ⟨W2, hW2⟩ : ∃ W2, W2 = ((w.alloc (.cells #[.slice pa pl pc, .slice qa ql qc, .int .i64 bw, .int .i64 bm, .int .i64 bl] BoxT)).alloc (.cells #[.slice none 0 0, .slice none 0 0, .int .i64 0, .int .i64 0, .int .i64 0] BoxT)) := ⟨_, rfl⟩
 have AW : Below w.heap.size w W2 := by rw [hW2]; exact ((Below.refl _ _).alloc nR _).alloc (by simp) _
 have S2 : W2.heap.size = w.heap.size + 2 := by rw [hW2]; simp
 have R1 : W2.ownsRow w.heap.size BoxT 5 (.slice (some ⟨w.heap.size, 0, none⟩) 1 1) 1 [.slice pa pl pc, .slice qa ql qc, .int .i64 bw, .int .i64 bm, .int .i64 bl] := by rw [hW2]; exact (own5_made w nR _ _ _ _ _ _).alloc _
 have R2 : W2.ownsRow w.heap.size BoxT 5 (.slice (some ⟨w.heap.size + 1, 0, none⟩) 1 1) 1 [.slice none 0 0, .slice none 0 0, .int .i64 0, .int .i64 0, .int .i64 0] := by
  have := own5_made (w.alloc (.cells #[.slice pa pl pc, .slice qa ql qc, .int .i64 bw, .int .i64 bm, .int .i64 bl] BoxT)) (B := w.heap.size) (by simp) BoxT (.slice none 0 0) (.slice none 0 0) (.int .i64 0) (.int .i64 0) (.int .i64 0)
  rw [show (w.alloc (.cells #[.slice pa pl pc, .slice qa ql qc, .int .i64 bw, .int .i64 bm, .int .i64 bl] BoxT)).heap.size = w.heap.size + 1 by simp] at this
  rw [hW2]
  exact this
 have HA := hQ AW
 have HS2 := hQ S2
 have H1 := hQ R1
 have H2 := hQ R2
 have BV : Hid (Calls Tryz.prog 19 #[.agg #[.slice pa pl pc, .slice qa ql qc, .int .i64 bw, .int .i64 bm, .int .i64 bl]] W2 (Ret (.bool true) W2)) := by
  have := specBook_any b HSH.out _ W2 (BRB.out W2 AW)
  rw [hv] at this
  exact this
 have hwd := wds_len l
 have SPL : Hid (∀ w', Calls Tryz.prog 30 #[.string (bs l)] w' fun e w2 => ∃ g c, e = .returned (.slice (some ⟨g, 0, none⟩) (wds l).length c) ∧ OwnT w2 w'.heap.size (.slice (some ⟨g, 0, none⟩) (wds l).length c) (wds l) ∧ (wds l).length ≤ c ∧ Below w'.heap.size w' w2) := fun w' => (specWds_any l hl w').mono fun e w2 ⟨v2, he, ho, hb⟩ => by
  obtain ⟨g, c, rfl, hc⟩ := own_cells ho hwd.2
  exact ⟨g, c, he, ho, hc, hb⟩
 have CLH : Hid (∀ w', Below w.heap.size w w' → Calls Tryz.prog 29 #[.agg #[.slice pa pl pc, .slice qa ql qc, .int .i64 bw, .int .i64 bm, .int .i64 bl]] w' fun e w2 => ∃ ya ma da yb mb db us2, e = .returned (.agg #[.slice ya ma da, .slice yb mb db, .int .i64 bw, .int .i64 bm, .int .i64 bl]) ∧ OwnB w2 w'.heap.size w2.heap.size (.slice ya ma da) (.slice yb mb db) us2 b ∧ Below w'.heap.size w' w2) := fun w' hb => by
  refine Calls.mono (copy_any b hv _ w' (BRB.out w' hb) hz) ?_
  rintro e w2 ⟨pv2, qv2, us2, rfl, ho, hb⟩
  obtain ⟨ya, ma, da, yb, mb, db, rfl, rfl⟩ := ho.forms
  exact ⟨ya, ma, da, yb, mb, db, us2, by rw [VB.out], ho, hb⟩
 have HV := hQ hv
 have WL := hQ (wds_mem l)
 have HL := hQ hl
 obtain ⟨T, hT⟩ : ∃ T, T = wds l := ⟨_, rfl⟩
 have PRL : Hid (prLine b l = if l = tPages then (b, ansPages b) else if T.getD 0 [] = tText ∧ 1 < T.length then tried b { b with pars := b.pars ++ [T.drop 1] } else if T.getD 0 [] = tHyphen ∧ T.length = 2 then tried b { b with pats := b.pats ++ [T.getD 1 []] } else if T.length = 2 ∧ isNumW (T.getD 0 []) = true then (match numV (T.getD 1 []) with | none => (b, tWhat) | some n => prNum b (T.getD 0 []) n) else (b, tWhat)) := by rw [hT]; rfl
 obtain ⟨r, hr⟩ : ∃ r, r = prLine b l := ⟨_, rfl⟩
 have HTW := hQ hT
 rw [← hr] at PRL ⊢
 rw [← hT] at SPL hwd WL
 obtain ⟨N, hN⟩ : ∃ N, N = T.length := ⟨_, rfl⟩
 rw [← hN] at SPL hwd PRL
 have HN := hQ hN
 have hNl : N ≤ 4000001 := by have := hwd.1; omega
 have hN1 : 1 ≤ N := hwd.2
 obtain ⟨w0, hw0⟩ : ∃ x, x = T.getD 0 [] := ⟨_, rfl⟩
 obtain ⟨w1, hw1⟩ : ∃ x, x = T.getD 1 [] := ⟨_, rfl⟩
 rw [← hw0, ← hw1] at PRL
 have HW0 := hQ hw0
 have HW1 := hQ hw1
 have RDH : Hid (N = 2 → ∀ w', Calls Tryz.prog 31 #[.string (bs w1)] w' (NumPost (readV w1) w')) := fun h2 w' => by
  refine specRead_any w1 ?_ w'
  have h1 := WL.out w1 (by rw [hw1, getD_eq T [] 1 (by omega)]; exact List.getElem_mem _)
  have h3 := HL.out
  omega
 clear hok hp hq hbw hbm hbl AW S2 R1 R2 hz hv hT hr hN hw0 hw1 hl
 unfold BoxT at hW2
 go_enter Tryz.func8, Tryz.ntmps8
 go_upto_region 1 with fail
 rw [← hW2]
 obtain ⟨r0, r1, r2, r3, r4⟩ := own5 H1.out
 clear hW2
 go_upto_region 6 with (first | (go_at_call 19; refine BV.out.mono ?_; rintro e w2 ⟨rfl, hb2⟩; have B2 := hQ (below_next HA.out hb2 nR); have I1 := hQ (owns_below H1.out hb2); have I2 := hQ (owns_below H2.out hb2); obtain ⟨i0, i1, i2, i3, i4⟩ := own5 I1.out) | (go_at_call 29; refine (CLH.out _ B2.out).mono ?_; rintro e w3 ⟨ya, ma, da, yb, mb, db, us, rfl, ho3, hb3⟩) | (go_at_call 30; refine (SPL.out _).mono ?_; rintro e w4 ⟨g0, C, rfl, ho4, hC, hb4⟩))
 have s2 := hb2.size
 have s3 := hb3.size
 have s4 := hb4.size
 have hsw := HS2.out
 have hs3 : (w3.alloc (.cells #[.slice ya ma da, .slice yb mb db, .int .i64 bw, .int .i64 bm, .int .i64 bl] BoxT)).heap.size = w3.heap.size + 1 := by simp
 unfold BoxT at hs3
 have ST : ∃ wm g7 hi, wm = w4 ∧ g7 = w3.heap.size ∧ Hid (OwnT wm W2.heap.size (.slice (some ⟨g0, 0, none⟩) N C) T) ∧ Hid (wm.ownsRow w.heap.size BoxT 5 (.slice (some ⟨w.heap.size, 0, none⟩) 1 1) 1 [.slice pa pl pc, .slice qa ql qc, .int .i64 bw, .int .i64 bm, .int .i64 bl]) ∧ Hid (wm.ownsRow w.heap.size BoxT 5 (.slice (some ⟨w.heap.size + 1, 0, none⟩) 1 1) 1 [.slice none 0 0, .slice none 0 0, .int .i64 0, .int .i64 0, .int .i64 0]) ∧ Hid (wm.ownsRow W2.heap.size BoxT 5 (.slice (some ⟨g7, 0, none⟩) 1 1) 1 [.slice ya ma da, .slice yb mb db, .int .i64 bw, .int .i64 bm, .int .i64 bl]) ∧ Hid (OwnB wm W2.heap.size hi (.slice ya ma da) (.slice yb mb db) us b) ∧ hi ≤ g7 ∧ g7 < wm.heap.size ∧ Hid (Below w.heap.size w wm) := by
  have B3 := below_next B2.out hb3 nR
  have B3a := B3.alloc B3.size (.cells #[.slice ya ma da, .slice yb mb db, .int .i64 bw, .int .i64 bm, .int .i64 bl] BoxT)
  exact ⟨_, w3.heap.size, w3.heap.size, rfl, rfl, OwnT.mono ho4 (by omega), owns_below ((owns_below I1.out hb3).alloc _) hb4, owns_below ((owns_below I2.out hb3).alloc _) hb4, owns_below (own5_made w3 (by omega) _ _ _ _ _ _) hb4, ((ho3.below ((Below.refl w3.heap.size w3).alloc nR (.cells #[.slice ya ma da, .slice yb mb db, .int .i64 bw, .int .i64 bm, .int .i64 bl] BoxT))).below hb4).mono (by omega), nR, by omega, below_next B3a hb4 nR⟩
 obtain ⟨wm, g7, hi, hwm, hg7e, HW, HP, HR, HB, HO, hhi, hg7, HBW⟩ := ST
 rw [← hwm, ← hg7e]
 have WC : Hid (∀ j, j < N → wm.cell? ⟨g0, j, none⟩ = some (.string (bs (T.getD j [])))) := fun j hj => by
  have hN := HN.out
  obtain ⟨bq, off, cap, e, _, hcell⟩ := txt_pos (OwnT.row HW.out) (by omega)
  injection e with q1 q2 q3
  injection q1 with q4
  injection q4 with q5 q6
  subst q5 q6
  have := hcell j (by omega)
  rw [Nat.zero_add] at this
  exact this
 have W1C : Hid (1 < N → wm.cell? ⟨g0, 1, none⟩ = some (.string (bs w1))) := fun h1 => by
  have := WC.out 1 h1
  rwa [← HW1.out] at this
 clear hwm hg7e H1 H2 BV SPL hb2 hb3 hb4 B2 I1 I2 ho3 ho4 i0 i1 i2 i3 i4 r0 r1 r2 r3 r4 s2 s3 s4 hs3 hwd WC
 go_upto_if 25 with (fail)
 go_cut [8] from 26 to 29 (fun v8 wx => ∃ n : Int, v8 = .int .i64 n ∧ Hid (n = if N = 2 then readV w1 else -1) ∧ Hid (OwnT wx W2.heap.size (.slice (some ⟨g0, 0, none⟩) N C) T) ∧ Hid (wx.ownsRow w.heap.size BoxT 5 (.slice (some ⟨w.heap.size, 0, none⟩) 1 1) 1 [.slice pa pl pc, .slice qa ql qc, .int .i64 bw, .int .i64 bm, .int .i64 bl]) ∧ Hid (wx.ownsRow w.heap.size BoxT 5 (.slice (some ⟨w.heap.size + 1, 0, none⟩) 1 1) 1 [.slice none 0 0, .slice none 0 0, .int .i64 0, .int .i64 0, .int .i64 0]) ∧ Hid (wx.ownsRow W2.heap.size BoxT 5 (.slice (some ⟨g7, 0, none⟩) 1 1) 1 [.slice ya ma da, .slice yb mb db, .int .i64 bw, .int .i64 bm, .int .i64 bl]) ∧ Hid (OwnB wx W2.heap.size hi (.slice ya ma da) (.slice yb mb db) us b) ∧ g7 < wx.heap.size ∧ Hid (Below w.heap.size w wx))
 case first =>
  by_cases hn : N = 2
  ·have t1 := W1C.out (by omega)
   have RD := hQ (RDH.out hn wm)
   have hn2 : (N : Int) = 2 := by omega
   subst hn
   go_wp2_with (go_at_call 31; refine RD.out.mono ?_; rintro e w5 ⟨rfl, hb5⟩)
   go_meet
   exact ⟨readV w1, rfl, by show _ = _; simp, HW.out.below hb5, owns_below HP.out hb5, owns_below HR.out hb5, owns_below HB.out hb5, HO.out.below hb5, Nat.lt_of_lt_of_le hg7 hb5.size, below_next HBW.out hb5 nR⟩
  ·have hn2 : ¬ (N : Int) = 2 := by omega
   go_wp2_with fail
   go_meet
   exact ⟨-1, rfl, by show _ = _; simp [hn], HW.out, HP.out, HR.out, HB.out, HO.out, hg7, HBW.out⟩
 case rest =>
  clear HW HP HR HB HO HBW W1C hg7 RDH
  rename World => wm
  obtain ⟨n, rfl, HNV, HW, HP, HR, HB, HO, hg7, HBW⟩ := hcut
  have hN2 : (1 : Int) ≤ (N : Int) := by omega
  have hNc : 1 ≤ C := by have := HN.out; omega
  have t0 : wm.cell? ⟨g0, 0, none⟩ = some (.string (bs w0)) := by
   obtain ⟨bq, off, cap, e, _, hcell⟩ := txt_pos (OwnT.row HW.out) (by have := HN.out; omega)
   injection e with q1 q2 q3
   injection q1 with q4
   injection q4 with q5 q6
   subst q5 q6
   have := hcell 0 (by have := HN.out; omega)
   rwa [← HW0.out] at this
  have W1C : Hid (1 < N → wm.cell? ⟨g0, 1, none⟩ = some (.string (bs w1))) := fun h1 => by
   obtain ⟨bq, off, cap, e, _, hcell⟩ := txt_pos (OwnT.row HW.out) (by have := HN.out; omega)
   injection e with q1 q2 q3
   injection q1 with q4
   injection q4 with q5 q6
   subst q5 q6
   have := hcell 1 (by have := HN.out; omega)
   rwa [← HW1.out] at this
  obtain ⟨c0, c1, c2, c3, c4⟩ := own5 HP.out
  obtain ⟨d0, d1, d2, d3, d4⟩ := own5 HR.out
  obtain ⟨e0, e1, e2, e3, e4⟩ := own5 HB.out
  obtain ⟨n0, n1, n2, n3, n4⟩ := fz5 HR.out
  have FF := hQ (own5_set HR.out (.slice ya ma da) (.slice yb mb db) (.int .i64 bw) (.int .i64 bm) (.int .i64 bl))
  by_cases hpg : l = tPages
  ·have ER : r = (b, ansPages b) := by rw [PRL.out, if_pos hpg]
   subst ER
   have hT1 : T = [tPages] := by rw [HTW.out, hpg]; decide
   have hN3 : N = 1 := by rw [HN.out, hT1]; rfl
   have hw0 : w0 = tPages := by rw [HW0.out, hT1]; rfl
   have en : n = -1 := by rw [HNV.out, if_neg (by omega)]
   subst hpg
   subst hw0
   subst en
   subst hN3
   unfold tPages at t0 ⊢
   clear PRL hT1
   have BPH := hQ (specBPages_any b HV.out _ wm (BRB.out _ HBW.out) HZ.out)
   cases hbp : bookP b with
   | none =>
    have EA : Hid (ansPages b = tNo) := by show _ = _; unfold ansPages; rw [hbp]
    have BPN : Hid (Calls Tryz.prog 32 #[.agg #[.slice pa pl pc, .slice qa ql qc, .int .i64 bw, .int .i64 bm, .int .i64 bl]] wm fun e w5 => ∃ v5, e = .returned (.tuple #[v5, .bool false]) ∧ Below wm.heap.size wm w5) := BPH.out.mono fun e w5 ⟨v5, us5, he, _, hb⟩ => ⟨v5, by rw [he, hbp]; rfl, hb⟩
    clear hbp BPH FF d0 d1 d2 d3 d4 n0 n1 n2 n3 n4
    go_wp2_with (go_at_call 32; refine BPN.out.mono ?_; rintro e w5 ⟨v5, rfl, hb5⟩; have KN := hQ (owns_below HB.out hb5); obtain ⟨i0, i1, i2, i3, i4⟩ := own5 KN.out; have KR := hQ (owns_below HR.out hb5); obtain ⟨p0, p1, p2, p3, p4⟩ := own5 KR.out; obtain ⟨n0, n1, n2, n3, n4⟩ := fz5 KR.out; have FF := hQ (own5_set KR.out (.slice ya ma da) (.slice yb mb db) (.int .i64 bw) (.int .i64 bm) (.int .i64 bl)))
    have B5 := below_next HBW.out hb5 nR
    have z5 := hb5.size
    obtain ⟨y0, y1, y2, y3, y4⟩ := own5 FF.out.1
    have hsw := HS2.out
    have fs := FF.out.2.size
    have FX := ((((HO.out.below hb5).wider (by omega : hi ≤ w5.heap.size)).grown FF.out.2 (.inl (by omega))).mono (by omega : w.heap.size ≤ W2.heap.size)).wider fs
    have FB := B5.grown FF.out.2 B5.size (fun k hk => by cases hk; omega)
    refine bodyPost_ret (v := .tuple #[.agg #[.slice ya ma da, .slice yb mb db, .int .i64 bw, .int .i64 bm, .int .i64 bl], .string (bs tNo)]) (by simp [results, Tryz.results8, go_sem, y0, y1, y2, y3, y4]; rfl) rfl ⟨.slice ya ma da, .slice yb mb db, us, by rw [EA.out, VB.out], FX, FB⟩
   | some p =>
    obtain ⟨m, hm⟩ : ∃ m, m = p.length := ⟨_, rfl⟩
    have hm30 : m ≤ 30 := by rw [hm]; exact bookP_few hbp
    have EA : Hid (ansPages b = Lib.decDigits m) := by show _ = _; unfold ansPages; rw [hbp, hm]
    have BPS : Hid (Calls Tryz.prog 32 #[.agg #[.slice pa pl pc, .slice qa ql qc, .int .i64 bw, .int .i64 bm, .int .i64 bl]] wm fun e w5 => ∃ z c, e = .returned (.tuple #[.slice z m c, .bool true]) ∧ Below wm.heap.size wm w5) := BPH.out.mono fun e w5 ⟨v5, us5, he, ho, hb⟩ => by
     rw [hbp] at he ho
     simp only [Option.getD_some] at ho
     obtain ⟨z, c, rfl⟩ := ho.form
     rw [← hm] at he
     exact ⟨z, c, he, hb⟩
    have ITH : Hid (∀ w', Calls Tryz.prog 33 #[.int .i64 m] w' (Ret (.string (bs (Lib.decDigits m))) w')) := fun w' => specNum_any m (by omega) w'
    have LTR := (World.ownsRow.lt HR.out (w.heap.size + 1) rfl).2
    clear hbp BPH FF d0 d1 d2 d3 d4 n0 n1 n2 n3 n4 hm
    go_upto_region 23 with (go_at_call 32; refine BPS.out.mono ?_; rintro e w5 ⟨z8, c8, rfl, hb5⟩)
    have B5 := hQ (below_next HBW.out hb5 nR)
    have BD := hQ B5.out.drew
    have D5 := hQ hb5.drew
    have KN := hQ (owns_below HB.out hb5)
    obtain ⟨i0, i1, i2, i3, i4⟩ := own5 KN.out
    have KNd := hQ (owns_below KN.out ((Below.refl w5.heap.size w5).drew))
    have KR := hQ (owns_below (owns_below HR.out hb5) ((Below.refl w5.heap.size w5).drew))
    obtain ⟨p0, p1, p2, p3, p4⟩ := own5 KR.out
    obtain ⟨n0, n1, n2, n3, n4⟩ := fz5 KR.out
    have FD := hQ (own5_set KR.out (.slice ya ma da) (.slice yb mb db) (.int .i64 bw) (.int .i64 bm) (.int .i64 bl))
    have z5 := hb5.size
    have zz : w5.drew.heap.size = w5.heap.size := rfl
    have BS := hQ (BD.out.grown FD.out.2 BD.out.size (fun k hk => by cases hk; omega))
    go_region_with (go_at_call 33; refine (ITH.out _).mono ?_; rintro e w6 ⟨rfl, b6⟩; first
     | (with_reducible have b6a : Below w5.drew.heap.size w5.drew w6 := b6; obtain ⟨v0, v1, v2, v3, v4⟩ := own5 (owns_below KNd.out b6a); have K6 := hQ (owns_below KR.out b6a); obtain ⟨x0, x1, x2, x3, x4⟩ := own5 K6.out; obtain ⟨y0, y1, y2, y3, y4⟩ := fz5 K6.out)
     | (have KS := hQ (owns_below FD.out.1 b6)))
    all_goals first
     | (go_wp2_with fail
        have FF6 := hQ (own5_set K6.out (.slice ya ma da) (.slice yb mb db) (.int .i64 bw) (.int .i64 bm) (.int .i64 bl))
        have B6 := below_next D5.out b6 nR
        have z6 := B6.size
        have B7 := below_next HBW.out B6 nR
        obtain ⟨y0, y1, y2, y3, y4⟩ := own5 FF6.out.1
        have hsw := HS2.out
        have fs := FF6.out.2.size
        have FX := ((((HO.out.below B6).wider (by omega : hi ≤ w6.heap.size)).grown FF6.out.2 (.inl (by omega))).mono (by omega : w.heap.size ≤ W2.heap.size)).wider fs
        have FB := B7.grown FF6.out.2 B7.size (fun k hk => by cases hk; omega)
        refine bodyPost_ret (v := .tuple #[.agg #[.slice ya ma da, .slice yb mb db, .int .i64 bw, .int .i64 bm, .int .i64 bl], .string (bs (Lib.decDigits m))]) (by simp [results, Tryz.results8, go_sem, y0, y1, y2, y3, y4]) rfl ⟨.slice ya ma da, .slice yb mb db, us, by rw [EA.out, VB.out], FX, FB⟩)
     | (go_wp2_with fail
        obtain ⟨y0, y1, y2, y3, y4⟩ := own5 KS.out
        have hsw := HS2.out
        have fs := FD.out.2.size
        have f6 := b6.size
        have O6 := (((HO.out.below D5.out).wider (by omega : hi ≤ w5.drew.heap.size)).grown FD.out.2 (.inl (by omega))).below b6
        have FX := (O6.mono (by omega : w.heap.size ≤ W2.heap.size)).wider (Nat.le_trans fs f6)
        have FB := below_next BS.out b6 nR
        refine bodyPost_ret (v := .tuple #[.agg #[.slice ya ma da, .slice yb mb db, .int .i64 bw, .int .i64 bm, .int .i64 bl], .string (bs (Lib.decDigits m))]) (by simp [results, Tryz.results8, go_sem, y0, y1, y2, y3, y4]) rfl ⟨.slice ya ma da, .slice yb mb db, us, by rw [EA.out, VB.out], FX, FB⟩)
  ·rw [if_neg hpg] at PRL
   have f0 : (l == [112, 97, 103, 101, 115]) = false := by
    cases h : (l == [112, 97, 103, 101, 115])
    ·rfl
    ·exact absurd (beq_iff_eq.1 h) hpg
   clear hpg
   by_cases htx : w0 = tText
   ·subst htx
    unfold tText at t0 PRL
    by_cases hn : 1 < N
    ·have ER : Hid (r = tried b { b with pars := b.pars ++ [T.drop 1] }) := by show _ = _; rw [PRL.out, if_pos ⟨rfl, hn⟩]
     obtain ⟨D, hD⟩ : ∃ D, D = T.drop 1 := ⟨_, rfl⟩
     rw [← hD] at ER
     have DL : D.length = N - 1 := by rw [hD, List.length_drop, HN.out]
     have SX : Hid (BookSh { b with pars := b.pars ++ [D] }) := ⟨fun p hp => by
      rcases List.mem_append.1 hp with h | h
      ·exact HSH.out.pars p h
      ·rw [List.mem_singleton.1 h]
       intro y hy
       rw [hD] at hy
       have := WL.out y (List.mem_of_mem_drop hy)
       have := HL.out
       omega, HSH.out.pats⟩
     have TD : Hid (∀ w', Below wm.heap.size wm w' → TxtS w' (.slice (some ⟨g0, 1, none⟩) (N - 1) (C - 1)) D) := fun w' hb => by
      have h1 := txt_part (OwnT.row (HW.out.below hb)) 1 N (C - 1) (by omega) (by rw [HN.out]; exact nR)
      rw [← hD, List.take_of_length_le (by omega)] at h1
      exact h1
     have NCD : NC (.slice (some ⟨g0, 1, none⟩) (N - 1) (C - 1)) := fun c n e => by cases e
     have DLL : D.length ≤ 4000000 := by omega
     have hn3 : ¬ N = 1 := by omega
     have hn5 : ¬ C = 1 := by omega
     have hn4 : (1 : Int) < (N : Int) := by omega
     have W2c : W2.heap.size ≤ wm.heap.size := by have := (World.ownsRow.lt HB.out g7 rfl).1; omega
     have hB7 := (World.ownsRow.lt HB.out g7 rfl).1
     have YH := hQ (fun k hk => HO.out.p.2.2.1 k hk)
     have YB := hQ (fun k hk => (World.ownsRow.lt HO.out.p.2.1 k hk).1)
     have UH := hQ HO.out.p.us_lt
     have AP := hQ HO.out.ap
     have E0 := hQ ((Below.refl wm.heap.size wm).drew)
     have E1 := hQ (((Below.refl wm.heap.size wm).drew).alloc nR (.cells #[] 9))
     have x01 := (own5 (owns_below HB.out E0.out)).1
     have x03 := (own5 (World.ownsRow.alloc HB.out (.cells #[] 9))).1
     have x04 : (wm.alloc (.cells #[] 9)).drew.cell? ⟨g7, 0, none⟩ = some (.slice ya ma da) := x03
     have hicw : hi ≤ wm.heap.size := by omega
     have hsw0 := HS2.out
     clear hD PRL FF d0 d1 d2 d3 d4 n0 n1 n2 n3 n4
     go_upto_region 16 with fail
     go_region_law (first
      | (refine step_strs wm.drew (wm.drew.alloc (.cells #[] 9)) rfl _ _ rfl wm.heap.size (.slice (some ⟨wm.heap.size, 0, none⟩) 0 0) [] D (.slice (some ⟨g0, 1, none⟩) (N - 1) (C - 1)) rfl rfl (OwnT.made wm.drew nR) (TD.out _ E1.out) NCD (by decide) DLL nR ((Below.refl _ wm.drew).alloc nR _) ?_; intro zr nr cr w5 o5 b5 m5 gr5; have B5 := hQ (below_next E0.out b5 nR); have U5 := hQ (HO.out.p.below B5.out); have X5 := hQ (owns_below HB.out B5.out); have x5 := (own5 X5.out).1; have x6 := (own5 (World.ownsRow.alloc X5.out (.cells #[.slice zr nr cr] 23))).1; have sz5 := B5.out.size; have O5 := hQ (show OwnT w5 W2.heap.size (.slice zr nr cr) D from OwnT.mono o5 W2c); have D5 : Hid (∀ q, (Value.slice zr nr cr).ownBlock = some q → wm.heap.size ≤ q) := (fun q hq => (World.ownsRow.lt o5 q hq).1))
      | (refine step_ss w5 w5 rfl _ _ rfl W2.heap.size hi (.slice ya ma da) b.pars us zr nr cr D rfl rfl U5.out (Nat.le_trans hicw sz5) O5.out (fun q hq => Nat.le_trans hicw (D5.out q hq)) h6 (Nat.le_trans W2c sz5) (Below.refl _ _) ?_; intro z' n' c' w7 o7 b7 m7 gr7; have X7 := hQ (World.ownsRow.kept X5.out gr7 (.inr (fun e => (by have := YH.out g7 e.symm; omega)))); have x7 := (own5 X7.out).1; have y7 := World.ownsRow.frozenAt X7.out 0; have T7 := hQ (X7.out.stored 0 (.slice z' n' c'))))
     all_goals
      have BW5 := below_next HBW.out B5.out nR
      have BW7 := BW5.trans (b7.mono (by omega : w.heap.size ≤ W2.heap.size))
      have B8 := hQ (BW7.grown T7.out.2 BW7.size (fun k hk => by cases hk; omega))
      have fs8 := T7.out.2.size
      have gs7 := gr7.size
      have nY : ∀ m, m < W2.heap.size → some m ≠ (Value.slice ya ma da).ownBlock := fun m hm e => by have := YB.out m e.symm; omega
      have P8 := World.ownsRow.kept (World.ownsRow.kept (owns_below HP.out B5.out) gr7 (.inr (nY w.heap.size (by omega)))) T7.out.2 (.inr (show some w.heap.size ≠ some g7 from fun e => by have := Option.some.inj e; omega))
      have R8 := World.ownsRow.kept (World.ownsRow.kept (owns_below HR.out B5.out) gr7 (.inr (nY (w.heap.size + 1) (by omega)))) T7.out.2 (.inr (show some (w.heap.size + 1) ≠ some g7 from fun e => by have := Option.some.inj e; omega))
      have zB : ∀ k, (Value.slice z' n' c').ownBlock = some k → (Value.slice ya ma da).ownBlock = some k ∨ wm.heap.size ≤ k := fun k hk => by
       rcases m7 with m7 | m7
       ·left; rw [← m7]; exact hk
       ·right
        have h9 := m7 k hk
        rw [World.size_alloc] at h9
        omega
      have uB : ∀ u ∈ us ++ [.slice zr nr cr], ∀ k, u.ownBlock = some k → u ∈ us ∧ k < hi ∨ wm.heap.size ≤ k := fun u hu k hk => by
       rcases List.mem_append.1 hu with h | h
       ·exact .inl ⟨h, (UH.out u h k hk).2⟩
       ·right
        rw [List.mem_singleton.1 h] at hk
        exact D5.out k hk
      have qn : ∀ m, (∀ k, (Value.slice yb mb db).ownBlock = some k → k ≠ m) → (Value.slice yb mb db).ownBlock = none ∨ (Value.slice yb mb db).ownBlock ≠ some m := fun m hm => by
       cases hh : (Value.slice yb mb db).ownBlock with
       | none => exact .inl rfl
       | some k => exact .inr fun e => hm k hh (Option.some.inj e)
      have Q7 : (Value.slice yb mb db).ownBlock = none ∨ (Value.slice yb mb db).ownBlock ≠ (Value.slice ya ma da).ownBlock := by
       cases hh : (Value.slice yb mb db).ownBlock with
       | none => exact .inl rfl
       | some k => exact .inr fun e => (AP.out k hh).2.1 e.symm
      have OX : OwnB (w7.setCell ⟨g7, 0, none⟩ (.slice z' n' c')) W2.heap.size (w7.setCell ⟨g7, 0, none⟩ (.slice z' n' c')).heap.size (.slice z' n' c') (.slice yb mb db) (us ++ [.slice zr nr cr]) { b with pars := b.pars ++ [D] } := by
       refine ⟨(o7.grown' T7.out.2 (fun k e hk => ?_) (fun k e u hu hk => ?_)).wider fs8, World.ownsRow.kept (World.ownsRow.kept (owns_below HO.out.q B5.out) gr7 Q7) T7.out.2 (qn _ fun k hk => ?_), fun k hk => ⟨?_, fun e => ?_, fun u hu e => ?_⟩⟩
       ·cases e
        rcases zB _ hk with h | h
        ·have := YH.out _ h; omega
        ·omega
       ·cases e
        rcases uB u hu _ hk with h | h
        ·omega
        ·omega
       ·have := (AP.out k hk).1; omega
       ·have := (AP.out k hk).1; omega
       ·rcases zB _ e with h | h
        ·exact (AP.out k hk).2.1 h
        ·have := (AP.out k hk).1; omega
       ·rcases uB u hu _ e with h | h
        ·exact (AP.out k hk).2.2 u h.1 e
        ·have := (AP.out k hk).1; omega
      obtain ⟨w8, hw8, N8, P8, R8, OX, B8⟩ : ∃ w8, w8 = (w7.setCell ⟨g7, 0, none⟩ (.slice z' n' c')) ∧ Hid (w8.ownsRow W2.heap.size BoxT 5 (.slice (some ⟨g7, 0, none⟩) 1 1) 1 [.slice z' n' c', .slice yb mb db, .int .i64 bw, .int .i64 bm, .int .i64 bl]) ∧ Hid (w8.ownsRow w.heap.size BoxT 5 (.slice (some ⟨w.heap.size, 0, none⟩) 1 1) 1 [.slice pa pl pc, .slice qa ql qc, .int .i64 bw, .int .i64 bm, .int .i64 bl]) ∧ Hid (w8.ownsRow w.heap.size BoxT 5 (.slice (some ⟨w.heap.size + 1, 0, none⟩) 1 1) 1 [.slice none 0 0, .slice none 0 0, .int .i64 0, .int .i64 0, .int .i64 0]) ∧ Hid (OwnB w8 W2.heap.size w8.heap.size (.slice z' n' c') (.slice yb mb db) (us ++ [Value.slice zr nr cr]) { b with pars := b.pars ++ [D] }) ∧ Hid (Below w.heap.size w w8) := ⟨_, rfl, T7.out.1, P8, R8, OX, B8.out⟩
      rw [← hw8]
      clear hw8 U5 X5 X7 T7 m7 gr7 b7 o7 o5 b5 m5 gr5 O5 D5 nY zB uB qn Q7 x5 x6 x7 y7 BW5 BW7 fs8 gs7 B5 HP HR HB HO HBW HW TD YH YB UH AP E0 E1 x01 x03 x04 c0 c1 c2 c3 c4 e0 e1 e2 e3 e4 t0 NCD
      go_upto_region 36 with fail
      have BVX : Hid (Calls Tryz.prog 19 #[.agg #[(.slice z' n' c'), (.slice yb mb db), .int .i64 bw, .int .i64 bm, .int .i64 bl]] w8 (Ret (.bool (bookB { b with pars := b.pars ++ [D] })) w8)) := by
       have := specBook_any { b with pars := b.pars ++ [D] } SX.out _ w8 (OX.out.read)
       rw [show bookV (.slice z' n' c') (.slice yb mb db) { b with pars := b.pars ++ [D] } = .agg #[(.slice z' n' c'), (.slice yb mb db), .int .i64 bw, .int .i64 bm, .int .i64 bl] from VX.out _ _ (b.pars ++ [D]) b.pats] at this
       exact this
      have VXF : Hid (bookV (.slice z' n' c') (.slice yb mb db) { b with pars := b.pars ++ [D] } = .agg #[(.slice z' n' c'), (.slice yb mb db), .int .i64 bw, .int .i64 bm, .int .i64 bl]) := VX.out _ _ (b.pars ++ [D]) b.pats
      obtain ⟨i0, i1, i2, i3, i4⟩ := own5 N8.out
      cases hbx : bookB { b with pars := b.pars ++ [D] } with
      | true =>
       have ET : r = ({ b with pars := b.pars ++ [D] }, tOk) := by rw [ER.out]; unfold tried; rw [if_pos hbx]
       subst ET
       rw [hbx] at BVX
       clear hbx ER SX
       go_wp2_with (go_at_call 19; refine BVX.out.mono ?_; rintro e w9 ⟨rfl, hb9⟩; have B9 := hQ (below_next B8.out hb9 nR); have KN9 := hQ (owns_below N8.out hb9); obtain ⟨j0, j1, j2, j3, j4⟩ := own5 KN9.out; have K9 := hQ (owns_below R8.out hb9); obtain ⟨p0, p1, p2, p3, p4⟩ := own5 K9.out; obtain ⟨n0, n1, n2, n3, n4⟩ := fz5 K9.out; have FF := hQ (own5_set K9.out (.slice z' n' c') (.slice yb mb db) (.int .i64 bw) (.int .i64 bm) (.int .i64 bl)))
       obtain ⟨y0, y1, y2, y3, y4⟩ := own5 FF.out.1
       have hsw := HS2.out
       have fs := FF.out.2.size
       have O9 := (OX.out.below hb9).wider hb9.size
       have FX := ((O9.grown FF.out.2 (.inl (by omega))).mono (by omega : w.heap.size ≤ W2.heap.size)).wider fs
       have FB := B9.out.grown FF.out.2 B9.out.size (fun k hk => by cases hk; omega)
       refine bodyPost_ret (v := .tuple #[.agg #[(.slice z' n' c'), (.slice yb mb db), .int .i64 bw, .int .i64 bm, .int .i64 bl], .string (bs tOk)]) (by simp [results, Tryz.results8, go_sem, y0, y1, y2, y3, y4]; rfl) rfl ⟨(.slice z' n' c'), (.slice yb mb db), (us ++ [.slice zr nr cr]), by rw [VXF.out], FX, FB⟩
      | false =>
       have ET : r = (b, tNo) := by rw [ER.out]; unfold tried; rw [if_neg (by rw [hbx]; decide)]
       subst ET
       rw [hbx] at BVX
       clear hbx ER SX
       go_wp2_with (first | (go_at_call 19; refine BVX.out.mono ?_; rintro e w9 ⟨rfl, hb9⟩; have B9 := hQ (below_next B8.out hb9 nR); have KP9 := hQ (owns_below P8.out hb9); obtain ⟨j0, j1, j2, j3, j4⟩ := own5 KP9.out; have KR9 := hQ (owns_below R8.out hb9)) | (go_at_call 29; refine (CLH.out _ B9.out).mono ?_; rintro e w10 ⟨ya2, ma2, da2, yb2, mb2, db2, us2, rfl, ho10, hb10⟩; have K9 := hQ (owns_below KR9.out hb10); obtain ⟨p0, p1, p2, p3, p4⟩ := own5 K9.out; obtain ⟨n0, n1, n2, n3, n4⟩ := fz5 K9.out; have FF := hQ (own5_set K9.out (.slice ya2 ma2 da2) (.slice yb2 mb2 db2) (.int .i64 bw) (.int .i64 bm) (.int .i64 bl))))
       obtain ⟨y0, y1, y2, y3, y4⟩ := own5 FF.out.1
       have fs := FF.out.2.size
       have ltr := (World.ownsRow.lt KR9.out (w.heap.size + 1) rfl).2
       have FX := ((ho10.grown FF.out.2 (.inl (by omega))).mono (by omega : w.heap.size ≤ w9.heap.size)).wider fs
       have B10 := below_next B9.out hb10 nR
       have FB := B10.grown FF.out.2 B10.size (fun k hk => by cases hk; omega)
       refine bodyPost_ret (v := .tuple #[.agg #[.slice ya2 ma2 da2, .slice yb2 mb2 db2, .int .i64 bw, .int .i64 bm, .int .i64 bl], .string (bs tNo)]) (by simp [results, Tryz.results8, go_sem, y0, y1, y2, y3, y4]; rfl) rfl ⟨.slice ya2 ma2 da2, .slice yb2 mb2 db2, us2, by rw [VB.out], FX, FB⟩
    ·obtain rfl : N = 1 := by omega
     have ER : r = (b, tWhat) := by rw [PRL.out, if_neg (fun h => hn h.2), if_neg (fun h => absurd h.1 (by decide)), if_neg (fun h => absurd h.1 (by decide))]
     subst ER
     go_wp2_with fail
     obtain ⟨y0, y1, y2, y3, y4⟩ := own5 FF.out.1
     have hsw := HS2.out
     have fs := FF.out.2.size
     have FX := (((HO.out.wider (by omega : hi ≤ wm.heap.size)).grown FF.out.2 (.inl (by omega))).mono (by omega : w.heap.size ≤ W2.heap.size)).wider fs
     have FB := HBW.out.grown FF.out.2 HBW.out.size (fun k hk => by cases hk; omega)
     refine bodyPost_ret (v := .tuple #[.agg #[.slice ya ma da, .slice yb mb db, .int .i64 bw, .int .i64 bm, .int .i64 bl], .string (bs tWhat)]) (by simp [results, Tryz.results8, go_sem, y0, y1, y2, y3, y4]; rfl) rfl ⟨.slice ya ma da, .slice yb mb db, us, by rw [VB.out], FX, FB⟩
   ·rw [if_neg (fun h => htx h.1)] at PRL
    have f1 : (w0 == [116, 101, 120, 116]) = false := by
     cases h : (w0 == [116, 101, 120, 116])
     ·rfl
     ·exact absurd (beq_iff_eq.1 h) htx
    by_cases hhy : w0 = tHyphen
    ·subst hhy
     unfold tHyphen at t0 PRL
     by_cases hn : N = 2
     ·have ER : Hid (r = tried b { b with pats := b.pats ++ [w1] }) := by show _ = _; rw [PRL.out, if_pos ⟨rfl, hn⟩]
      subst hn
      have hw1l : w1.length ≤ 4000000 := by
       have h1 := WL.out w1 (by rw [HW1.out, getD_eq T [] 1 (by have := HN.out; omega)]; exact List.getElem_mem _)
       have h2 := HL.out
       omega
      have t1 := W1C.out (by omega)
      have SX : Hid (BookSh { b with pats := b.pats ++ [w1] }) := ⟨HSH.out.pars, fun y hy => by
       rcases List.mem_append.1 hy with h | h
       ·exact HSH.out.pats y h
       ·rw [List.mem_singleton.1 h]
        exact hw1l⟩
      have W2c : W2.heap.size ≤ wm.heap.size := by have := (World.ownsRow.lt HB.out g7 rfl).1; omega
      have hB7 := (World.ownsRow.lt HB.out g7 rfl).1
      have YH := hQ (fun k hk => HO.out.p.2.2.1 k hk)
      have QB := hQ (fun k hk => (World.ownsRow.lt HO.out.q k hk).1)
      have UH := hQ HO.out.p.us_lt
      have AP := hQ HO.out.ap
      have E0 := hQ ((Below.refl wm.heap.size wm).drew)
      have x01 := (own5 (owns_below HB.out E0.out)).2.1
      have x02 : (wm.alloc (.cells #[.string (bs w1)] 9)).drew.cell? ⟨g7, 1, none⟩ = some (.slice yb mb db) := (own5 (World.ownsRow.alloc HB.out (.cells #[.string (bs w1)] 9))).2.1
      have x03 := (own5 (World.ownsRow.alloc HB.out (.cells #[.string (bs w1)] 9))).2.1
      have HQd := hQ (HO.out.q.below E0.out)
      have hsw0 := HS2.out
      clear PRL FF d0 d1 d2 d3 d4 n0 n1 n2 n3 n4
      go_upto_region 18 with fail
      go_region_law (refine step_str wm.drew wm.drew rfl _ _ rfl W2.heap.size (.slice yb mb db) b.pats w1 rfl rfl HQd.out h7 W2c (Below.refl _ _) ?_; intro z' n' c' w7 o7 b7 m7 gr7; have X7 := hQ (World.ownsRow.kept (owns_below HB.out E0.out) gr7 (.inr (fun e => (by have := (AP.out g7 e.symm).1; omega)))); have x7 := (own5 X7.out).2.1; have y7 := World.ownsRow.frozenAt X7.out 1; have T7 := hQ (X7.out.stored 1 (.slice z' n' c')))
      all_goals
       have BW5 := below_next HBW.out E0.out nR
       have BW7 := BW5.trans (b7.mono (by omega : w.heap.size ≤ W2.heap.size))
       have B8 := hQ (BW7.grown T7.out.2 BW7.size (fun k hk => by cases hk; omega))
       have fs8 := T7.out.2.size
       have gs7 : wm.heap.size ≤ w7.heap.size := gr7.size
       have nY : ∀ m, m < W2.heap.size → some m ≠ (Value.slice yb mb db).ownBlock := fun m hm e => by have := QB.out m e.symm; omega
       have P8 := World.ownsRow.kept (World.ownsRow.kept (owns_below HP.out E0.out) gr7 (.inr (nY w.heap.size (by omega)))) T7.out.2 (.inr (show some w.heap.size ≠ some g7 from fun e => by have := Option.some.inj e; omega))
       have R8 := World.ownsRow.kept (World.ownsRow.kept (owns_below HR.out E0.out) gr7 (.inr (nY (w.heap.size + 1) (by omega)))) T7.out.2 (.inr (show some (w.heap.size + 1) ≠ some g7 from fun e => by have := Option.some.inj e; omega))
       have zB : ∀ k, (Value.slice z' n' c').ownBlock = some k → (Value.slice yb mb db).ownBlock = some k ∨ wm.heap.size ≤ k := fun k hk => by
        rcases m7 with m7 | m7
        ·left; rw [← m7]; exact hk
        ·right
         have h9 : (wm.alloc _).heap.size ≤ k := m7 k hk
         rw [World.size_alloc] at h9
         omega
       have OX : OwnB (w7.setCell ⟨g7, 1, none⟩ (.slice z' n' c')) W2.heap.size (w7.setCell ⟨g7, 1, none⟩ (.slice z' n' c')).heap.size (.slice ya ma da) (.slice z' n' c') us { b with pats := b.pats ++ [w1] } := by
        refine ⟨(((HO.out.p.below E0.out).grown' gr7 (fun k e => (AP.out k e).2.1) (fun k e u hu => (AP.out k e).2.2 u hu)).grown' T7.out.2 (fun k e hk => ?_) (fun k e u hu hk => ?_)).wider (by omega), World.ownsRow.kept o7 T7.out.2 ?_, fun k hk => ⟨?_, fun e => ?_, fun u hu e => ?_⟩⟩
        ·cases e
         have := YH.out _ hk; omega
        ·cases e
         have := (UH.out u hu _ hk).2; omega
        ·cases hh : (Value.slice z' n' c').ownBlock with
         | none => exact .inl rfl
         | some k =>
          refine .inr fun e => ?_
          have e2 : k = g7 := Option.some.inj e
          rcases zB _ hh with h | h
          ·have := (AP.out k h).1; omega
          ·omega
        ·have := (World.ownsRow.lt o7 k hk).2; omega
        ·rcases zB _ hk with h | h
         ·exact (AP.out k h).2.1 e
         ·have := YH.out _ e; omega
        ·rcases zB _ hk with h | h
         ·exact (AP.out k h).2.2 u hu e
         ·have := (UH.out u hu _ e).2; omega
       obtain ⟨w8, hw8, N8, P8, R8, OX, B8⟩ : ∃ w8, w8 = (w7.setCell ⟨g7, 1, none⟩ (.slice z' n' c')) ∧ Hid (w8.ownsRow W2.heap.size BoxT 5 (.slice (some ⟨g7, 0, none⟩) 1 1) 1 [.slice ya ma da, .slice z' n' c', .int .i64 bw, .int .i64 bm, .int .i64 bl]) ∧ Hid (w8.ownsRow w.heap.size BoxT 5 (.slice (some ⟨w.heap.size, 0, none⟩) 1 1) 1 [.slice pa pl pc, .slice qa ql qc, .int .i64 bw, .int .i64 bm, .int .i64 bl]) ∧ Hid (w8.ownsRow w.heap.size BoxT 5 (.slice (some ⟨w.heap.size + 1, 0, none⟩) 1 1) 1 [.slice none 0 0, .slice none 0 0, .int .i64 0, .int .i64 0, .int .i64 0]) ∧ Hid (OwnB w8 W2.heap.size w8.heap.size (.slice ya ma da) (.slice z' n' c') (us) { b with pats := b.pats ++ [w1] }) ∧ Hid (Below w.heap.size w w8) := ⟨_, rfl, T7.out.1, P8, R8, OX, B8.out⟩
       rw [← hw8]
       clear hw8 X7 T7 m7 gr7 b7 o7 nY zB x7 y7 BW5 BW7 fs8 gs7 HP HR HB HO HBW HW YH QB UH AP E0 x01 x02 x03 c0 c1 c2 c3 c4 e0 e1 e2 e3 e4 t0 t1 HQd
       go_upto_region 36 with fail
       have BVX : Hid (Calls Tryz.prog 19 #[.agg #[(.slice ya ma da), (.slice z' n' c'), .int .i64 bw, .int .i64 bm, .int .i64 bl]] w8 (Ret (.bool (bookB { b with pats := b.pats ++ [w1] })) w8)) := by
        have := specBook_any { b with pats := b.pats ++ [w1] } SX.out _ w8 (OX.out.read)
        rw [show bookV (.slice ya ma da) (.slice z' n' c') { b with pats := b.pats ++ [w1] } = .agg #[(.slice ya ma da), (.slice z' n' c'), .int .i64 bw, .int .i64 bm, .int .i64 bl] from VX.out _ _ b.pars (b.pats ++ [w1])] at this
        exact this
       have VXF : Hid (bookV (.slice ya ma da) (.slice z' n' c') { b with pats := b.pats ++ [w1] } = .agg #[(.slice ya ma da), (.slice z' n' c'), .int .i64 bw, .int .i64 bm, .int .i64 bl]) := VX.out _ _ b.pars (b.pats ++ [w1])
       obtain ⟨i0, i1, i2, i3, i4⟩ := own5 N8.out
       cases hbx : bookB { b with pats := b.pats ++ [w1] } with
       | true =>
        have ET : r = ({ b with pats := b.pats ++ [w1] }, tOk) := by rw [ER.out]; unfold tried; rw [if_pos hbx]
        subst ET
        rw [hbx] at BVX
        clear hbx ER SX
        go_wp2_with (go_at_call 19; refine BVX.out.mono ?_; rintro e w9 ⟨rfl, hb9⟩; have B9 := hQ (below_next B8.out hb9 nR); have KN9 := hQ (owns_below N8.out hb9); obtain ⟨j0, j1, j2, j3, j4⟩ := own5 KN9.out; have K9 := hQ (owns_below R8.out hb9); obtain ⟨p0, p1, p2, p3, p4⟩ := own5 K9.out; obtain ⟨n0, n1, n2, n3, n4⟩ := fz5 K9.out; have FF := hQ (own5_set K9.out (.slice ya ma da) (.slice z' n' c') (.int .i64 bw) (.int .i64 bm) (.int .i64 bl)))
        obtain ⟨y0, y1, y2, y3, y4⟩ := own5 FF.out.1
        have hsw := HS2.out
        have fs := FF.out.2.size
        have O9 := (OX.out.below hb9).wider hb9.size
        have FX := ((O9.grown FF.out.2 (.inl (by omega))).mono (by omega : w.heap.size ≤ W2.heap.size)).wider fs
        have FB := B9.out.grown FF.out.2 B9.out.size (fun k hk => by cases hk; omega)
        refine bodyPost_ret (v := .tuple #[.agg #[(.slice ya ma da), (.slice z' n' c'), .int .i64 bw, .int .i64 bm, .int .i64 bl], .string (bs tOk)]) (by simp [results, Tryz.results8, go_sem, y0, y1, y2, y3, y4]; rfl) rfl ⟨(.slice ya ma da), (.slice z' n' c'), us, by rw [VXF.out], FX, FB⟩
       | false =>
        have ET : r = (b, tNo) := by rw [ER.out]; unfold tried; rw [if_neg (by rw [hbx]; decide)]
        subst ET
        rw [hbx] at BVX
        clear hbx ER SX
        go_wp2_with (first | (go_at_call 19; refine BVX.out.mono ?_; rintro e w9 ⟨rfl, hb9⟩; have B9 := hQ (below_next B8.out hb9 nR); have KP9 := hQ (owns_below P8.out hb9); obtain ⟨j0, j1, j2, j3, j4⟩ := own5 KP9.out; have KR9 := hQ (owns_below R8.out hb9)) | (go_at_call 29; refine (CLH.out _ B9.out).mono ?_; rintro e w10 ⟨ya2, ma2, da2, yb2, mb2, db2, us2, rfl, ho10, hb10⟩; have K9 := hQ (owns_below KR9.out hb10); obtain ⟨p0, p1, p2, p3, p4⟩ := own5 K9.out; obtain ⟨n0, n1, n2, n3, n4⟩ := fz5 K9.out; have FF := hQ (own5_set K9.out (.slice ya2 ma2 da2) (.slice yb2 mb2 db2) (.int .i64 bw) (.int .i64 bm) (.int .i64 bl))))
        obtain ⟨y0, y1, y2, y3, y4⟩ := own5 FF.out.1
        have fs := FF.out.2.size
        have ltr := (World.ownsRow.lt KR9.out (w.heap.size + 1) rfl).2
        have FX := ((ho10.grown FF.out.2 (.inl (by omega))).mono (by omega : w.heap.size ≤ w9.heap.size)).wider fs
        have B10 := below_next B9.out hb10 nR
        have FB := B10.grown FF.out.2 B10.size (fun k hk => by cases hk; omega)
        refine bodyPost_ret (v := .tuple #[.agg #[.slice ya2 ma2 da2, .slice yb2 mb2 db2, .int .i64 bw, .int .i64 bm, .int .i64 bl], .string (bs tNo)]) (by simp [results, Tryz.results8, go_sem, y0, y1, y2, y3, y4]; rfl) rfl ⟨.slice ya2 ma2 da2, .slice yb2 mb2 db2, us2, by rw [VB.out], FX, FB⟩
     ·have ER : r = (b, tWhat) := by rw [PRL.out, if_neg (fun h => hn h.2), if_neg (fun h => hn h.1)]
      subst ER
      have hn2 : ¬ (N : Int) = 2 := by omega
      go_wp2_with fail
      obtain ⟨y0, y1, y2, y3, y4⟩ := own5 FF.out.1
      have hsw := HS2.out
      have fs := FF.out.2.size
      have FX := (((HO.out.wider (by omega : hi ≤ wm.heap.size)).grown FF.out.2 (.inl (by omega))).mono (by omega : w.heap.size ≤ W2.heap.size)).wider fs
      have FB := HBW.out.grown FF.out.2 HBW.out.size (fun k hk => by cases hk; omega)
      refine bodyPost_ret (v := .tuple #[.agg #[.slice ya ma da, .slice yb mb db, .int .i64 bw, .int .i64 bm, .int .i64 bl], .string (bs tWhat)]) (by simp [results, Tryz.results8, go_sem, y0, y1, y2, y3, y4]; rfl) rfl ⟨.slice ya ma da, .slice yb mb db, us, by rw [VB.out], FX, FB⟩
    ·rw [if_neg (fun h => hhy h.1)] at PRL
     have f2 : (w0 == [104, 121, 112, 104, 101, 110]) = false := by
      cases h : (w0 == [104, 121, 112, 104, 101, 110])
      ·rfl
      ·exact absurd (beq_iff_eq.1 h) hhy
     cases hnw : isNumW w0 with
     | false =>
      have ER : r = (b, tWhat) := by rw [PRL.out, if_neg (fun h => by rw [hnw] at h; cases h.2)]
      subst ER
      obtain ⟨f3, f4, f5, f6⟩ := isNumW_false hnw
      clear hnw
      go_wp2_with fail
      obtain ⟨y0, y1, y2, y3, y4⟩ := own5 FF.out.1
      have hsw := HS2.out
      have fs := FF.out.2.size
      have FX := (((HO.out.wider (by omega : hi ≤ wm.heap.size)).grown FF.out.2 (.inl (by omega))).mono (by omega : w.heap.size ≤ W2.heap.size)).wider fs
      have FB := HBW.out.grown FF.out.2 HBW.out.size (fun k hk => by cases hk; omega)
      refine bodyPost_ret (v := .tuple #[.agg #[.slice ya ma da, .slice yb mb db, .int .i64 bw, .int .i64 bm, .int .i64 bl], .string (bs tWhat)]) (by simp [results, Tryz.results8, go_sem, y0, y1, y2, y3, y4]; rfl) rfl ⟨.slice ya ma da, .slice yb mb db, us, by rw [VB.out], FX, FB⟩
     | true =>
      clear htx hhy
      rcases isNumW_true hnw with rfl | rfl | rfl | rfl
      ·unfold tWidth at t0 PRL hnw
       by_cases hn : N = 2
       ·rw [if_pos hn] at HNV
        cases hnv : numV w1 with
        | none =>
         have en : n = -1 := by rw [HNV.out]; unfold readV; rw [hnv]
         have ER : r = (b, tWhat) := by rw [PRL.out, if_pos ⟨hn, hnw⟩, hnv]
         subst ER
         subst en
         subst hn
         clear hnw hnv PRL
         go_wp2_with fail
         obtain ⟨y0, y1, y2, y3, y4⟩ := own5 FF.out.1
         have hsw := HS2.out
         have fs := FF.out.2.size
         have FX := (((HO.out.wider (by omega : hi ≤ wm.heap.size)).grown FF.out.2 (.inl (by omega))).mono (by omega : w.heap.size ≤ W2.heap.size)).wider fs
         have FB := HBW.out.grown FF.out.2 HBW.out.size (fun k hk => by cases hk; omega)
         refine bodyPost_ret (v := .tuple #[.agg #[.slice ya ma da, .slice yb mb db, .int .i64 bw, .int .i64 bm, .int .i64 bl], .string (bs tWhat)]) (by simp [results, Tryz.results8, go_sem, y0, y1, y2, y3, y4]; rfl) rfl ⟨.slice ya ma da, .slice yb mb db, us, by rw [VB.out], FX, FB⟩
        | some u =>
         have en : n = (u : Int) := by rw [HNV.out]; unfold readV; rw [hnv]
         have hu9 : u ≤ 999999 := numV_le hnv
         have hn0 : 0 ≤ n := by omega
         subst hn
         subst en
         have ER : Hid (r = tried b { b with w := (u : Int) }) := by show _ = _; rw [PRL.out, if_pos ⟨rfl, hnw⟩, hnv]; rfl
         have SX : Hid (BookSh { b with w := (u : Int) }) := ⟨HSH.out.pars, HSH.out.pats⟩
         have T7 := hQ (HB.out.stored 2 (.int .i64 (u : Int)))
         have m7 := World.ownsRow.frozenAt HB.out 2
         have hlt7 := (World.ownsRow.lt HB.out g7 rfl).1
         have hsw := HS2.out
         have W8E : ∃ w8, w8 = (wm.setCell ⟨g7, 2, none⟩ (.int .i64 (u : Int))) ∧ Hid (w8.ownsRow W2.heap.size BoxT 5 (.slice (some ⟨g7, 0, none⟩) 1 1) 1 [.slice ya ma da, .slice yb mb db, .int .i64 (u : Int), .int .i64 bm, .int .i64 bl]) ∧ Hid (w8.ownsRow w.heap.size BoxT 5 (.slice (some ⟨w.heap.size, 0, none⟩) 1 1) 1 [.slice pa pl pc, .slice qa ql qc, .int .i64 bw, .int .i64 bm, .int .i64 bl]) ∧ Hid (w8.ownsRow w.heap.size BoxT 5 (.slice (some ⟨w.heap.size + 1, 0, none⟩) 1 1) 1 [.slice none 0 0, .slice none 0 0, .int .i64 0, .int .i64 0, .int .i64 0]) ∧ Hid (OwnB w8 W2.heap.size w8.heap.size (.slice ya ma da) (.slice yb mb db) us { b with w := (u : Int) }) ∧ Hid (Below w.heap.size w w8) := by
          have O8 := ((HO.out.grown T7.out.2 (.inr hhi)).wider (by omega : hi ≤ wm.heap.size)).wider T7.out.2.size
          exact ⟨_, rfl, T7.out.1, World.ownsRow.kept HP.out T7.out.2 (.inr (show some w.heap.size ≠ some g7 from fun e => by have := Option.some.inj e; omega)), World.ownsRow.kept HR.out T7.out.2 (.inr (show some (w.heap.size + 1) ≠ some g7 from fun e => by have := Option.some.inj e; omega)), ⟨O8.p, O8.q, O8.ap⟩, HBW.out.grown T7.out.2 HBW.out.size (fun k hk => by cases hk; omega)⟩
         obtain ⟨w8, hw8, N8, P8, R8, OX, B8⟩ := W8E
         clear T7 hnw hnv PRL FF d0 d1 d2 d3 d4 n0 n1 n2 n3 n4
         go_upto_region 36 with fail
         rw [← hw8]
         clear hw8 e0 e1 e2 e3 e4 c0 c1 c2 c3 c4 HP HR HB HO HBW m7 t0
         have BVX : Hid (Calls Tryz.prog 19 #[.agg #[(.slice ya ma da), (.slice yb mb db), .int .i64 (u : Int), .int .i64 bm, .int .i64 bl]] w8 (Ret (.bool (bookB { b with w := (u : Int) })) w8)) := by
          have := specBook_any { b with w := (u : Int) } SX.out _ w8 (OX.out.read)
          rw [show bookV (.slice ya ma da) (.slice yb mb db) { b with w := (u : Int) } = .agg #[(.slice ya ma da), (.slice yb mb db), .int .i64 (u : Int), .int .i64 bm, .int .i64 bl] from VW.out _ _ _] at this
          exact this
         have VXF : Hid (bookV (.slice ya ma da) (.slice yb mb db) { b with w := (u : Int) } = .agg #[(.slice ya ma da), (.slice yb mb db), .int .i64 (u : Int), .int .i64 bm, .int .i64 bl]) := VW.out _ _ _
         obtain ⟨i0, i1, i2, i3, i4⟩ := own5 N8.out
         cases hbx : bookB { b with w := (u : Int) } with
         | true =>
          have ET : r = ({ b with w := (u : Int) }, tOk) := by rw [ER.out]; unfold tried; rw [if_pos hbx]
          subst ET
          rw [hbx] at BVX
          clear hbx ER SX
          go_wp2_with (go_at_call 19; refine BVX.out.mono ?_; rintro e w9 ⟨rfl, hb9⟩; have B9 := hQ (below_next B8.out hb9 nR); have KN9 := hQ (owns_below N8.out hb9); obtain ⟨j0, j1, j2, j3, j4⟩ := own5 KN9.out; have K9 := hQ (owns_below R8.out hb9); obtain ⟨p0, p1, p2, p3, p4⟩ := own5 K9.out; obtain ⟨n0, n1, n2, n3, n4⟩ := fz5 K9.out; have FF := hQ (own5_set K9.out (.slice ya ma da) (.slice yb mb db) (.int .i64 (u : Int)) (.int .i64 bm) (.int .i64 bl)))
          obtain ⟨y0, y1, y2, y3, y4⟩ := own5 FF.out.1
          have hsw := HS2.out
          have fs := FF.out.2.size
          have O9 := (OX.out.below hb9).wider hb9.size
          have FX := ((O9.grown FF.out.2 (.inl (by omega))).mono (by omega : w.heap.size ≤ W2.heap.size)).wider fs
          have FB := B9.out.grown FF.out.2 B9.out.size (fun k hk => by cases hk; omega)
          refine bodyPost_ret (v := .tuple #[.agg #[(.slice ya ma da), (.slice yb mb db), .int .i64 (u : Int), .int .i64 bm, .int .i64 bl], .string (bs tOk)]) (by simp [results, Tryz.results8, go_sem, y0, y1, y2, y3, y4]; rfl) rfl ⟨(.slice ya ma da), (.slice yb mb db), us, by rw [VXF.out], FX, FB⟩
         | false =>
          have ET : r = (b, tNo) := by rw [ER.out]; unfold tried; rw [if_neg (by rw [hbx]; decide)]
          subst ET
          rw [hbx] at BVX
          clear hbx ER SX
          go_wp2_with (first | (go_at_call 19; refine BVX.out.mono ?_; rintro e w9 ⟨rfl, hb9⟩; have B9 := hQ (below_next B8.out hb9 nR); have KP9 := hQ (owns_below P8.out hb9); obtain ⟨j0, j1, j2, j3, j4⟩ := own5 KP9.out; have KR9 := hQ (owns_below R8.out hb9)) | (go_at_call 29; refine (CLH.out _ B9.out).mono ?_; rintro e w10 ⟨ya2, ma2, da2, yb2, mb2, db2, us2, rfl, ho10, hb10⟩; have K9 := hQ (owns_below KR9.out hb10); obtain ⟨p0, p1, p2, p3, p4⟩ := own5 K9.out; obtain ⟨n0, n1, n2, n3, n4⟩ := fz5 K9.out; have FF := hQ (own5_set K9.out (.slice ya2 ma2 da2) (.slice yb2 mb2 db2) (.int .i64 bw) (.int .i64 bm) (.int .i64 bl))))
          obtain ⟨y0, y1, y2, y3, y4⟩ := own5 FF.out.1
          have fs := FF.out.2.size
          have ltr := (World.ownsRow.lt KR9.out (w.heap.size + 1) rfl).2
          have FX := ((ho10.grown FF.out.2 (.inl (by omega))).mono (by omega : w.heap.size ≤ w9.heap.size)).wider fs
          have B10 := below_next B9.out hb10 nR
          have FB := B10.grown FF.out.2 B10.size (fun k hk => by cases hk; omega)
          refine bodyPost_ret (v := .tuple #[.agg #[.slice ya2 ma2 da2, .slice yb2 mb2 db2, .int .i64 bw, .int .i64 bm, .int .i64 bl], .string (bs tNo)]) (by simp [results, Tryz.results8, go_sem, y0, y1, y2, y3, y4]; rfl) rfl ⟨.slice ya2 ma2 da2, .slice yb2 mb2 db2, us2, by rw [VB.out], FX, FB⟩
       ·rw [if_neg hn] at HNV
        have en : n = -1 := HNV.out
        have ER : r = (b, tWhat) := by rw [PRL.out, if_neg (fun h => hn h.1)]
        subst ER
        subst en
        have hn2 : ¬ (N : Int) = 2 := by omega
        clear hnw PRL
        go_wp2_with fail
        obtain ⟨y0, y1, y2, y3, y4⟩ := own5 FF.out.1
        have hsw := HS2.out
        have fs := FF.out.2.size
        have FX := (((HO.out.wider (by omega : hi ≤ wm.heap.size)).grown FF.out.2 (.inl (by omega))).mono (by omega : w.heap.size ≤ W2.heap.size)).wider fs
        have FB := HBW.out.grown FF.out.2 HBW.out.size (fun k hk => by cases hk; omega)
        refine bodyPost_ret (v := .tuple #[.agg #[.slice ya ma da, .slice yb mb db, .int .i64 bw, .int .i64 bm, .int .i64 bl], .string (bs tWhat)]) (by simp [results, Tryz.results8, go_sem, y0, y1, y2, y3, y4]; rfl) rfl ⟨.slice ya ma da, .slice yb mb db, us, by rw [VB.out], FX, FB⟩
      ·unfold tMost at t0 PRL hnw
       by_cases hn : N = 2
       ·rw [if_pos hn] at HNV
        cases hnv : numV w1 with
        | none =>
         have en : n = -1 := by rw [HNV.out]; unfold readV; rw [hnv]
         have ER : r = (b, tWhat) := by rw [PRL.out, if_pos ⟨hn, hnw⟩, hnv]
         subst ER
         subst en
         subst hn
         clear hnw hnv PRL
         go_wp2_with fail
         obtain ⟨y0, y1, y2, y3, y4⟩ := own5 FF.out.1
         have hsw := HS2.out
         have fs := FF.out.2.size
         have FX := (((HO.out.wider (by omega : hi ≤ wm.heap.size)).grown FF.out.2 (.inl (by omega))).mono (by omega : w.heap.size ≤ W2.heap.size)).wider fs
         have FB := HBW.out.grown FF.out.2 HBW.out.size (fun k hk => by cases hk; omega)
         refine bodyPost_ret (v := .tuple #[.agg #[.slice ya ma da, .slice yb mb db, .int .i64 bw, .int .i64 bm, .int .i64 bl], .string (bs tWhat)]) (by simp [results, Tryz.results8, go_sem, y0, y1, y2, y3, y4]; rfl) rfl ⟨.slice ya ma da, .slice yb mb db, us, by rw [VB.out], FX, FB⟩
        | some u =>
         have en : n = (u : Int) := by rw [HNV.out]; unfold readV; rw [hnv]
         have hu9 : u ≤ 999999 := numV_le hnv
         have hn0 : 0 ≤ n := by omega
         subst hn
         subst en
         have ER : Hid (r = tried b { b with most := (u : Int) }) := by show _ = _; rw [PRL.out, if_pos ⟨rfl, hnw⟩, hnv]; rfl
         have SX : Hid (BookSh { b with most := (u : Int) }) := ⟨HSH.out.pars, HSH.out.pats⟩
         have T7 := hQ (HB.out.stored 3 (.int .i64 (u : Int)))
         have m7 := World.ownsRow.frozenAt HB.out 3
         have hlt7 := (World.ownsRow.lt HB.out g7 rfl).1
         have hsw := HS2.out
         have W8E : ∃ w8, w8 = (wm.setCell ⟨g7, 3, none⟩ (.int .i64 (u : Int))) ∧ Hid (w8.ownsRow W2.heap.size BoxT 5 (.slice (some ⟨g7, 0, none⟩) 1 1) 1 [.slice ya ma da, .slice yb mb db, .int .i64 bw, .int .i64 (u : Int), .int .i64 bl]) ∧ Hid (w8.ownsRow w.heap.size BoxT 5 (.slice (some ⟨w.heap.size, 0, none⟩) 1 1) 1 [.slice pa pl pc, .slice qa ql qc, .int .i64 bw, .int .i64 bm, .int .i64 bl]) ∧ Hid (w8.ownsRow w.heap.size BoxT 5 (.slice (some ⟨w.heap.size + 1, 0, none⟩) 1 1) 1 [.slice none 0 0, .slice none 0 0, .int .i64 0, .int .i64 0, .int .i64 0]) ∧ Hid (OwnB w8 W2.heap.size w8.heap.size (.slice ya ma da) (.slice yb mb db) us { b with most := (u : Int) }) ∧ Hid (Below w.heap.size w w8) := by
          have O8 := ((HO.out.grown T7.out.2 (.inr hhi)).wider (by omega : hi ≤ wm.heap.size)).wider T7.out.2.size
          exact ⟨_, rfl, T7.out.1, World.ownsRow.kept HP.out T7.out.2 (.inr (show some w.heap.size ≠ some g7 from fun e => by have := Option.some.inj e; omega)), World.ownsRow.kept HR.out T7.out.2 (.inr (show some (w.heap.size + 1) ≠ some g7 from fun e => by have := Option.some.inj e; omega)), ⟨O8.p, O8.q, O8.ap⟩, HBW.out.grown T7.out.2 HBW.out.size (fun k hk => by cases hk; omega)⟩
         obtain ⟨w8, hw8, N8, P8, R8, OX, B8⟩ := W8E
         clear T7 hnw hnv PRL FF d0 d1 d2 d3 d4 n0 n1 n2 n3 n4
         go_upto_region 36 with fail
         rw [← hw8]
         clear hw8 e0 e1 e2 e3 e4 c0 c1 c2 c3 c4 HP HR HB HO HBW m7 t0
         have BVX : Hid (Calls Tryz.prog 19 #[.agg #[(.slice ya ma da), (.slice yb mb db), .int .i64 bw, .int .i64 (u : Int), .int .i64 bl]] w8 (Ret (.bool (bookB { b with most := (u : Int) })) w8)) := by
          have := specBook_any { b with most := (u : Int) } SX.out _ w8 (OX.out.read)
          rw [show bookV (.slice ya ma da) (.slice yb mb db) { b with most := (u : Int) } = .agg #[(.slice ya ma da), (.slice yb mb db), .int .i64 bw, .int .i64 (u : Int), .int .i64 bl] from VM.out _ _ _] at this
          exact this
         have VXF : Hid (bookV (.slice ya ma da) (.slice yb mb db) { b with most := (u : Int) } = .agg #[(.slice ya ma da), (.slice yb mb db), .int .i64 bw, .int .i64 (u : Int), .int .i64 bl]) := VM.out _ _ _
         obtain ⟨i0, i1, i2, i3, i4⟩ := own5 N8.out
         cases hbx : bookB { b with most := (u : Int) } with
         | true =>
          have ET : r = ({ b with most := (u : Int) }, tOk) := by rw [ER.out]; unfold tried; rw [if_pos hbx]
          subst ET
          rw [hbx] at BVX
          clear hbx ER SX
          go_wp2_with (go_at_call 19; refine BVX.out.mono ?_; rintro e w9 ⟨rfl, hb9⟩; have B9 := hQ (below_next B8.out hb9 nR); have KN9 := hQ (owns_below N8.out hb9); obtain ⟨j0, j1, j2, j3, j4⟩ := own5 KN9.out; have K9 := hQ (owns_below R8.out hb9); obtain ⟨p0, p1, p2, p3, p4⟩ := own5 K9.out; obtain ⟨n0, n1, n2, n3, n4⟩ := fz5 K9.out; have FF := hQ (own5_set K9.out (.slice ya ma da) (.slice yb mb db) (.int .i64 bw) (.int .i64 (u : Int)) (.int .i64 bl)))
          obtain ⟨y0, y1, y2, y3, y4⟩ := own5 FF.out.1
          have hsw := HS2.out
          have fs := FF.out.2.size
          have O9 := (OX.out.below hb9).wider hb9.size
          have FX := ((O9.grown FF.out.2 (.inl (by omega))).mono (by omega : w.heap.size ≤ W2.heap.size)).wider fs
          have FB := B9.out.grown FF.out.2 B9.out.size (fun k hk => by cases hk; omega)
          refine bodyPost_ret (v := .tuple #[.agg #[(.slice ya ma da), (.slice yb mb db), .int .i64 bw, .int .i64 (u : Int), .int .i64 bl], .string (bs tOk)]) (by simp [results, Tryz.results8, go_sem, y0, y1, y2, y3, y4]; rfl) rfl ⟨(.slice ya ma da), (.slice yb mb db), us, by rw [VXF.out], FX, FB⟩
         | false =>
          have ET : r = (b, tNo) := by rw [ER.out]; unfold tried; rw [if_neg (by rw [hbx]; decide)]
          subst ET
          rw [hbx] at BVX
          clear hbx ER SX
          go_wp2_with (first | (go_at_call 19; refine BVX.out.mono ?_; rintro e w9 ⟨rfl, hb9⟩; have B9 := hQ (below_next B8.out hb9 nR); have KP9 := hQ (owns_below P8.out hb9); obtain ⟨j0, j1, j2, j3, j4⟩ := own5 KP9.out; have KR9 := hQ (owns_below R8.out hb9)) | (go_at_call 29; refine (CLH.out _ B9.out).mono ?_; rintro e w10 ⟨ya2, ma2, da2, yb2, mb2, db2, us2, rfl, ho10, hb10⟩; have K9 := hQ (owns_below KR9.out hb10); obtain ⟨p0, p1, p2, p3, p4⟩ := own5 K9.out; obtain ⟨n0, n1, n2, n3, n4⟩ := fz5 K9.out; have FF := hQ (own5_set K9.out (.slice ya2 ma2 da2) (.slice yb2 mb2 db2) (.int .i64 bw) (.int .i64 bm) (.int .i64 bl))))
          obtain ⟨y0, y1, y2, y3, y4⟩ := own5 FF.out.1
          have fs := FF.out.2.size
          have ltr := (World.ownsRow.lt KR9.out (w.heap.size + 1) rfl).2
          have FX := ((ho10.grown FF.out.2 (.inl (by omega))).mono (by omega : w.heap.size ≤ w9.heap.size)).wider fs
          have B10 := below_next B9.out hb10 nR
          have FB := B10.grown FF.out.2 B10.size (fun k hk => by cases hk; omega)
          refine bodyPost_ret (v := .tuple #[.agg #[.slice ya2 ma2 da2, .slice yb2 mb2 db2, .int .i64 bw, .int .i64 bm, .int .i64 bl], .string (bs tNo)]) (by simp [results, Tryz.results8, go_sem, y0, y1, y2, y3, y4]; rfl) rfl ⟨.slice ya2 ma2 da2, .slice yb2 mb2 db2, us2, by rw [VB.out], FX, FB⟩
       ·rw [if_neg hn] at HNV
        have en : n = -1 := HNV.out
        have ER : r = (b, tWhat) := by rw [PRL.out, if_neg (fun h => hn h.1)]
        subst ER
        subst en
        have hn2 : ¬ (N : Int) = 2 := by omega
        clear hnw PRL
        go_wp2_with fail
        obtain ⟨y0, y1, y2, y3, y4⟩ := own5 FF.out.1
        have hsw := HS2.out
        have fs := FF.out.2.size
        have FX := (((HO.out.wider (by omega : hi ≤ wm.heap.size)).grown FF.out.2 (.inl (by omega))).mono (by omega : w.heap.size ≤ W2.heap.size)).wider fs
        have FB := HBW.out.grown FF.out.2 HBW.out.size (fun k hk => by cases hk; omega)
        refine bodyPost_ret (v := .tuple #[.agg #[.slice ya ma da, .slice yb mb db, .int .i64 bw, .int .i64 bm, .int .i64 bl], .string (bs tWhat)]) (by simp [results, Tryz.results8, go_sem, y0, y1, y2, y3, y4]; rfl) rfl ⟨.slice ya ma da, .slice yb mb db, us, by rw [VB.out], FX, FB⟩
      ·unfold tLines at t0 PRL hnw
       by_cases hn : N = 2
       ·rw [if_pos hn] at HNV
        cases hnv : numV w1 with
        | none =>
         have en : n = -1 := by rw [HNV.out]; unfold readV; rw [hnv]
         have ER : r = (b, tWhat) := by rw [PRL.out, if_pos ⟨hn, hnw⟩, hnv]
         subst ER
         subst en
         subst hn
         clear hnw hnv PRL
         go_wp2_with fail
         obtain ⟨y0, y1, y2, y3, y4⟩ := own5 FF.out.1
         have hsw := HS2.out
         have fs := FF.out.2.size
         have FX := (((HO.out.wider (by omega : hi ≤ wm.heap.size)).grown FF.out.2 (.inl (by omega))).mono (by omega : w.heap.size ≤ W2.heap.size)).wider fs
         have FB := HBW.out.grown FF.out.2 HBW.out.size (fun k hk => by cases hk; omega)
         refine bodyPost_ret (v := .tuple #[.agg #[.slice ya ma da, .slice yb mb db, .int .i64 bw, .int .i64 bm, .int .i64 bl], .string (bs tWhat)]) (by simp [results, Tryz.results8, go_sem, y0, y1, y2, y3, y4]; rfl) rfl ⟨.slice ya ma da, .slice yb mb db, us, by rw [VB.out], FX, FB⟩
        | some u =>
         have en : n = (u : Int) := by rw [HNV.out]; unfold readV; rw [hnv]
         have hu9 : u ≤ 999999 := numV_le hnv
         have hn0 : 0 ≤ n := by omega
         subst hn
         subst en
         have ER : Hid (r = tried b { b with lines := (u : Int) }) := by show _ = _; rw [PRL.out, if_pos ⟨rfl, hnw⟩, hnv]; rfl
         have SX : Hid (BookSh { b with lines := (u : Int) }) := ⟨HSH.out.pars, HSH.out.pats⟩
         have T7 := hQ (HB.out.stored 4 (.int .i64 (u : Int)))
         have m7 := World.ownsRow.frozenAt HB.out 4
         have hlt7 := (World.ownsRow.lt HB.out g7 rfl).1
         have hsw := HS2.out
         have W8E : ∃ w8, w8 = (wm.setCell ⟨g7, 4, none⟩ (.int .i64 (u : Int))) ∧ Hid (w8.ownsRow W2.heap.size BoxT 5 (.slice (some ⟨g7, 0, none⟩) 1 1) 1 [.slice ya ma da, .slice yb mb db, .int .i64 bw, .int .i64 bm, .int .i64 (u : Int)]) ∧ Hid (w8.ownsRow w.heap.size BoxT 5 (.slice (some ⟨w.heap.size, 0, none⟩) 1 1) 1 [.slice pa pl pc, .slice qa ql qc, .int .i64 bw, .int .i64 bm, .int .i64 bl]) ∧ Hid (w8.ownsRow w.heap.size BoxT 5 (.slice (some ⟨w.heap.size + 1, 0, none⟩) 1 1) 1 [.slice none 0 0, .slice none 0 0, .int .i64 0, .int .i64 0, .int .i64 0]) ∧ Hid (OwnB w8 W2.heap.size w8.heap.size (.slice ya ma da) (.slice yb mb db) us { b with lines := (u : Int) }) ∧ Hid (Below w.heap.size w w8) := by
          have O8 := ((HO.out.grown T7.out.2 (.inr hhi)).wider (by omega : hi ≤ wm.heap.size)).wider T7.out.2.size
          exact ⟨_, rfl, T7.out.1, World.ownsRow.kept HP.out T7.out.2 (.inr (show some w.heap.size ≠ some g7 from fun e => by have := Option.some.inj e; omega)), World.ownsRow.kept HR.out T7.out.2 (.inr (show some (w.heap.size + 1) ≠ some g7 from fun e => by have := Option.some.inj e; omega)), ⟨O8.p, O8.q, O8.ap⟩, HBW.out.grown T7.out.2 HBW.out.size (fun k hk => by cases hk; omega)⟩
         obtain ⟨w8, hw8, N8, P8, R8, OX, B8⟩ := W8E
         clear T7 hnw hnv PRL FF d0 d1 d2 d3 d4 n0 n1 n2 n3 n4
         go_upto_region 36 with fail
         rw [← hw8]
         clear hw8 e0 e1 e2 e3 e4 c0 c1 c2 c3 c4 HP HR HB HO HBW m7 t0
         have BVX : Hid (Calls Tryz.prog 19 #[.agg #[(.slice ya ma da), (.slice yb mb db), .int .i64 bw, .int .i64 bm, .int .i64 (u : Int)]] w8 (Ret (.bool (bookB { b with lines := (u : Int) })) w8)) := by
          have := specBook_any { b with lines := (u : Int) } SX.out _ w8 (OX.out.read)
          rw [show bookV (.slice ya ma da) (.slice yb mb db) { b with lines := (u : Int) } = .agg #[(.slice ya ma da), (.slice yb mb db), .int .i64 bw, .int .i64 bm, .int .i64 (u : Int)] from VL.out _ _ _] at this
          exact this
         have VXF : Hid (bookV (.slice ya ma da) (.slice yb mb db) { b with lines := (u : Int) } = .agg #[(.slice ya ma da), (.slice yb mb db), .int .i64 bw, .int .i64 bm, .int .i64 (u : Int)]) := VL.out _ _ _
         obtain ⟨i0, i1, i2, i3, i4⟩ := own5 N8.out
         cases hbx : bookB { b with lines := (u : Int) } with
         | true =>
          have ET : r = ({ b with lines := (u : Int) }, tOk) := by rw [ER.out]; unfold tried; rw [if_pos hbx]
          subst ET
          rw [hbx] at BVX
          clear hbx ER SX
          go_wp2_with (go_at_call 19; refine BVX.out.mono ?_; rintro e w9 ⟨rfl, hb9⟩; have B9 := hQ (below_next B8.out hb9 nR); have KN9 := hQ (owns_below N8.out hb9); obtain ⟨j0, j1, j2, j3, j4⟩ := own5 KN9.out; have K9 := hQ (owns_below R8.out hb9); obtain ⟨p0, p1, p2, p3, p4⟩ := own5 K9.out; obtain ⟨n0, n1, n2, n3, n4⟩ := fz5 K9.out; have FF := hQ (own5_set K9.out (.slice ya ma da) (.slice yb mb db) (.int .i64 bw) (.int .i64 bm) (.int .i64 (u : Int))))
          obtain ⟨y0, y1, y2, y3, y4⟩ := own5 FF.out.1
          have hsw := HS2.out
          have fs := FF.out.2.size
          have O9 := (OX.out.below hb9).wider hb9.size
          have FX := ((O9.grown FF.out.2 (.inl (by omega))).mono (by omega : w.heap.size ≤ W2.heap.size)).wider fs
          have FB := B9.out.grown FF.out.2 B9.out.size (fun k hk => by cases hk; omega)
          refine bodyPost_ret (v := .tuple #[.agg #[(.slice ya ma da), (.slice yb mb db), .int .i64 bw, .int .i64 bm, .int .i64 (u : Int)], .string (bs tOk)]) (by simp [results, Tryz.results8, go_sem, y0, y1, y2, y3, y4]; rfl) rfl ⟨(.slice ya ma da), (.slice yb mb db), us, by rw [VXF.out], FX, FB⟩
         | false =>
          have ET : r = (b, tNo) := by rw [ER.out]; unfold tried; rw [if_neg (by rw [hbx]; decide)]
          subst ET
          rw [hbx] at BVX
          clear hbx ER SX
          go_wp2_with (first | (go_at_call 19; refine BVX.out.mono ?_; rintro e w9 ⟨rfl, hb9⟩; have B9 := hQ (below_next B8.out hb9 nR); have KP9 := hQ (owns_below P8.out hb9); obtain ⟨j0, j1, j2, j3, j4⟩ := own5 KP9.out; have KR9 := hQ (owns_below R8.out hb9)) | (go_at_call 29; refine (CLH.out _ B9.out).mono ?_; rintro e w10 ⟨ya2, ma2, da2, yb2, mb2, db2, us2, rfl, ho10, hb10⟩; have K9 := hQ (owns_below KR9.out hb10); obtain ⟨p0, p1, p2, p3, p4⟩ := own5 K9.out; obtain ⟨n0, n1, n2, n3, n4⟩ := fz5 K9.out; have FF := hQ (own5_set K9.out (.slice ya2 ma2 da2) (.slice yb2 mb2 db2) (.int .i64 bw) (.int .i64 bm) (.int .i64 bl))))
          obtain ⟨y0, y1, y2, y3, y4⟩ := own5 FF.out.1
          have fs := FF.out.2.size
          have ltr := (World.ownsRow.lt KR9.out (w.heap.size + 1) rfl).2
          have FX := ((ho10.grown FF.out.2 (.inl (by omega))).mono (by omega : w.heap.size ≤ w9.heap.size)).wider fs
          have B10 := below_next B9.out hb10 nR
          have FB := B10.grown FF.out.2 B10.size (fun k hk => by cases hk; omega)
          refine bodyPost_ret (v := .tuple #[.agg #[.slice ya2 ma2 da2, .slice yb2 mb2 db2, .int .i64 bw, .int .i64 bm, .int .i64 bl], .string (bs tNo)]) (by simp [results, Tryz.results8, go_sem, y0, y1, y2, y3, y4]; rfl) rfl ⟨.slice ya2 ma2 da2, .slice yb2 mb2 db2, us2, by rw [VB.out], FX, FB⟩
       ·rw [if_neg hn] at HNV
        have en : n = -1 := HNV.out
        have ER : r = (b, tWhat) := by rw [PRL.out, if_neg (fun h => hn h.1)]
        subst ER
        subst en
        have hn2 : ¬ (N : Int) = 2 := by omega
        clear hnw PRL
        go_wp2_with fail
        obtain ⟨y0, y1, y2, y3, y4⟩ := own5 FF.out.1
        have hsw := HS2.out
        have fs := FF.out.2.size
        have FX := (((HO.out.wider (by omega : hi ≤ wm.heap.size)).grown FF.out.2 (.inl (by omega))).mono (by omega : w.heap.size ≤ W2.heap.size)).wider fs
        have FB := HBW.out.grown FF.out.2 HBW.out.size (fun k hk => by cases hk; omega)
        refine bodyPost_ret (v := .tuple #[.agg #[.slice ya ma da, .slice yb mb db, .int .i64 bw, .int .i64 bm, .int .i64 bl], .string (bs tWhat)]) (by simp [results, Tryz.results8, go_sem, y0, y1, y2, y3, y4]; rfl) rfl ⟨.slice ya ma da, .slice yb mb db, us, by rw [VB.out], FX, FB⟩
      ·unfold tPage at t0 PRL hnw
       by_cases hn : N = 2
       ·rw [if_pos hn] at HNV
        cases hnv : numV w1 with
        | none =>
         have en : n = -1 := by rw [HNV.out]; unfold readV; rw [hnv]
         have ER : r = (b, tWhat) := by rw [PRL.out, if_pos ⟨hn, hnw⟩, hnv]
         subst ER
         subst en
         subst hn
         clear hnw hnv PRL
         go_wp2_with fail
         obtain ⟨y0, y1, y2, y3, y4⟩ := own5 FF.out.1
         have hsw := HS2.out
         have fs := FF.out.2.size
         have FX := (((HO.out.wider (by omega : hi ≤ wm.heap.size)).grown FF.out.2 (.inl (by omega))).mono (by omega : w.heap.size ≤ W2.heap.size)).wider fs
         have FB := HBW.out.grown FF.out.2 HBW.out.size (fun k hk => by cases hk; omega)
         refine bodyPost_ret (v := .tuple #[.agg #[.slice ya ma da, .slice yb mb db, .int .i64 bw, .int .i64 bm, .int .i64 bl], .string (bs tWhat)]) (by simp [results, Tryz.results8, go_sem, y0, y1, y2, y3, y4]; rfl) rfl ⟨.slice ya ma da, .slice yb mb db, us, by rw [VB.out], FX, FB⟩
        | some u =>
         have en : n = (u : Int) := by rw [HNV.out]; unfold readV; rw [hnv]
         have hu9 : u ≤ 999999 := numV_le hnv
         have hn0 : 0 ≤ n := by omega
         subst hn
         subst en
         have ER : r = (b, ansPage b u) := by rw [PRL.out, if_pos ⟨rfl, hnw⟩, hnv]; rfl
         subst ER
         have BPH := hQ (specBPages_any b HV.out _ wm (BRB.out _ HBW.out) HZ.out)
         clear hnw hnv PRL FF d0 d1 d2 d3 d4 n0 n1 n2 n3 n4
         cases hbp : bookP b with
         | none =>
          have EA : Hid (ansPage b u = tNo) := by show _ = _; unfold ansPage; rw [hbp]
          have BPN : Hid (Calls Tryz.prog 32 #[.agg #[.slice pa pl pc, .slice qa ql qc, .int .i64 bw, .int .i64 bm, .int .i64 bl]] wm fun e w5 => ∃ v5, e = .returned (.tuple #[v5, .bool false]) ∧ Below wm.heap.size wm w5) := BPH.out.mono fun e w5 ⟨v5, us5, he, _, hb⟩ => ⟨v5, by rw [he, hbp]; rfl, hb⟩
          clear hbp BPH
          go_wp2_with (go_at_call 32; refine BPN.out.mono ?_; rintro e w5 ⟨v5, rfl, hb5⟩; have KN := hQ (owns_below HB.out hb5); obtain ⟨i0, i1, i2, i3, i4⟩ := own5 KN.out; have KR := hQ (owns_below HR.out hb5); obtain ⟨p0, p1, p2, p3, p4⟩ := own5 KR.out; obtain ⟨n0, n1, n2, n3, n4⟩ := fz5 KR.out; have FF := hQ (own5_set KR.out (.slice ya ma da) (.slice yb mb db) (.int .i64 bw) (.int .i64 bm) (.int .i64 bl)))
          have B5 := below_next HBW.out hb5 nR
          have z5 := hb5.size
          obtain ⟨y0, y1, y2, y3, y4⟩ := own5 FF.out.1
          have hsw := HS2.out
          have fs := FF.out.2.size
          have FX := ((((HO.out.below hb5).wider (by omega : hi ≤ w5.heap.size)).grown FF.out.2 (.inl (by omega))).mono (by omega : w.heap.size ≤ W2.heap.size)).wider fs
          have FB := B5.grown FF.out.2 B5.size (fun k hk => by cases hk; omega)
          refine bodyPost_ret (v := .tuple #[.agg #[.slice ya ma da, .slice yb mb db, .int .i64 bw, .int .i64 bm, .int .i64 bl], .string (bs tNo)]) (by simp [results, Tryz.results8, go_sem, y0, y1, y2, y3, y4]; rfl) rfl ⟨.slice ya ma da, .slice yb mb db, us, by rw [EA.out, VB.out], FX, FB⟩
         | some p =>
          have BPS : Hid (Calls Tryz.prog 32 #[.agg #[.slice pa pl pc, .slice qa ql qc, .int .i64 bw, .int .i64 bm, .int .i64 bl]] wm fun e w5 => ∃ z m c us5, e = .returned (.tuple #[.slice z m c, .bool true]) ∧ p.length = m ∧ OwnSU w5 wm.heap.size w5.heap.size (.slice z m c) p us5 ∧ Below wm.heap.size wm w5) := BPH.out.mono fun e w5 ⟨v5, us5, he, ho, hb⟩ => by
           rw [hbp] at he ho
           simp only [Option.getD_some] at ho
           obtain ⟨z, c, rfl⟩ := ho.form
           exact ⟨z, _, c, us5, he, rfl, ho, hb⟩
          obtain ⟨m, hm⟩ : ∃ m, m = p.length := ⟨_, rfl⟩
          have PLN := hQ (bookP_lens HV.out hbp)
          by_cases hr : 1 ≤ u ∧ u ≤ p.length
          ·obtain ⟨k0, rfl⟩ : ∃ k0, u = k0 + 1 := ⟨u - 1, by omega⟩
           have hk0 : k0 < p.length := by omega
           obtain ⟨pg, hpg⟩ : ∃ pg, pg = p[k0] := ⟨_, rfl⟩
           have EA : Hid (ansPage b (k0 + 1) = slash pg) := by
            show _ = _
            unfold ansPage
            rw [hbp]
            simp only
            rw [if_pos hr, hpg]
            simp [List.getD, hk0]
           have LEN := hQ (PLN.out pg (by rw [hpg]; exact List.getElem_mem _))
           have I1 : Hid (inB ((k0 : Int) + 1) 1 (m : Int) = true) := inB_yes (by omega) (by omega)
           have PGE : Hid (p[k0]? = some pg) := by show _ = _; rw [hpg]; exact List.getElem?_eq_getElem hk0
           rw [← hm] at BPS
           have HM := hQ hm
           clear hbp BPH hm hpg PLN hr hk0
           go_upto_region 28 with (first | (go_at_call 32; refine BPS.out.mono ?_; rintro e w5 ⟨z5, m5, c5, us5, rfl, rfl, ho5, hb5⟩) | (go_at_call 34; refine (l1In_any _ _ _ _).mono ?_; rintro e w' ⟨rfl, rfl⟩; rw [I1.out]))
           have KN := hQ (owns_below HB.out hb5)
           have KR := hQ (owns_below HR.out hb5)
           have B5 := hQ (below_next HBW.out hb5 nR)
           have O5 := hQ (HO.out.below hb5)
           have hm := HM.out
           have hk0 : k0 < p.length := (List.getElem?_eq_some_iff.1 PGE.out).1
           have hpg : p[k0] = pg := (List.getElem?_eq_some_iff.1 PGE.out).2
           obtain ⟨uu, hu, hou, _, _⟩ := ho5.2.2.2.1 k0 hk0
           rw [hpg] at hou
           have hrow := ho5.2.1
           rw [← hm] at hrow
           obtain ⟨gp, cap, eg⟩ : ∃ gp cap, Value.slice z5 m c5 = .slice (some ⟨gp, 0, none⟩) m cap := by
            rcases hrow.2 with ⟨_, h0⟩ | ⟨g, cap, cur, e, _⟩
            ·omega
            ·exact ⟨g, cap, e⟩
           cases eg
           have kc := (World.ownsRow.cellAt hrow k0 (by omega)).trans hu
           have kk : w5.cell? ⟨gp, k0, none⟩ = some uu := by simpa using kc
           obtain ⟨zq, cq, rfl⟩ := own_form hou
           have CJ : Hid (∀ j, j < pg.length → ∃ gq, zq = some ⟨gq, 0, none⟩ ∧ w5.cell? ⟨gq, j, none⟩ = some (.string (bs (pg.getD j [])))) := fun j hj => by
            obtain ⟨g, cap, e, _⟩ := own_cells hou (by omega)
            injection e with q1 q2 q3
            subst q1
            obtain ⟨bq, off, cap2, e2, _, hcell⟩ := txt_pos (OwnT.row hou) (by omega)
            injection e2 with q1 q2 q3
            injection q1 with q4
            injection q4 with q5 q6
            subst q5 q6
            have := hcell j hj
            rw [Nat.zero_add] at this
            exact ⟨_, rfl, this⟩
           obtain ⟨L, hL⟩ : ∃ L, L = pg.length := ⟨_, rfl⟩
           have HL2 := hQ hL
           rw [← hL] at kk CJ
           have hL3 : L ≤ 1000 := by rw [hL]; exact LEN.out.1
           have kn : ((k0 + 1 : Nat) : Int) - 1 = (k0 : Int) := by omega
           have kn2 : ((k0 : Int) + 1 - 1) = (k0 : Int) := by omega
           have kw : IntKind.i64.wrap (((k0 + 1 : Nat) : Int) - 1) = (k0 : Int) := by rw [kn]; exact IntWalk.i64_in _ (by omega)
           have kw2 : IntKind.i64.wrap (k0 : Int) = (k0 : Int) := IntWalk.i64_in _ (by omega)
           have kw3 : IntKind.i64.wrap ((k0 : Int) + 1 - 1) = (k0 : Int) := by rw [kn2]; exact IntWalk.i64_in _ (by omega)
           have hkm : k0 < m := by omega
           have hkm2 : (k0 : Int) < (m : Int) := by omega
           clear hm hk0 hpg hu hou hrow kc hL HP HW HB HR HO I1 BPS ho5 t0 c0 c1 c2 c3 c4 e0 e1 e2 e3 e4 hb5
           go_wp2_with fail
           go_loop [13, 14] (fun o i => ∃ j : Nat, j ≤ L ∧ i = .int .i64 j ∧ ∃ S : List UInt8, o = .string (bs S) ∧ Hid (S = slash (pg.take j)) ∧ S.length ≤ 1300000) (fun _ i => L - (intOf i).toNat)
           case atStart => exact ⟨0, Nat.zero_le _, rfl, [], rfl, rfl, by simp⟩
           case round =>
            obtain ⟨j, hj, rfl, S, rfl, hS, hSl⟩ := hrel
            by_cases hlt : j < L
            ·obtain ⟨gq, rfl, cj⟩ := CJ.out j hlt
             have hjl : j < pg.length := by rw [← HL2.out]; exact hlt
             have hxl : (pg.getD j []).length ≤ 1201 := LEN.out.2 _ (by rw [getD_eq pg [] j hjl]; exact List.getElem_mem _)
             have hnx : Hid (slash (pg.take (j + 1)) = if j = 0 then pg.getD j [] else slash (pg.take j) ++ (47 :: pg.getD j [])) := slash_next pg j hjl
             have hnl : (slash (pg.take (j + 1))).length ≤ 1300000 := by
              have := slash_len (pg.take (j + 1)) (fun x hx => LEN.out.2 x (List.mem_of_mem_take hx))
              rw [List.length_take] at this
              omega
             obtain ⟨X, hX⟩ : ∃ X, X = pg.getD j [] := ⟨_, rfl⟩
             rw [← hX] at cj hxl hnx
             have hjl2 : (j : Int) < (L : Int) := by omega
             clear hX hjl
             by_cases hj0 : j = 0
             ·subst hj0
              have eS : S = [] := by rw [hS.out]; rfl
              subst eS
              have E2 : Hid (X = slash (pg.take (0 + 1))) := by show _ = _; rw [hnx.out]; rfl
              rw [← E2.out] at hnl
              clear hS hnx
              go_wp2_with fail
              go_round
              case rel => exact ⟨0 + 1, by omega, by go_num, X, by simp [bs_append], E2.out, hnl⟩
              case measure => simp [intOf]; omega
             ·have E2 : Hid (S ++ [47] ++ X = slash (pg.take (j + 1))) := by show _ = _; rw [hnx.out, if_neg hj0, hS.out]; simp
              rw [← E2.out] at hnl
              have hjp : (0 : Int) < (j : Int) := by omega
              have hjp2 : 0 < j := by omega
              have q1 : ¬ 9223372036854775807 < S.length + 1 := by omega
              have q2 : ¬ 9223372036854775807 < S.length + 1 + X.length := by omega
              clear hS hnx
              go_wp2_with fail
              go_round
              case rel => exact ⟨j + 1, by omega, by go_num, S ++ [47] ++ X, by rw [← bs_append, ← bs_append], E2.out, hnl⟩
              case measure => simp [intOf]; omega
            ·obtain rfl : j = L := by omega
             have eS : Hid (S = slash pg) := by show _ = _; rw [hS.out, HL2.out, List.take_length]
             obtain ⟨i0, i1, i2, i3, i4⟩ := own5 KN.out
             obtain ⟨p0, p1, p2, p3, p4⟩ := own5 KR.out
             obtain ⟨n0, n1, n2, n3, n4⟩ := fz5 KR.out
             have FF := hQ (own5_set KR.out (.slice ya ma da) (.slice yb mb db) (.int .i64 bw) (.int .i64 bm) (.int .i64 bl))
             go_wp2_with fail
             have z5 := B5.out.size
             have ltr := (World.ownsRow.lt KN.out g7 rfl).2
             obtain ⟨y0, y1, y2, y3, y4⟩ := own5 FF.out.1
             have hsw := HS2.out
             have fs := FF.out.2.size
             have FX := (((O5.out.wider (by omega : hi ≤ w5.heap.size)).grown FF.out.2 (.inl (by omega))).mono (by omega : w.heap.size ≤ W2.heap.size)).wider fs
             have FB := B5.out.grown FF.out.2 B5.out.size (fun k hk => by cases hk; omega)
             refine bodyPost_ret (v := .tuple #[.agg #[.slice ya ma da, .slice yb mb db, .int .i64 bw, .int .i64 bm, .int .i64 bl], .string (bs S)]) (by simp [results, Tryz.results8, go_sem, y0, y1, y2, y3, y4]) rfl ⟨.slice ya ma da, .slice yb mb db, us, by rw [EA.out, ← eS.out, VB.out], FX, FB⟩
          ·have EA : Hid (ansPage b u = tNo) := by show _ = _; unfold ansPage; rw [hbp]; simp only; rw [if_neg hr]
           have I1 : Hid (inB (u : Int) 1 (m : Int) = false) := by show _ = _; unfold inB; simp; omega
           rw [← hm] at BPS
           clear hbp BPH hr hm
           go_wp2_with (first | (go_at_call 32; refine BPS.out.mono ?_; rintro e w5 ⟨z5, m5, c5, us5, rfl, rfl, ho5, hb5⟩; have KN := hQ (owns_below HB.out hb5); obtain ⟨i0, i1, i2, i3, i4⟩ := own5 KN.out; have KR := hQ (owns_below HR.out hb5); obtain ⟨p0, p1, p2, p3, p4⟩ := own5 KR.out; obtain ⟨n0, n1, n2, n3, n4⟩ := fz5 KR.out; have FF := hQ (own5_set KR.out (.slice ya ma da) (.slice yb mb db) (.int .i64 bw) (.int .i64 bm) (.int .i64 bl))) | (go_at_call 34; refine (l1In_any _ _ _ _).mono ?_; rintro e w' ⟨rfl, rfl⟩; rw [I1.out]))
           have B5 := below_next HBW.out hb5 nR
           have z5 := hb5.size
           obtain ⟨y0, y1, y2, y3, y4⟩ := own5 FF.out.1
           have hsw := HS2.out
           have fs := FF.out.2.size
           have FX := ((((HO.out.below hb5).wider (by omega : hi ≤ w5.heap.size)).grown FF.out.2 (.inl (by omega))).mono (by omega : w.heap.size ≤ W2.heap.size)).wider fs
           have FB := B5.grown FF.out.2 B5.size (fun k hk => by cases hk; omega)
           refine bodyPost_ret (v := .tuple #[.agg #[.slice ya ma da, .slice yb mb db, .int .i64 bw, .int .i64 bm, .int .i64 bl], .string (bs tNo)]) (by simp [results, Tryz.results8, go_sem, y0, y1, y2, y3, y4]; rfl) rfl ⟨.slice ya ma da, .slice yb mb db, us, by rw [EA.out, VB.out], FX, FB⟩
       ·rw [if_neg hn] at HNV
        have en : n = -1 := HNV.out
        have ER : r = (b, tWhat) := by rw [PRL.out, if_neg (fun h => hn h.1)]
        subst ER
        subst en
        have hn2 : ¬ (N : Int) = 2 := by omega
        clear hnw PRL
        go_wp2_with fail
        obtain ⟨y0, y1, y2, y3, y4⟩ := own5 FF.out.1
        have hsw := HS2.out
        have fs := FF.out.2.size
        have FX := (((HO.out.wider (by omega : hi ≤ wm.heap.size)).grown FF.out.2 (.inl (by omega))).mono (by omega : w.heap.size ≤ W2.heap.size)).wider fs
        have FB := HBW.out.grown FF.out.2 HBW.out.size (fun k hk => by cases hk; omega)
        refine bodyPost_ret (v := .tuple #[.agg #[.slice ya ma da, .slice yb mb db, .int .i64 bw, .int .i64 bm, .int .i64 bl], .string (bs tWhat)]) (by simp [results, Tryz.results8, go_sem, y0, y1, y2, y3, y4]; rfl) rfl ⟨.slice ya ma da, .slice yb mb db, us, by rw [VB.out], FX, FB⟩
end Go.Proofs.YtofnchdijanikaaGreatDoor

/-
  PROVED HERE: what the printer's lines need, part F01. Conditions: each theorem's own.
-/
import Derived.Test.YtofnchdijanikaaGreatDoorD02
import Derived.Test.YtofnchdijanikaaGreatDoorV04
import Derived.Test.YtofnchdijanikaaGreatDoorD03
import Derived.Test.YtofnchdijanikaaGreatDoorX01
import Derived.Test.YtofnchdijanikaaGreatDoorV01
set_option linter.unusedVariables false
set_option linter.unusedSimpArgs false
set_option maxRecDepth 100000
namespace Go.Proofs.YtofnchdijanikaaGreatDoor
open Go.RowKit
def DrawPL (w : World) (e : Ending) (w' : World) : Prop := ∃ (v : Value) (b : DBook) (l : List UInt8), e = .returned (.tuple #[v, .string (bs l)]) ∧ BookR w' v b ∧ BookN v ∧ BookSh b ∧ l.length ≤ 120 ∧ Below w.heap.size w w'
set_option maxHeartbeats 16000000 in
theorem drawPL_any (a : Option Addr) (n cap : Nat) (w : World) (h : Code8 w a n cap) : Calls Tryz.prog 26 #[.slice a n cap] w (DrawPL w) := by
 have A0 := hQ ((Below.refl w.heap.size w).alloc nR (.cells #[.slice none 0 0, .slice none 0 0, .int .i64 0, .int .i64 0, .int .i64 0] 27))
 have R0 := hQ (own5_made w nR 27 (.slice none 0 0) (.slice none 0 0) (.int .i64 0) (.int .i64 0) (.int .i64 0))
 obtain ⟨wA, hwA⟩ : ∃ wA, wA = w.alloc (.cells #[.slice none 0 0, .slice none 0 0, .int .i64 0, .int .i64 0, .int .i64 0] 27) := ⟨_, rfl⟩
 have H := hQ (h.below A0.out)
 rw [← hwA] at A0 R0 H
 clear h
 go_enter Tryz.func26, Tryz.ntmps26
 go_wp2_with fail
 rw [← hwA]
 clear hwA
 refine (open_any a n cap wA H.out).mono ?_
 rintro e w1 ⟨B, rfl, hr, hB, hb⟩
 have B1 := hQ (below_next A0.out hb nR)
 have R1 := hQ (owns_below R0.out hb)
 have lw := (World.ownsRow.lt R0.out w.heap.size rfl).2
 have hwB : w.heap.size < B := Nat.lt_of_lt_of_le lw hB
 have hB1 : B < w1.heap.size := hr.lt
 clear hb H R0 A0 lw hB
 go_wp2_with fail
 refine (l20Book_to B 0 14 w1 ⟨0, nR, hr⟩ (by omega) (by omega) (by omega)).mono ?_
 rintro e w2 ⟨v, b, rfl, hbo, hbn, hbs, hd⟩
 obtain ⟨pv, qv, us, rfl, h1, h2, h3⟩ := hbo
 obtain ⟨pz, pn, pc, rfl⟩ := h1.form'
 obtain ⟨qz, qn, qc, rfl⟩ := OwnT.form' h2
 have hs2 := hd.size
 have er : (Value.slice (some ⟨w.heap.size, 0, none⟩) 1 1).ownBlock = some w.heap.size := rfl
 have R2 := R1.out.kept hd.2.1 (.inr (by rw [er]; exact fun e => by have := Option.some.inj e; omega))
 obtain ⟨w3, g5, hw3, hg5, K3⟩ : ∃ w3 g5, w3 = w2.alloc (.cells #[.slice pz pn pc, .slice qz qn qc, .int .i64 b.w, .int .i64 b.most, .int .i64 b.lines] 27) ∧ g5 = w2.heap.size ∧ Hid (Dq w w1 w3 B 17000 g5 w2.heap.size (.slice pz pn pc) (.slice qz qn qc) b) := ⟨_, _, rfl, rfl, ⟨hd.alloc _, R2.alloc _, own5_made w2 (by have := B1.out.size; omega) _ _ _ _ _ _, BookO.below ⟨_, _, us, rfl, h1, h2, h3⟩ ((Below.refl _ _).alloc nR _), ⟨hwB, by omega, nR, hB1⟩⟩⟩
 have SH := hQ hbs
 have BN := hQ hbn
 clear h1 h2 h3 hd R2 R1 hs2 er hbn hbs hr
 go_upto_region 3 with fail
 rw [← hw3, ← hg5]
 clear hw3 hg5
 have KS : Hid (∀ w', w3.grownBy w' (some B) → w'.cell? ⟨g5, 0, none⟩ = some (.slice pz pn pc) ∧ w'.cell? ⟨g5, 1, none⟩ = some (.slice qz qn qc) ∧ w'.cell? ⟨g5, 2, none⟩ = some (.int .i64 b.w) ∧ w'.cell? ⟨g5, 3, none⟩ = some (.int .i64 b.most) ∧ w'.cell? ⟨g5, 4, none⟩ = some (.int .i64 b.lines)) := fun w' hg => by
  have e2 : (Value.slice (some ⟨g5, 0, none⟩) 1 1).ownBlock = some g5 := rfl
  exact own5 (K3.out.kb.kept hg (.inr (by rw [e2]; exact fun e => by have := Option.some.inj e; have := K3.out.s; omega)))
 have kk := KS.out w3.drew (grownBy_drewN (grownBy_refl w3 _) 1)
 have KD : Hid (Dq w w1 w3.drew B 17000 g5 w2.heap.size (.slice pz pn pc) (.slice qz qn qc) b) := K3.out.pick (grownBy_drewN (grownBy_refl w3 _) 1) K3.out.dr.1
 go_region_held3 (fun w' => w'.cell? ⟨g5, 0, none⟩ = some (.slice pz pn pc) ∧ w'.cell? ⟨g5, 1, none⟩ = some (.slice qz qn qc) ∧ w'.cell? ⟨g5, 2, none⟩ = some (.int .i64 b.w) ∧ w'.cell? ⟨g5, 3, none⟩ = some (.int .i64 b.most) ∧ w'.cell? ⟨g5, 4, none⟩ = some (.int .i64 b.lines)) (first | with_reducible exact kk | with_reducible exact kk5 | with_reducible exact kk6 | go_keep)
  ((go_at_call 49; refine (l20Said_to B 17000 _ KD.out.dr.1 (by omega)).mono ?_; rintro e w4 ⟨l, hl, rfl, hd4⟩; have K4 := hQ (KD.out.pick hd4.2.1 hd4.1); have LL := hQ hl; obtain ⟨c0, c1, c2, c3, c4⟩ := own5 K4.out.kb; have kk5 := own5 K4.out.kb; obtain ⟨r0, r1, r2, r3, r4⟩ := own5 K4.out.kr; obtain ⟨n0, n1, n2, n3, n4⟩ := fz5 K4.out.kr; have FIN := hQ (K4.out.fin B1.out); have kk6 := own5 (World.ownsRow.kept K4.out.kb FIN.out.2.2.2 (.inr (show some g5 ≠ some w.heap.size from fun e => by have := Option.some.inj e; have := K4.out.s; omega)))))
 all_goals
  obtain ⟨y0, y1, y2, y3, y4⟩ := own5 FIN.out.1
  go_wp2
  refine bodyPost_ret (v := .tuple #[.agg #[.slice pz pn pc, .slice qz qn qc, .int .i64 b.w, .int .i64 b.most, .int .i64 b.lines], .string (bs l)]) (by simp [results, Tryz.results26, go_sem, y0, y1, y2, y3, y4]) rfl ⟨_, b, l, rfl, FIN.out.2.1, BN.out, SH.out, LL.out, FIN.out.2.2.1⟩
end Go.Proofs.YtofnchdijanikaaGreatDoor
namespace Go.Proofs.YtofnchdijanikaaGreatDoor
open Go.RowKit
theorem OwnB.alloc {w : World} {base hi : Nat} {pv qv : Value} {us : List Value} {b : DBook} (h : OwnB w base hi pv qv us b) (o : Obj) : OwnB (w.alloc o) base hi pv qv us b := h.below ((Below.refl _ _).alloc nR o)
end Go.Proofs.YtofnchdijanikaaGreatDoor
namespace Go.Proofs.YtofnchdijanikaaGreatDoor
open Go.RowKit
theorem prL_facts (b : DBook) (l : List UInt8) : (bookB b = false → (prL b l).1 = zB ∧ (prL b l).2 = []) ∧ (bookB b = true → bookB (prL b l).1 = true ∧ ((prL b l).2 = tOk ∨ (prL b l).1 = b)) := by
 unfold prL
 constructor
 ·intro h
  rw [if_neg (by rw [h]; decide)]
  exact ⟨rfl, rfl⟩
 ·intro h
  rw [if_pos h]
  refine ⟨prLine_ok h l, ?_⟩
  have tr : ∀ x, (tried b x).2 = tOk ∨ (tried b x).1 = b := fun x => by
   unfold tried
   split
   ·exact .inl rfl
   ·exact .inr rfl
  unfold prLine
  split
  ·exact .inr rfl
  ·split
   ·exact tr _
   ·split
    ·exact tr _
    ·split
     ·split
      ·exact .inr rfl
      ·unfold prNum
       split
       ·exact tr _
       ·split
        ·exact tr _
        ·split
         ·exact tr _
         ·exact .inr rfl
     ·exact .inr rfl
theorem prL_nothing (b : DBook) (h : bookB b = true) : (prL b [110, 111, 116, 104, 105, 110, 103]).2 = [119, 104, 97, 116] := by
 unfold prL
 rw [if_pos h]
 have hw : wds [110, 111, 116, 104, 105, 110, 103] = [[110, 111, 116, 104, 105, 110, 103]] := by decide
 unfold prLine
 rw [hw, if_neg (by decide), if_neg (by decide), if_neg (by decide), if_neg (by decide)]
 rfl
set_option maxHeartbeats 64000000 in
theorem fnPrinterLine_walk (a : Option Addr) (n cap : Nat) (w : World) (h : Code8 w a n cap) (ht : LnTab w) : Calls Tryz.prog 6 #[.slice a n cap] w (Ret (.bool true) w) := by
 have hn : n ≤ 9223372036854775807 := by have := h.2.1; unfold maxLen at this; omega
 by_cases hbig : 1048576 < n
 ·go_enter Tryz.func6, Tryz.ntmps6
  go_wp2
  go_ret
  exact ⟨rfl, Below.refl _ _⟩
 ·have H := hQ h
  have TAB := hQ ht
  clear h ht
  go_enter Tryz.func6, Tryz.ntmps6
  go_upto_region 4 with (go_at_call 26; refine (drawPL_any a n cap w H.out).mono ?_; rintro e w0 ⟨v, db, l, rfl, hr, hbn, hbs, hl, hbI⟩; obtain ⟨p1, q1, rfl, hp, hq⟩ := hr; obtain ⟨pa, pl, pc, rfl⟩ : ∃ a l c, p1 = .slice a l c := (by obtain ⟨va, vc, e, _⟩ := ss_idx hp; exact ⟨_, _, _, e⟩); obtain ⟨qa, ql, qc, rfl⟩ : ∃ a l c, q1 = .slice a l c := (by obtain ⟨a, c, e, _⟩ := hq; exact ⟨_, _, _, e⟩))
  have BI := hQ hbI
  have BRB := hQ (fun w' (hb : Below w0.heap.size w0 w') => BookR.below (b := db) ⟨_, _, rfl, hp, hq⟩ hb)
  have LTB : Hid (∀ w', Below w0.heap.size w0 w' → LnTab w') := fun w' hb => TAB.out.below (below_next hbI hb nR) nR
  obtain ⟨bv, hbv⟩ : ∃ bv, bv = bookB db := ⟨_, rfl⟩
  obtain ⟨r1, hr1⟩ : ∃ r1, r1 = prL db l := ⟨_, rfl⟩
  have PF := prL_facts db l
  rw [← hr1, ← hbv] at PF
  obtain ⟨R, an⟩ := r1
  obtain ⟨r9, hr9⟩ : ∃ r9, r9 = prL db [110, 111, 116, 104, 105, 110, 103] := ⟨_, rfl⟩
  have N9 : Hid (bv = true → r9.2 = [119, 104, 97, 116]) := fun e => by rw [hr9]; exact prL_nothing db (hbv.symm.trans e)
  obtain ⟨R9, an9⟩ := r9
  have RF := hQ PF.1
  have RT := hQ PF.2
  clear PF
  have IP : Hid (∀ w', Below w0.heap.size w0 w' → Calls Tryz.prog 10 #[.agg #[.slice pa pl pc, .slice qa ql qc, .int .i64 db.w, .int .i64 db.most, .int .i64 db.lines], .string (bs l)] w' fun e w2 => ∃ ya ma da yb mb dd us2, e = .returned (.tuple #[.agg #[.slice ya ma da, .slice yb mb dd, .int .i64 R.w, .int .i64 R.most, .int .i64 R.lines], .string (bs an)]) ∧ OwnB w2 w'.heap.size w2.heap.size (.slice ya ma da) (.slice yb mb dd) us2 R ∧ Below w'.heap.size w' w2) := fun w' hb => by
   refine Calls.mono (implP_any db hbs _ w' (BRB.out w' hb) hbn l (by omega) (LTB.out w' hb)) ?_
   rintro e w2 ⟨pv2, qv2, us2, rfl, ho, hb2⟩
   obtain ⟨ya, ma, da, yb, mb, dd, rfl, rfl⟩ := ho.forms
   exact ⟨ya, ma, da, yb, mb, dd, us2, by rw [← hr1]; rfl, by rw [← hr1] at ho; exact ho, hb2⟩
  have SP : Hid (∀ w', Below w0.heap.size w0 w' → Calls Tryz.prog 8 #[.agg #[.slice pa pl pc, .slice qa ql qc, .int .i64 db.w, .int .i64 db.most, .int .i64 db.lines], .string (bs l)] w' fun e w2 => ∃ ya ma da yb mb dd us2, e = .returned (.tuple #[.agg #[.slice ya ma da, .slice yb mb dd, .int .i64 R.w, .int .i64 R.most, .int .i64 R.lines], .string (bs an)]) ∧ OwnB w2 w'.heap.size w2.heap.size (.slice ya ma da) (.slice yb mb dd) us2 R ∧ Below w'.heap.size w' w2) := fun w' hb => by
   refine Calls.mono (specP_any db hbs _ w' (BRB.out w' hb) hbn l (by omega) ) ?_
   rintro e w2 ⟨pv2, qv2, us2, rfl, ho, hb2⟩
   obtain ⟨ya, ma, da, yb, mb, dd, rfl, rfl⟩ := ho.forms
   exact ⟨ya, ma, da, yb, mb, dd, us2, by rw [← hr1]; rfl, by rw [← hr1] at ho; exact ho, hb2⟩
  have IP9 : Hid (∀ w', Below w0.heap.size w0 w' → Calls Tryz.prog 10 #[.agg #[.slice pa pl pc, .slice qa ql qc, .int .i64 db.w, .int .i64 db.most, .int .i64 db.lines], .string ⟨#[110, 111, 116, 104, 105, 110, 103]⟩] w' fun e w2 => ∃ ya ma da yb mb dd us2, e = .returned (.tuple #[.agg #[.slice ya ma da, .slice yb mb dd, .int .i64 R9.w, .int .i64 R9.most, .int .i64 R9.lines], .string (bs an9)]) ∧ OwnB w2 w'.heap.size w2.heap.size (.slice ya ma da) (.slice yb mb dd) us2 R9 ∧ Below w'.heap.size w' w2) := fun w' hb => by
   refine Calls.mono (implP_any db hbs _ w' (BRB.out w' hb) hbn [110, 111, 116, 104, 105, 110, 103] (by decide) (LTB.out w' hb)) ?_
   rintro e w2 ⟨pv2, qv2, us2, rfl, ho, hb2⟩
   obtain ⟨ya, ma, da, yb, mb, dd, rfl, rfl⟩ := ho.forms
   exact ⟨ya, ma, da, yb, mb, dd, us2, by rw [← hr9]; rfl, by rw [← hr9] at ho; exact ho, hb2⟩
  have SBR : Hid (∀ w' b1 h1 y1 z1 u1 b2 h2 y2 z2 u2, OwnB w' b1 h1 y1 z1 u1 R → OwnB w' b2 h2 y2 z2 u2 R → Calls Tryz.prog 17 #[.agg #[y1, z1, .int .i64 R.w, .int .i64 R.most, .int .i64 R.lines], .agg #[y2, z2, .int .i64 R.w, .int .i64 R.most, .int .i64 R.lines]] w' (Ret (.bool true) w')) := fun w' b1 h1 y1 z1 u1 b2 h2 y2 z2 u2 o1 o2 => sameBook_any _ _ R w' o1.read o2.read
  have SBD : Hid (R = db → ∀ w' b1 h1 y1 z1 u1, OwnB w' b1 h1 y1 z1 u1 R → Below w0.heap.size w0 w' → Calls Tryz.prog 17 #[.agg #[y1, z1, .int .i64 R.w, .int .i64 R.most, .int .i64 R.lines], .agg #[.slice pa pl pc, .slice qa ql qc, .int .i64 db.w, .int .i64 db.most, .int .i64 db.lines]] w' (Ret (.bool true) w')) := fun e w' b1 h1 y1 z1 u1 o1 hb => by
   subst e
   exact sameBook_any _ _ R w' o1.read (BRB.out w' hb)
  have BVS : Hid (∀ w', Below w0.heap.size w0 w' → Calls Tryz.prog 19 #[.agg #[.slice pa pl pc, .slice qa ql qc, .int .i64 db.w, .int .i64 db.most, .int .i64 db.lines]] w' (Ret (.bool bv) w')) := fun w' hb => by
   rw [hbv]
   exact specBook_any db hbs _ w' (BRB.out w' hb)
  have BVI : Hid (bookB R = true → ∀ w' b1 h1 y1 z1 u1, OwnB w' b1 h1 y1 z1 u1 R → Calls Tryz.prog 27 #[.agg #[y1, z1, .int .i64 R.w, .int .i64 R.most, .int .i64 R.lines]] w' (Ret (.bool true) w')) := fun e w' b1 h1 y1 z1 u1 o1 => by
   have := implBook_any R (bookSh_ok (bookB_true e)) _ w' o1.read
   rwa [e] at this
  have bz : Hid (Below w0.heap.size w0 w0) := Below.refl _ _
  clear hbI hp hq hbs hbn hbv hr1 hr9 hl TAB H
  obtain ⟨w1, g3, e4, g5, k1, b2, z3⟩ : ∃ w1 g3, w1 = w0.alloc (.cells #[.slice pa pl pc, .slice qa ql qc, .int .i64 db.w, .int .i64 db.most, .int .i64 db.lines] BoxT) ∧ Hid (g3 = w0.heap.size) ∧ Hid (w1.ownsRow w0.heap.size BoxT 5 (.slice (some ⟨g3, 0, none⟩) 1 1) 1 [.slice pa pl pc, .slice qa ql qc, .int .i64 db.w, .int .i64 db.most, .int .i64 db.lines]) ∧ Hid (Below w0.heap.size w0 w1) ∧ Hid (w1.heap.size = w0.heap.size + 1) := ⟨_, _, rfl, rfl, own5_made w0 bz.out.size BoxT _ _ _ _ _, bz.out.alloc bz.out.size _, (by show _ = _; simp)⟩
  unfold BoxT at e4
  rw [← e4, ← g5.out]
  clear e4 bz
  obtain ⟨c6, c7, c8, c9, c10⟩ := own5 k1.out
  go_upto_region 5 with (go_at_call 10; refine (IP.out _ b2.out).mono ?_; rintro e w2 ⟨x1, n1, c1', x2, n2, c2', usX, rfl, oX, hb2⟩)
  have k11 := hQ (owns_below k1.out hb2)
  have b12 := hQ (below_next b2.out hb2 nR)
  have z13 := hb2.size
  clear k1 b2
  have oX := hQ oX
  clear hb2 c6 c7 c8 c9 c10
  obtain ⟨w3, g5, e19, g20, k14, k15, o16, b17, z18⟩ : ∃ w3 g5, w3 = w2.alloc (.cells #[.slice x1 n1 c1', .slice x2 n2 c2', .int .i64 R.w, .int .i64 R.most, .int .i64 R.lines] BoxT) ∧ Hid (g5 = w2.heap.size) ∧ Hid (w3.ownsRow w0.heap.size BoxT 5 (.slice (some ⟨g3, 0, none⟩) 1 1) 1 [.slice pa pl pc, .slice qa ql qc, .int .i64 db.w, .int .i64 db.most, .int .i64 db.lines]) ∧ Hid (w3.ownsRow w0.heap.size BoxT 5 (.slice (some ⟨g5, 0, none⟩) 1 1) 1 [.slice x1 n1 c1', .slice x2 n2 c2', .int .i64 R.w, .int .i64 R.most, .int .i64 R.lines]) ∧ Hid (OwnB w3 w1.heap.size w2.heap.size (.slice x1 n1 c1') (.slice x2 n2 c2') usX R) ∧ Hid (Below w0.heap.size w0 w3) ∧ Hid (w3.heap.size = w2.heap.size + 1) := ⟨_, _, rfl, rfl, World.ownsRow.alloc k11.out _, own5_made w2 b12.out.size BoxT _ _ _ _ _, oX.out.alloc _, b12.out.alloc b12.out.size _, (by show _ = _; simp)⟩
  unfold BoxT at e19
  rw [← e19, ← g20.out]
  clear e19 k11 oX b12
  obtain ⟨c21, c22, c23, c24, c25⟩ := own5 k14.out
  go_upto_region 6 with (go_at_call 8; refine (SP.out _ b17.out).mono ?_; rintro e w4 ⟨y1, m1, d1, y2, m2, d2, usY, rfl, oY, hb4⟩)
  have k26 := hQ (owns_below k14.out hb4)
  have k27 := hQ (owns_below k15.out hb4)
  have o28 := hQ (o16.out.below hb4)
  have b29 := hQ (below_next b17.out hb4 nR)
  have z30 := hb4.size
  clear k14 k15 o16 b17
  have oY := hQ oY
  clear hb4 c21 c22 c23 c24 c25
  obtain ⟨w5, g7, e38, g39, k31, k32, k33, o34, o35, b36, z37⟩ : ∃ w5 g7, w5 = w4.alloc (.cells #[.slice y1 m1 d1, .slice y2 m2 d2, .int .i64 R.w, .int .i64 R.most, .int .i64 R.lines] BoxT) ∧ Hid (g7 = w4.heap.size) ∧ Hid (w5.ownsRow w0.heap.size BoxT 5 (.slice (some ⟨g3, 0, none⟩) 1 1) 1 [.slice pa pl pc, .slice qa ql qc, .int .i64 db.w, .int .i64 db.most, .int .i64 db.lines]) ∧ Hid (w5.ownsRow w0.heap.size BoxT 5 (.slice (some ⟨g5, 0, none⟩) 1 1) 1 [.slice x1 n1 c1', .slice x2 n2 c2', .int .i64 R.w, .int .i64 R.most, .int .i64 R.lines]) ∧ Hid (w5.ownsRow w0.heap.size BoxT 5 (.slice (some ⟨g7, 0, none⟩) 1 1) 1 [.slice y1 m1 d1, .slice y2 m2 d2, .int .i64 R.w, .int .i64 R.most, .int .i64 R.lines]) ∧ Hid (OwnB w5 w1.heap.size w2.heap.size (.slice x1 n1 c1') (.slice x2 n2 c2') usX R) ∧ Hid (OwnB w5 w3.heap.size w4.heap.size (.slice y1 m1 d1) (.slice y2 m2 d2) usY R) ∧ Hid (Below w0.heap.size w0 w5) ∧ Hid (w5.heap.size = w4.heap.size + 1) := ⟨_, _, rfl, rfl, World.ownsRow.alloc k26.out _, World.ownsRow.alloc k27.out _, own5_made w4 b29.out.size BoxT _ _ _ _ _, o28.out.alloc _, oY.out.alloc _, b29.out.alloc b29.out.size _, (by show _ = _; simp)⟩
  unfold BoxT at e38
  rw [← e38, ← g39.out]
  clear e38 k26 k27 o28 oY b29
  obtain ⟨c40, c41, c42, c43, c44⟩ := own5 k32.out
  obtain ⟨c45, c46, c47, c48, c49⟩ := own5 k33.out
  go_upto_region 8 with (go_at_call 17; refine (SBR.out _ _ _ _ _ _ _ _ _ _ _ o34.out o35.out).mono ?_; rintro e w6 ⟨rfl, hb6⟩)
  have k50 := hQ (owns_below k31.out hb6)
  have k51 := hQ (owns_below k32.out hb6)
  have k52 := hQ (owns_below k33.out hb6)
  have o53 := hQ (o34.out.below hb6)
  have o54 := hQ (o35.out.below hb6)
  have b55 := hQ (below_next b36.out hb6 nR)
  have z56 := hb6.size
  clear k31 k32 k33 o34 o35 b36
  clear hb6 c40 c41 c42 c43 c44 c45 c46 c47 c48 c49
  obtain ⟨c57, c58, c59, c60, c61⟩ := own5 k50.out
  go_upto_if 42 with (go_at_call 19; refine (BVS.out _ b55.out).mono ?_; rintro e w7 ⟨rfl, hb7⟩)
  have k62 := hQ (owns_below k50.out hb7)
  have k63 := hQ (owns_below k51.out hb7)
  have k64 := hQ (owns_below k52.out hb7)
  have o65 := hQ (o53.out.below hb7)
  have o66 := hQ (o54.out.below hb7)
  have b67 := hQ (below_next b55.out hb7 nR)
  have z68 := hb7.size
  clear k50 k51 k52 o53 o54 b55
  clear hb7 c57 c58 c59 c60 c61
  cases bv
  ·obtain ⟨eR, eA⟩ := RF.out rfl
   have e4 : w7.cell? ⟨g5, 4, none⟩ = some (.int .i64 0) := by have := (own5 k63.out).2.2.2.2; rw [eR] at this; exact this
   subst eA
   clear eR RF RT N9 IP SP IP9 SBR SBD BVS BVI
   go_wp2_with (go_at_call 20; refine (alive_any _).mono ?_; rintro e w8 ⟨rfl, hb8⟩)
   go_ret
   exact ⟨rfl, below_next BI.out (below_next b67.out hb8 nR) nR⟩
  ·have e9 : an9 = [119, 104, 97, 116] := N9.out rfl
   subst e9
   have eV := (RT.out rfl).1
   have eO := hQ (RT.out rfl).2
   have BV2 := hQ (BVI.out eV)
   clear eV RF RT N9 IP SP SBR BVS BVI
   obtain ⟨c69, c70, c71, c72, c73⟩ := own5 k62.out
   go_upto_region 11 with (go_at_call 10; refine (IP9.out _ b67.out).mono ?_; rintro e w8 ⟨z1, k1, f1, z2, k2, f2, usZ, rfl, oZ, hb8⟩)
   have k74 := hQ (owns_below k62.out hb8)
   have k75 := hQ (owns_below k63.out hb8)
   have k76 := hQ (owns_below k64.out hb8)
   have o77 := hQ (o65.out.below hb8)
   have o78 := hQ (o66.out.below hb8)
   have b79 := hQ (below_next b67.out hb8 nR)
   have z80 := hb8.size
   clear k62 k63 k64 o65 o66 b67
   clear hb8 oZ c69 c70 c71 c72 c73
   obtain ⟨w9, g9, e89, g90, k81, k82, k83, k84, o85, o86, b87, z88⟩ : ∃ w9 g9, w9 = w8.alloc (.cells #[.slice z1 k1 f1, .slice z2 k2 f2, .int .i64 R9.w, .int .i64 R9.most, .int .i64 R9.lines] BoxT) ∧ Hid (g9 = w8.heap.size) ∧ Hid (w9.ownsRow w0.heap.size BoxT 5 (.slice (some ⟨g3, 0, none⟩) 1 1) 1 [.slice pa pl pc, .slice qa ql qc, .int .i64 db.w, .int .i64 db.most, .int .i64 db.lines]) ∧ Hid (w9.ownsRow w0.heap.size BoxT 5 (.slice (some ⟨g5, 0, none⟩) 1 1) 1 [.slice x1 n1 c1', .slice x2 n2 c2', .int .i64 R.w, .int .i64 R.most, .int .i64 R.lines]) ∧ Hid (w9.ownsRow w0.heap.size BoxT 5 (.slice (some ⟨g7, 0, none⟩) 1 1) 1 [.slice y1 m1 d1, .slice y2 m2 d2, .int .i64 R.w, .int .i64 R.most, .int .i64 R.lines]) ∧ Hid (w9.ownsRow w0.heap.size BoxT 5 (.slice (some ⟨g9, 0, none⟩) 1 1) 1 [.slice z1 k1 f1, .slice z2 k2 f2, .int .i64 R9.w, .int .i64 R9.most, .int .i64 R9.lines]) ∧ Hid (OwnB w9 w1.heap.size w2.heap.size (.slice x1 n1 c1') (.slice x2 n2 c2') usX R) ∧ Hid (OwnB w9 w3.heap.size w4.heap.size (.slice y1 m1 d1) (.slice y2 m2 d2) usY R) ∧ Hid (Below w0.heap.size w0 w9) ∧ Hid (w9.heap.size = w8.heap.size + 1) := ⟨_, _, rfl, rfl, World.ownsRow.alloc k74.out _, World.ownsRow.alloc k75.out _, World.ownsRow.alloc k76.out _, own5_made w8 b79.out.size BoxT _ _ _ _ _, o77.out.alloc _, o78.out.alloc _, b79.out.alloc b79.out.size _, (by show _ = _; simp)⟩
   unfold BoxT at e89
   rw [← e89, ← g90.out]
   clear e89 k74 k75 k76 o77 o78 b79
   obtain ⟨c91, c92, c93, c94, c95⟩ := own5 k82.out
   cases hk : (an == [111, 107])
   ·have eD : R = db := by
     rcases eO.out with e | e
     ·have e : an = [111, 107] := e
      rw [e] at hk
      exact absurd hk (by decide)
     ·exact e
    have SB2 := hQ (SBD.out eD)
    clear eD SBD eO
    go_wp2_with (first | (go_at_call 27; refine (BV2.out _ _ _ _ _ _ o85.out).mono ?_; rintro e wA ⟨rfl, hbA⟩; have KA := hQ (owns_below k82.out hbA); have KB := hQ (owns_below k81.out hbA); obtain ⟨e0, e1, e2, e3, e4⟩ := own5 KA.out; obtain ⟨f0, f1', f2', f3, f4⟩ := own5 KB.out; have OA := hQ (o85.out.below hbA); have BA := hQ (below_next b87.out hbA nR)) | (go_at_call 17; refine (SB2.out _ _ _ _ _ _ OA.out BA.out).mono ?_; rintro e wB ⟨rfl, hbB⟩; have BB := hQ (below_next BA.out hbB nR)))
    go_ret
    exact ⟨rfl, below_next BI.out BB.out nR⟩
   ·clear SBD eO
    go_wp2_with (go_at_call 27; refine (BV2.out _ _ _ _ _ _ o85.out).mono ?_; rintro e wA ⟨rfl, hbA⟩; have BA := hQ (below_next b87.out hbA nR))
    go_ret
    exact ⟨rfl, below_next BI.out BA.out nR⟩
end Go.Proofs.YtofnchdijanikaaGreatDoor

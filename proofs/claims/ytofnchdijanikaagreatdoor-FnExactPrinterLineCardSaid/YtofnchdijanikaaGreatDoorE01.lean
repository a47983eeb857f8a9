/-
  PROVED HERE: what the printer's lines need, part E01. Conditions: each theorem's own.
-/
import Derived.Test.YtofnchdijanikaaGreatDoorH02
set_option linter.unusedVariables false
set_option linter.unusedSimpArgs false
set_option maxRecDepth 100000
namespace Go.Proofs.YtofnchdijanikaaGreatDoor
open Go.RowKit
set_option maxHeartbeats 64000000 in
theorem fnExactPrinterLine_walk (w0 : World) (v : Value) (db : DBook) (h : BookR w0 v db) (hs : ∀ x ∈ db.pars, ShM x) (hq : ShM db.pats) (l : List UInt8) (ht : LnTab w0) : Calls Tryz.prog 3 #[v, .string (bs l)] w0 (Ret (.bool true) w0) := by
 obtain ⟨pv, qv, rfl, hp, hqv⟩ := h
 obtain ⟨bw, hbw⟩ : ∃ y, y = db.w := ⟨_, rfl⟩
 obtain ⟨bm, hbm⟩ : ∃ y, y = db.most := ⟨_, rfl⟩
 obtain ⟨bl, hbl⟩ : ∃ y, y = db.lines := ⟨_, rfl⟩
 have VD : Hid (∀ y z, bookV y z db = .agg #[y, z, .int .i64 bw, .int .i64 bm, .int .i64 bl]) := fun y z => by rw [hbw, hbm, hbl]; rfl
 have BRA := Lib.hid (fun w' (hb : Below w0.heap.size w0 w') => BookR.below (b := db) ⟨_, _, rfl, hp, hqv⟩ hb)
 rw [← hbw, ← hbm, ← hbl] at BRA ⊢
 rcases Nat.lt_or_ge 1048576 l.length with hl2 | hl
 ·have B1 := Lib.hid ((Below.refl w0.heap.size w0).alloc (Nat.le_refl _) (.cells #[pv, qv, .int .i64 bw, .int .i64 bm, .int .i64 bl] 25))
  clear hbw hbm hbl
  go_enter Tryz.func3, Tryz.ntmps3
  go_wp2
  go_ret
  exact ⟨rfl, B1.out⟩
 obtain ⟨r1, hr1⟩ : ∃ r1, r1 = prL db l := ⟨_, rfl⟩
 have SM := prL_small db l
 rw [← hr1] at SM
 obtain ⟨R, hR⟩ : ∃ R, R = r1.1 := ⟨_, rfl⟩
 obtain ⟨an, han⟩ : ∃ an, an = r1.2 := ⟨_, rfl⟩
 rw [← hR] at SM
 obtain ⟨sm1, sm2, sm3⟩ := SM
 obtain ⟨rw, hrw⟩ : ∃ y, y = R.w := ⟨_, rfl⟩
 obtain ⟨rm, hrm⟩ : ∃ y, y = R.most := ⟨_, rfl⟩
 obtain ⟨rl, hrl⟩ : ∃ y, y = R.lines := ⟨_, rfl⟩
 have VR : Hid (∀ y z, bookV y z R = .agg #[y, z, .int .i64 rw, .int .i64 rm, .int .i64 rl]) := fun y z => by rw [hrw, hrm, hrl]; rfl
 obtain ⟨RM, hRM⟩ : ∃ RM, RM = ({ R with pars := mkSS 1 R.pars, pats := mkTs (1 + (totT R.pars : Int)) R.pats.length } : DBook) := ⟨_, rfl⟩
 have VM : Hid (∀ y z, bookV y z RM = .agg #[y, z, .int .i64 rw, .int .i64 rm, .int .i64 rl]) := fun y z => by rw [hRM, hrw, hrm, hrl]; rfl
 obtain ⟨M, hM⟩ : ∃ M, M = (1 : Int) + (totT R.pars : Int) + (R.pats.length : Int) := ⟨_, rfl⟩
 have SZ := Lib.hid (fun w' (hb : Below w0.heap.size w0 w') => szBook_any _ db 1048576 w' (BRA.out w' hb) hs hq (by omega) (by omega))
 have TB : Hid (BookSh db ∧ db.pars.length ≤ 1048576 ∧ totT db.pars ≤ 1048576 ∧ db.pats.length ≤ 1048576 → ∀ w', Below w0.heap.size w0 w' → Calls Tryz.prog 9 #[.agg #[pv, qv, .int .i64 bw, .int .i64 bm, .int .i64 bl]] w' fun e w2 => ∃ ya ma da yb mb dd us, e = .returned (.agg #[.slice ya ma da, .slice yb mb dd, .int .i64 bw, .int .i64 bm, .int .i64 bl]) ∧ OwnB w2 w'.heap.size w2.heap.size (.slice ya ma da) (.slice yb mb dd) us db ∧ Below w'.heap.size w' w2) := fun hh w' hb => by
  refine (toBook_any _ db w' (BRA.out w' hb) hh.2.1 hh.2.2.1 hh.2.2.2).mono ?_
  rintro e w2 ⟨pv2, qv2, us2, rfl, ho, hb2⟩
  obtain ⟨ya, ma, da, yb, mb, dd, rfl, rfl⟩ := ho.forms
  exact ⟨ya, ma, da, yb, mb, dd, us2, by rw [VD.out], ho, hb2⟩
 have SP : Hid (BookSh db → ∀ w' base hi y z us, OwnB w' base hi y z us db → Calls Tryz.prog 8 #[.agg #[y, z, .int .i64 bw, .int .i64 bm, .int .i64 bl], .string (bs l)] w' fun e w2 => ∃ ya ma da yb mb dd us2, e = .returned (.tuple #[.agg #[.slice ya ma da, .slice yb mb dd, .int .i64 rw, .int .i64 rm, .int .i64 rl], .string (bs an)]) ∧ OwnB w2 w'.heap.size w2.heap.size (.slice ya ma da) (.slice yb mb dd) us2 R ∧ Below w'.heap.size w' w2) := fun hh w' base hi y z us ho => by
  have hrd := ho.read
  have hnc : BookN (bookV y z db) := NC.ownB ho
  have := specP_any db hh _ w' hrd hnc l (by omega)
  rw [VD.out, ← hr1] at this
  refine this.mono ?_
  rintro e w2 ⟨pv2, qv2, us2, rfl, ho2, hb2⟩
  obtain ⟨ya, ma, da, yb, mb, dd, rfl, rfl⟩ := ho2.forms
  rw [← hR] at ho2 ⊢
  exact ⟨ya, ma, da, yb, mb, dd, us2, by rw [VR.out, ← han], ho2, hb2⟩
 have IP : Hid (BookSh db → ∀ w' base hi y z us, OwnB w' base hi y z us db → LnTab w' → Calls Tryz.prog 10 #[.agg #[y, z, .int .i64 bw, .int .i64 bm, .int .i64 bl], .string (bs l)] w' fun e w2 => ∃ ya ma da yb mb dd us2, e = .returned (.tuple #[.agg #[.slice ya ma da, .slice yb mb dd, .int .i64 rw, .int .i64 rm, .int .i64 rl], .string (bs an)]) ∧ OwnB w2 w'.heap.size w2.heap.size (.slice ya ma da) (.slice yb mb dd) us2 R ∧ Below w'.heap.size w' w2) := fun hh w' base hi y z us ho hlt => by
  have hrd := ho.read
  have hnc : BookN (bookV y z db) := NC.ownB ho
  have := implP_any db hh _ w' hrd hnc l (by omega) hlt
  rw [VD.out, ← hr1] at this
  refine this.mono ?_
  rintro e w2 ⟨pv2, qv2, us2, rfl, ho2, hb2⟩
  obtain ⟨ya, ma, da, yb, mb, dd, rfl, rfl⟩ := ho2.forms
  rw [← hR] at ho2 ⊢
  exact ⟨ya, ma, da, yb, mb, dd, us2, by rw [VR.out, ← han], ho2, hb2⟩
 have EQR : Hid (∀ w' b1 h1 y1 z1 u1 b2 h2 y2 z2 u2, OwnB w' b1 h1 y1 z1 u1 R → OwnB w' b2 h2 y2 z2 u2 R → Calls Tryz.prog 11 #[.agg #[y1, z1, .int .i64 rw, .int .i64 rm, .int .i64 rl], .agg #[y2, z2, .int .i64 rw, .int .i64 rm, .int .i64 rl]] w' (Ret (.bool true) w')) := fun w' b1 h1 y1 z1 u1 b2 h2 y2 z2 u2 o1 o2 => by
  have := eqBook_any _ _ R w' o1.read o2.read
  rwa [VR.out, VR.out] at this
 have EQD : Hid (∀ w' b1 h1 y1 z1 u1 b2 h2 y2 z2 u2, OwnB w' b1 h1 y1 z1 u1 db → OwnB w' b2 h2 y2 z2 u2 db → Calls Tryz.prog 11 #[.agg #[y1, z1, .int .i64 bw, .int .i64 bm, .int .i64 bl], .agg #[y2, z2, .int .i64 bw, .int .i64 bm, .int .i64 bl]] w' (Ret (.bool true) w')) := fun w' b1 h1 y1 z1 u1 b2 h2 y2 z2 u2 o1 o2 => by
  have := eqBook_any _ _ db w' o1.read o2.read
  rwa [VD.out, VD.out] at this
 have MKD : Hid (BookSh db ∧ db.pars.length ≤ 1048576 ∧ totT db.pars ≤ 1048576 ∧ db.pats.length ≤ 1048576 → ∀ w' base hi y z us, OwnB w' base hi y z us db → hi ≤ w'.heap.size → Calls Tryz.prog 12 #[.agg #[y, z, .int .i64 bw, .int .i64 bm, .int .i64 bl], .int .i64 1] w' fun e w2 => ∃ n : Int, e = .returned (.int .i64 n) ∧ 0 ≤ n ∧ OnlyU (z :: us) w' w2) := fun hh w' base hi y z us ho hhi => by
  have := markBook_any y z us db 1 base hi w' ho hhi (by omega) (by omega) (by omega) (by omega)
  rw [VD.out] at this
  refine this.mono ?_
  rintro e w2 ⟨rfl, _, hu⟩
  exact ⟨_, rfl, by omega, hu⟩
 have MKR : Hid (∀ w' base hi y z us, OwnB w' base hi y z us R → hi ≤ w'.heap.size → Calls Tryz.prog 12 #[.agg #[y, z, .int .i64 rw, .int .i64 rm, .int .i64 rl], .int .i64 1] w' fun e w2 => e = .returned (.int .i64 M) ∧ OwnB w2 base hi y z us RM ∧ OnlyU (z :: us) w' w2) := fun w' base hi y z us ho hhi => by
  have := markBook_any y z us R 1 base hi w' ho hhi (by omega) (by omega) (by omega) (by omega)
  rw [VR.out, ← hM, ← hRM] at this
  exact this
 have HDR : Hid (∀ w' base hi y z us, OwnB w' base hi y z us RM → Calls Tryz.prog 13 #[.agg #[y, z, .int .i64 rw, .int .i64 rm, .int .i64 rl], .int .i64 1] w' (Ret (.int .i64 M) w')) := fun w' base hi y z us ho => by
  have h1 := ho.read
  rw [VM.out, hRM] at h1
  have := heldBook_any _ R 1 w' h1 (by omega) (by omega) (by omega) (by omega)
  rwa [← hM] at this
 have nM : ¬ M < 0 := by omega
 have LTB : Hid (∀ w', Below w0.heap.size w0 w' → LnTab w') := fun w' hb => ht.below hb (Nat.le_refl _)
 clear hp hqv hbw hbm hbl hs hq ht hr1 hR han hrw hrm hrl hRM hM sm1 sm2 sm3
 go_enter Tryz.func3, Tryz.ntmps3
 go_upto_region 4 with fail
 obtain ⟨wa, hwa, ka, ba, za⟩ : ∃ wa, wa = w0.alloc (.cells #[pv, qv, .int .i64 bw, .int .i64 bm, .int .i64 bl] 25) ∧ Hid (wa.ownsRow w0.heap.size 25 5 (.slice (some ⟨w0.heap.size, 0, none⟩) 1 1) 1 [pv, qv, .int .i64 bw, .int .i64 bm, .int .i64 bl]) ∧ Hid (Below w0.heap.size w0 wa) ∧ Hid (wa.heap.size = w0.heap.size + 1) := ⟨_, rfl, own5_made w0 (Nat.le_refl _) _ _ _ _ _ _, (Below.refl _ _).alloc (Nat.le_refl _) _, (by show _ = _; simp)⟩
 rw [← hwa]
 clear hwa
 obtain ⟨c1, c2, c3, c4, c5⟩ := own5 ka.out
 go_upto_region 5 with (go_at_call 7; refine (SZ.out _ ba.out).mono ?_; rintro e w1 ⟨⟨r, rfl, hr⟩, hb1⟩)
 have k6 := Lib.hid (owns_below ka.out hb1)
 have b7 := Lib.hid (below_next ba.out hb1 (Nat.le_refl _))
 have z8 := hb1.size
 clear ka ba
 have HR := Lib.hid hr
 rcases hr with rfl | ⟨hr0, _⟩
 ·clear HR TB SP IP EQR EQD MKD MKR HDR
  go_wp2
  go_ret
  exact ⟨rfl, b7.out⟩
 have n0 : ¬ r < 0 := by omega
 have HH := Lib.hid (sz_sh HR.out hr0 (by omega))
 simp only [show (1048576 : Int).toNat = 1048576 from rfl] at HH
 clear HR SZ c1 c2 c3 c4 c5
 obtain ⟨c9, c10, c11, c12, c13⟩ := own5 k6.out
 go_upto_region 8 with (first | (go_at_call 9; refine (TB.out HH.out _ b7.out).mono ?_; rintro e w2 ⟨ya, ma, da, yb, mb, dd, us0, rfl, oq, hb2⟩) | (go_at_call 8; refine (SP.out HH.out.1 _ _ _ _ _ _ oq).mono ?_; rintro e w3 ⟨a1, m1, d1, a2, m2, d2, usW, rfl, oW, hb3⟩))
 have k14 := Lib.hid (owns_below k6.out hb2)
 have b15 := Lib.hid (below_next b7.out hb2 (Nat.le_refl _))
 have z16 := hb2.size
 clear k6 b7
 have k17 := Lib.hid (owns_below k14.out hb3)
 have b18 := Lib.hid (below_next b15.out hb3 (Nat.le_refl _))
 have z19 := hb3.size
 clear k14 b15
 have oW := Lib.hid oW
 clear oq hb2 hb3 c9 c10 c11 c12 c13
 obtain ⟨w4, g6, e25, g26, k20, k21, o22, b23, z24⟩ : ∃ w4 g6, w4 = w3.alloc (.cells #[.slice a1 m1 d1, .slice a2 m2 d2, .int .i64 rw, .int .i64 rm, .int .i64 rl] BoxT) ∧ Hid (g6 = w3.heap.size) ∧ Hid (w4.ownsRow w0.heap.size 25 5 (.slice (some ⟨w0.heap.size, 0, none⟩) 1 1) 1 [pv, qv, .int .i64 bw, .int .i64 bm, .int .i64 bl]) ∧ Hid (w4.ownsRow w0.heap.size BoxT 5 (.slice (some ⟨g6, 0, none⟩) 1 1) 1 [.slice a1 m1 d1, .slice a2 m2 d2, .int .i64 rw, .int .i64 rm, .int .i64 rl]) ∧ Hid (OwnB w4 w2.heap.size w3.heap.size (.slice a1 m1 d1) (.slice a2 m2 d2) usW R) ∧ Hid (Below w0.heap.size w0 w4) ∧ Hid (w4.heap.size = w3.heap.size + 1) := ⟨_, _, rfl, rfl, World.ownsRow.alloc k17.out _, own5_made w3 b18.out.size BoxT _ _ _ _ _, oW.out.alloc _, b18.out.alloc b18.out.size _, (by show _ = _; simp)⟩
 unfold BoxT at e25
 rw [← e25, ← g26.out]
 clear e25 k17 oW b18
 obtain ⟨c27, c28, c29, c30, c31⟩ := own5 k20.out
 go_upto_region 9 with (go_at_call 9; refine (TB.out HH.out _ b23.out).mono ?_; rintro e w5 ⟨x1, n1, c1, x2, n2, c2, usX, rfl, oX, hb5⟩)
 have k32 := Lib.hid (owns_below k20.out hb5)
 have k33 := Lib.hid (owns_below k21.out hb5)
 have o34 := Lib.hid (o22.out.below hb5)
 have b35 := Lib.hid (below_next b23.out hb5 (Nat.le_refl _))
 have z36 := hb5.size
 clear k20 k21 o22 b23
 have oX := Lib.hid oX
 clear hb5 c27 c28 c29 c30 c31
 obtain ⟨w6, g8, e44, g45, k37, k38, k39, o40, o41, b42, z43⟩ : ∃ w6 g8, w6 = w5.alloc (.cells #[.slice x1 n1 c1, .slice x2 n2 c2, .int .i64 bw, .int .i64 bm, .int .i64 bl] BoxT) ∧ Hid (g8 = w5.heap.size) ∧ Hid (w6.ownsRow w0.heap.size 25 5 (.slice (some ⟨w0.heap.size, 0, none⟩) 1 1) 1 [pv, qv, .int .i64 bw, .int .i64 bm, .int .i64 bl]) ∧ Hid (w6.ownsRow w0.heap.size BoxT 5 (.slice (some ⟨g6, 0, none⟩) 1 1) 1 [.slice a1 m1 d1, .slice a2 m2 d2, .int .i64 rw, .int .i64 rm, .int .i64 rl]) ∧ Hid (w6.ownsRow w0.heap.size BoxT 5 (.slice (some ⟨g8, 0, none⟩) 1 1) 1 [.slice x1 n1 c1, .slice x2 n2 c2, .int .i64 bw, .int .i64 bm, .int .i64 bl]) ∧ Hid (OwnB w6 w2.heap.size w3.heap.size (.slice a1 m1 d1) (.slice a2 m2 d2) usW R) ∧ Hid (OwnB w6 w4.heap.size w5.heap.size (.slice x1 n1 c1) (.slice x2 n2 c2) usX db) ∧ Hid (Below w0.heap.size w0 w6) ∧ Hid (w6.heap.size = w5.heap.size + 1) := ⟨_, _, rfl, rfl, World.ownsRow.alloc k32.out _, World.ownsRow.alloc k33.out _, own5_made w5 b35.out.size BoxT _ _ _ _ _, o34.out.alloc _, oX.out.alloc _, b35.out.alloc b35.out.size _, (by show _ = _; simp)⟩
 unfold BoxT at e44
 rw [← e44, ← g45.out]
 clear e44 k32 k33 o34 oX b35
 obtain ⟨c46, c47, c48, c49, c50⟩ := own5 k39.out
 go_upto_region 10 with (go_at_call 10; refine (IP.out HH.out.1 _ _ _ _ _ _ o41.out (LTB.out _ b42.out)).mono ?_; rintro e w7 ⟨y1, p1, q1, y2, p2, q2, usG, rfl, oG, hb7⟩)
 have k51 := Lib.hid (owns_below k37.out hb7)
 have k52 := Lib.hid (owns_below k38.out hb7)
 have k53 := Lib.hid (owns_below k39.out hb7)
 have o54 := Lib.hid (o40.out.below hb7)
 have o55 := Lib.hid (o41.out.below hb7)
 have b56 := Lib.hid (below_next b42.out hb7 (Nat.le_refl _))
 have z57 := hb7.size
 clear k37 k38 k39 o40 o41 b42
 have oG := Lib.hid oG
 clear hb7 c46 c47 c48 c49 c50
 obtain ⟨w8, g9, e67, g68, k58, k59, k60, k61, o62, o63, o64, b65, z66⟩ : ∃ w8 g9, w8 = w7.alloc (.cells #[.slice y1 p1 q1, .slice y2 p2 q2, .int .i64 rw, .int .i64 rm, .int .i64 rl] BoxT) ∧ Hid (g9 = w7.heap.size) ∧ Hid (w8.ownsRow w0.heap.size 25 5 (.slice (some ⟨w0.heap.size, 0, none⟩) 1 1) 1 [pv, qv, .int .i64 bw, .int .i64 bm, .int .i64 bl]) ∧ Hid (w8.ownsRow w0.heap.size BoxT 5 (.slice (some ⟨g6, 0, none⟩) 1 1) 1 [.slice a1 m1 d1, .slice a2 m2 d2, .int .i64 rw, .int .i64 rm, .int .i64 rl]) ∧ Hid (w8.ownsRow w0.heap.size BoxT 5 (.slice (some ⟨g8, 0, none⟩) 1 1) 1 [.slice x1 n1 c1, .slice x2 n2 c2, .int .i64 bw, .int .i64 bm, .int .i64 bl]) ∧ Hid (w8.ownsRow w0.heap.size BoxT 5 (.slice (some ⟨g9, 0, none⟩) 1 1) 1 [.slice y1 p1 q1, .slice y2 p2 q2, .int .i64 rw, .int .i64 rm, .int .i64 rl]) ∧ Hid (OwnB w8 w2.heap.size w3.heap.size (.slice a1 m1 d1) (.slice a2 m2 d2) usW R) ∧ Hid (OwnB w8 w4.heap.size w5.heap.size (.slice x1 n1 c1) (.slice x2 n2 c2) usX db) ∧ Hid (OwnB w8 w6.heap.size w7.heap.size (.slice y1 p1 q1) (.slice y2 p2 q2) usG R) ∧ Hid (Below w0.heap.size w0 w8) ∧ Hid (w8.heap.size = w7.heap.size + 1) := ⟨_, _, rfl, rfl, World.ownsRow.alloc k51.out _, World.ownsRow.alloc k52.out _, World.ownsRow.alloc k53.out _, own5_made w7 b56.out.size BoxT _ _ _ _ _, o54.out.alloc _, o55.out.alloc _, oG.out.alloc _, b56.out.alloc b56.out.size _, (by show _ = _; simp)⟩
 unfold BoxT at e67
 rw [← e67, ← g68.out]
 clear e67 k51 k52 k53 o54 o55 oG b56
 obtain ⟨c69, c70, c71, c72, c73⟩ := own5 k61.out
 obtain ⟨c74, c75, c76, c77, c78⟩ := own5 k59.out
 go_upto_region 12 with (go_at_call 11; refine (EQR.out _ _ _ _ _ _ _ _ _ _ _ o64.out o62.out).mono ?_; rintro e w9 ⟨rfl, hb9⟩)
 have k79 := Lib.hid (owns_below k58.out hb9)
 have k80 := Lib.hid (owns_below k59.out hb9)
 have k81 := Lib.hid (owns_below k60.out hb9)
 have k82 := Lib.hid (owns_below k61.out hb9)
 have o83 := Lib.hid (o62.out.below hb9)
 have o84 := Lib.hid (o63.out.below hb9)
 have o85 := Lib.hid (o64.out.below hb9)
 have b86 := Lib.hid (below_next b65.out hb9 (Nat.le_refl _))
 have z87 := hb9.size
 clear k58 k59 k60 k61 o62 o63 o64 b65
 clear hb9 c69 c70 c71 c72 c73 c74 c75 c76 c77 c78
 go_upto_region 12 with fail
 have KS : Hid (∀ w', Below w9.heap.size w9 w' → w'.cell? ⟨g8, 0, none⟩ = some (.slice x1 n1 c1) ∧ w'.cell? ⟨g8, 1, none⟩ = some (.slice x2 n2 c2) ∧ w'.cell? ⟨g8, 2, none⟩ = some (.int .i64 bw) ∧ w'.cell? ⟨g8, 3, none⟩ = some (.int .i64 bm) ∧ w'.cell? ⟨g8, 4, none⟩ = some (.int .i64 bl) ∧ w'.cell? ⟨w0.heap.size, 0, none⟩ = some (pv) ∧ w'.cell? ⟨w0.heap.size, 1, none⟩ = some (qv) ∧ w'.cell? ⟨w0.heap.size, 2, none⟩ = some (.int .i64 bw) ∧ w'.cell? ⟨w0.heap.size, 3, none⟩ = some (.int .i64 bm) ∧ w'.cell? ⟨w0.heap.size, 4, none⟩ = some (.int .i64 bl)) := fun w' hb => by
  obtain ⟨u1, u2, u3, u4, u5⟩ := own5 (owns_below k81.out hb)
  obtain ⟨v1, v2, v3, v4, v5⟩ := own5 (owns_below k79.out hb)
  exact ⟨u1, u2, u3, u4, u5, v1, v2, v3, v4, v5⟩
 have E9 := Lib.hid ((Below.refl w9.heap.size w9).drew)
 have kk := KS.out _ E9.out
 go_region_held3 (fun w' => w'.cell? ⟨g8, 0, none⟩ = some (.slice x1 n1 c1) ∧ w'.cell? ⟨g8, 1, none⟩ = some (.slice x2 n2 c2) ∧ w'.cell? ⟨g8, 2, none⟩ = some (.int .i64 bw) ∧ w'.cell? ⟨g8, 3, none⟩ = some (.int .i64 bm) ∧ w'.cell? ⟨g8, 4, none⟩ = some (.int .i64 bl) ∧ w'.cell? ⟨w0.heap.size, 0, none⟩ = some (pv) ∧ w'.cell? ⟨w0.heap.size, 1, none⟩ = some (qv) ∧ w'.cell? ⟨w0.heap.size, 2, none⟩ = some (.int .i64 bw) ∧ w'.cell? ⟨w0.heap.size, 3, none⟩ = some (.int .i64 bm) ∧ w'.cell? ⟨w0.heap.size, 4, none⟩ = some (.int .i64 bl)) (first | with_reducible exact kk | with_reducible exact kk5 | with_reducible exact kk6)
  (first
   | (go_at_call 9; refine (TB.out HH.out _ b86.out.drew).mono ?_; rintro e w10 ⟨ya, ma, da, yb, mb, dd, us0, rfl, oq, hbq⟩; have hbA := Lib.hid (below_next E9.out hbq (Nat.le_refl _)); have kk5 := KS.out _ hbA.out)
   | (go_at_call 11; refine (EQD.out _ _ _ _ _ _ _ _ _ _ _ (o84.out.below hbA.out) oq).mono ?_; rintro e w11 ⟨rfl, hbr⟩; have hbB := Lib.hid (below_next hbA.out hbr (Nat.le_refl _)); have kk6 := KS.out _ hbB.out))
 have k88 := Lib.hid (owns_below k79.out hbB.out)
 have k89 := Lib.hid (owns_below k80.out hbB.out)
 have k90 := Lib.hid (owns_below k81.out hbB.out)
 have k91 := Lib.hid (owns_below k82.out hbB.out)
 have o92 := Lib.hid (o83.out.below hbB.out)
 have o93 := Lib.hid (o84.out.below hbB.out)
 have o94 := Lib.hid (o85.out.below hbB.out)
 have b95 := Lib.hid (below_next b86.out hbB.out (Nat.le_refl _))
 have z96 := hbB.out.size
 clear k79 k80 k81 k82 o83 o84 o85 b86
 clear KS E9 kk kk5 kk6 hbA hbB oq hbq hbr
 obtain ⟨c97, c98, c99, c100, c101⟩ := own5 k90.out
 have RX := Lib.hid o93.out.range
 have hX : w5.heap.size ≤ w11.heap.size := by have := za.out; have := z24.out; have := z43.out; have := z66.out; have := g26.out; have := g45.out; have := g68.out; omega
 go_upto_region 16 with (go_at_call 12; refine (MKD.out HH.out _ _ _ _ _ _ o93.out hX).mono ?_; rintro e w12 ⟨n8, rfl, hn8, hu8⟩)
 clear c97 c98 c99 c100 c101
 have k102 := Lib.hid (box_onlyU k88.out hu8 (fun u hu k hk => by have := RX.out u hu k hk; have := za.out; have := z24.out; have := z43.out; have := z66.out; have := g26.out; have := g45.out; have := g68.out; omega))
 have k103 := Lib.hid (box_onlyU k89.out hu8 (fun u hu k hk => by have := RX.out u hu k hk; have := za.out; have := z24.out; have := z43.out; have := z66.out; have := g26.out; have := g45.out; have := g68.out; omega))
 have k104 := Lib.hid (box_onlyU k90.out hu8 (fun u hu k hk => by have := RX.out u hu k hk; have := za.out; have := z24.out; have := z43.out; have := z66.out; have := g26.out; have := g45.out; have := g68.out; omega))
 have k105 := Lib.hid (box_onlyU k91.out hu8 (fun u hu k hk => by have := RX.out u hu k hk; have := za.out; have := z24.out; have := z43.out; have := z66.out; have := g26.out; have := g45.out; have := g68.out; omega))
 have o106 := Lib.hid (o92.out.onlyU hu8 (fun u hu k hk => by have := RX.out u hu k hk; have := za.out; have := z24.out; have := z43.out; have := z66.out; have := g26.out; have := g45.out; have := g68.out; omega))
 have o107 := Lib.hid (o94.out.onlyU hu8 (fun u hu k hk => by have := RX.out u hu k hk; have := za.out; have := z24.out; have := z43.out; have := z66.out; have := g26.out; have := g45.out; have := g68.out; omega))
 have b108 := Lib.hid (b95.out.trans (hu8.below (lo := w0.heap.size) b95.out.size (fun u hu k hk => by have := RX.out u hu k hk; have := za.out; have := z24.out; have := z43.out; have := z66.out; have := g26.out; have := g45.out; have := g68.out; omega)))
 have z109 := hu8.size
 clear k88 k89 k90 k91 o92 o94 b95
 clear o93 RX hX hu8
 have n8n : ¬ n8 < 0 := by omega
 obtain ⟨c110, c111, c112, c113, c114⟩ := own5 k105.out
 obtain ⟨c115, c116, c117, c118, c119⟩ := own5 k103.out
 go_upto_region 18 with (go_at_call 11; refine (EQR.out _ _ _ _ _ _ _ _ _ _ _ o107.out o106.out).mono ?_; rintro e w13 ⟨rfl, hb13⟩)
 have k120 := Lib.hid (owns_below k102.out hb13)
 have k121 := Lib.hid (owns_below k103.out hb13)
 have k122 := Lib.hid (owns_below k104.out hb13)
 have k123 := Lib.hid (owns_below k105.out hb13)
 have o124 := Lib.hid (o106.out.below hb13)
 have o125 := Lib.hid (o107.out.below hb13)
 have b126 := Lib.hid (below_next b108.out hb13 (Nat.le_refl _))
 have z127 := hb13.size
 clear k102 k103 k104 k105 o106 o107 b108
 clear hb13 n8n hn8 c110 c111 c112 c113 c114 c115 c116 c117 c118 c119
 obtain ⟨c128, c129, c130, c131, c132⟩ := own5 k123.out
 have RG := Lib.hid o125.out.range
 have hG : w7.heap.size ≤ w13.heap.size := by have := za.out; have := z24.out; have := z43.out; have := z66.out; have := g26.out; have := g45.out; have := g68.out; omega
 go_upto_region 20 with (go_at_call 12; refine (MKR.out _ _ _ _ _ _ o125.out hG).mono ?_; rintro e w14 ⟨rfl, oGM, hu9⟩)
 clear c128 c129 c130 c131 c132
 have k133 := Lib.hid (box_onlyU k120.out hu9 (fun u hu k hk => by have := RG.out u hu k hk; have := za.out; have := z24.out; have := z43.out; have := z66.out; have := g26.out; have := g45.out; have := g68.out; omega))
 have k134 := Lib.hid (box_onlyU k121.out hu9 (fun u hu k hk => by have := RG.out u hu k hk; have := za.out; have := z24.out; have := z43.out; have := z66.out; have := g26.out; have := g45.out; have := g68.out; omega))
 have k135 := Lib.hid (box_onlyU k122.out hu9 (fun u hu k hk => by have := RG.out u hu k hk; have := za.out; have := z24.out; have := z43.out; have := z66.out; have := g26.out; have := g45.out; have := g68.out; omega))
 have k136 := Lib.hid (box_onlyU k123.out hu9 (fun u hu k hk => by have := RG.out u hu k hk; have := za.out; have := z24.out; have := z43.out; have := z66.out; have := g26.out; have := g45.out; have := g68.out; omega))
 have o137 := Lib.hid (o124.out.onlyU hu9 (fun u hu k hk => by have := RG.out u hu k hk; have := za.out; have := z24.out; have := z43.out; have := z66.out; have := g26.out; have := g45.out; have := g68.out; omega))
 have b138 := Lib.hid (b126.out.trans (hu9.below (lo := w0.heap.size) b126.out.size (fun u hu k hk => by have := RG.out u hu k hk; have := za.out; have := z24.out; have := z43.out; have := z66.out; have := g26.out; have := g45.out; have := g68.out; omega)))
 have z139 := hu9.size
 clear k120 k121 k122 k123 o124 b126
 have oGM := Lib.hid oGM
 clear o125 RG hG hu9
 obtain ⟨c140, c141, c142, c143, c144⟩ := own5 k136.out
 go_upto_region 22 with (go_at_call 13; refine (HDR.out _ _ _ _ _ _ oGM.out).mono ?_; rintro e w15 ⟨rfl, hb15⟩)
 have k145 := Lib.hid (owns_below k133.out hb15)
 have k146 := Lib.hid (owns_below k134.out hb15)
 have k147 := Lib.hid (owns_below k135.out hb15)
 have k148 := Lib.hid (owns_below k136.out hb15)
 have o149 := Lib.hid (o137.out.below hb15)
 have o150 := Lib.hid (oGM.out.below hb15)
 have b151 := Lib.hid (below_next b138.out hb15 (Nat.le_refl _))
 have z152 := hb15.size
 clear k133 k134 k135 k136 o137 oGM b138
 clear hb15 c140 c141 c142 c143 c144
 go_upto_region 26 with fail
 obtain ⟨c153, c154, c155, c156, c157⟩ := own5 k145.out
 go_upto_region 27 with (first | (go_at_call 9; refine (TB.out HH.out _ b151.out).mono ?_; rintro e w16 ⟨ya, ma, da, yb, mb, dd, us0, rfl, oq, hb16⟩; have bq := Lib.hid (below_next b151.out hb16 (Nat.le_refl _))) | (go_at_call 10; refine (IP.out HH.out.1 _ _ _ _ _ _ oq (LTB.out _ bq.out)).mono ?_; rintro e w17 ⟨a3, m3, d3, a4, m4, d4, usH, rfl, oH, hb17⟩))
 have k158 := Lib.hid (owns_below k145.out hb16)
 have k159 := Lib.hid (owns_below k146.out hb16)
 have k160 := Lib.hid (owns_below k147.out hb16)
 have k161 := Lib.hid (owns_below k148.out hb16)
 have o162 := Lib.hid (o149.out.below hb16)
 have o163 := Lib.hid (o150.out.below hb16)
 have b164 := Lib.hid (below_next b151.out hb16 (Nat.le_refl _))
 have z165 := hb16.size
 clear k145 k146 k147 k148 o149 o150 b151
 have k166 := Lib.hid (owns_below k158.out hb17)
 have k167 := Lib.hid (owns_below k159.out hb17)
 have k168 := Lib.hid (owns_below k160.out hb17)
 have k169 := Lib.hid (owns_below k161.out hb17)
 have o170 := Lib.hid (o162.out.below hb17)
 have o171 := Lib.hid (o163.out.below hb17)
 have b172 := Lib.hid (below_next b164.out hb17 (Nat.le_refl _))
 have z173 := hb17.size
 clear k158 k159 k160 k161 o162 o163 b164
 have oH := Lib.hid oH
 clear oq hb16 hb17 bq c153 c154 c155 c156 c157
 obtain ⟨w18, g14, e184, g185, k174, k175, k176, k177, k178, o179, o180, o181, b182, z183⟩ : ∃ w18 g14, w18 = w17.alloc (.cells #[.slice a3 m3 d3, .slice a4 m4 d4, .int .i64 rw, .int .i64 rm, .int .i64 rl] BoxT) ∧ Hid (g14 = w17.heap.size) ∧ Hid (w18.ownsRow w0.heap.size 25 5 (.slice (some ⟨w0.heap.size, 0, none⟩) 1 1) 1 [pv, qv, .int .i64 bw, .int .i64 bm, .int .i64 bl]) ∧ Hid (w18.ownsRow w0.heap.size BoxT 5 (.slice (some ⟨g6, 0, none⟩) 1 1) 1 [.slice a1 m1 d1, .slice a2 m2 d2, .int .i64 rw, .int .i64 rm, .int .i64 rl]) ∧ Hid (w18.ownsRow w0.heap.size BoxT 5 (.slice (some ⟨g8, 0, none⟩) 1 1) 1 [.slice x1 n1 c1, .slice x2 n2 c2, .int .i64 bw, .int .i64 bm, .int .i64 bl]) ∧ Hid (w18.ownsRow w0.heap.size BoxT 5 (.slice (some ⟨g9, 0, none⟩) 1 1) 1 [.slice y1 p1 q1, .slice y2 p2 q2, .int .i64 rw, .int .i64 rm, .int .i64 rl]) ∧ Hid (w18.ownsRow w0.heap.size BoxT 5 (.slice (some ⟨g14, 0, none⟩) 1 1) 1 [.slice a3 m3 d3, .slice a4 m4 d4, .int .i64 rw, .int .i64 rm, .int .i64 rl]) ∧ Hid (OwnB w18 w2.heap.size w3.heap.size (.slice a1 m1 d1) (.slice a2 m2 d2) usW R) ∧ Hid (OwnB w18 w6.heap.size w7.heap.size (.slice y1 p1 q1) (.slice y2 p2 q2) usG RM) ∧ Hid (OwnB w18 w16.heap.size w17.heap.size (.slice a3 m3 d3) (.slice a4 m4 d4) usH R) ∧ Hid (Below w0.heap.size w0 w18) ∧ Hid (w18.heap.size = w17.heap.size + 1) := ⟨_, _, rfl, rfl, World.ownsRow.alloc k166.out _, World.ownsRow.alloc k167.out _, World.ownsRow.alloc k168.out _, World.ownsRow.alloc k169.out _, own5_made w17 b172.out.size BoxT _ _ _ _ _, o170.out.alloc _, o171.out.alloc _, oH.out.alloc _, b172.out.alloc b172.out.size _, (by show _ = _; simp)⟩
 unfold BoxT at e184
 rw [← e184, ← g185.out]
 clear e184 k166 k167 k168 k169 o170 o171 oH b172
 obtain ⟨c186, c187, c188, c189, c190⟩ := own5 k178.out
 obtain ⟨c191, c192, c193, c194, c195⟩ := own5 k175.out
 go_upto_region 29 with (go_at_call 11; refine (EQR.out _ _ _ _ _ _ _ _ _ _ _ o181.out o179.out).mono ?_; rintro e w19 ⟨rfl, hb19⟩)
 have k196 := Lib.hid (owns_below k174.out hb19)
 have k197 := Lib.hid (owns_below k175.out hb19)
 have k198 := Lib.hid (owns_below k176.out hb19)
 have k199 := Lib.hid (owns_below k177.out hb19)
 have k200 := Lib.hid (owns_below k178.out hb19)
 have o201 := Lib.hid (o179.out.below hb19)
 have o202 := Lib.hid (o180.out.below hb19)
 have o203 := Lib.hid (o181.out.below hb19)
 have b204 := Lib.hid (below_next b182.out hb19 (Nat.le_refl _))
 have z205 := hb19.size
 clear k174 k175 k176 k177 k178 o179 o180 o181 b182
 clear hb19 c186 c187 c188 c189 c190 c191 c192 c193 c194 c195
 obtain ⟨c206, c207, c208, c209, c210⟩ := own5 k199.out
 go_wp2_with (go_at_call 13; refine (HDR.out _ _ _ _ _ _ o202.out).mono ?_; rintro e w20 ⟨rfl, hb20⟩)
 go_ret
 exact ⟨rfl, below_next b204.out hb20 (Nat.le_refl _)⟩
end Go.Proofs.YtofnchdijanikaaGreatDoor

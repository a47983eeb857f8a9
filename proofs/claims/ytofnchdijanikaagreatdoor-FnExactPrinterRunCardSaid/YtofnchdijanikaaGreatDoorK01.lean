/-
  PROVED HERE: what the printer's lines need, part K01. Conditions: each theorem's own.
-/
import Derived.Test.YtofnchdijanikaaGreatDoorH02
import Derived.Test.YtofnchdijanikaaGreatDoorR01
import Derived.Test.YtofnchdijanikaaGreatDoorV01
set_option linter.unusedVariables false
set_option linter.unusedSimpArgs false
set_option maxRecDepth 100000
namespace Go.Proofs.YtofnchdijanikaaGreatDoor
open Go.RowKit
theorem prR_small (b : DBook) (ls : List (List UInt8)) : totT (prR b ls).1.pars ≤ 1000 ∧ (prR b ls).1.pats.length ≤ 1000 ∧ (prR b ls).1.pars.length ≤ 1000 ∧ (prR b ls).2.length ≤ 30 := by
 unfold prR
 split
 ·rename_i hv
  obtain ⟨h1, h2, h3⟩ := small_ok (prRun_ok ls b hv.1)
  exact ⟨h1, h2, h3, by rw [prRun_len]; exact hv.2⟩
 ·exact ⟨by decide, by decide, by decide, by decide⟩
set_option maxHeartbeats 64000000 in
theorem fnExactPrinterRun_walk (w0 : World) (v : Value) (db : DBook) (h : BookR w0 v db) (hs : ∀ x ∈ db.pars, ShM x) (hq : ShM db.pats) (lv : Value) (al : List (List UInt8)) (hl : TxtS w0 lv al) (hla : ShM al) (ht : LnTab w0) : Calls Tryz.prog 5 #[v, lv] w0 (Ret (.bool true) w0) := by
 obtain ⟨pv, qv, rfl, hp, hqv⟩ := h
 have BRA := hQ (fun w' (hb : Below w0.heap.size w0 w') => BookR.below (b := db) ⟨_, _, rfl, hp, hqv⟩ hb)
 have TXA := hQ (fun w' (hb : Below w0.heap.size w0 w') => (hl.below hb : TxtS w' lv al))
 obtain ⟨r1, hr1⟩ : ∃ r1, r1 = prR db al := ⟨_, rfl⟩
 have SM := prR_small db al
 rw [← hr1] at SM
 obtain ⟨R, A⟩ := r1
 obtain ⟨sm1, sm2, sm3, sm4⟩ := SM
 have sm1 : totT R.pars ≤ 1000 := sm1
 have sm2 : R.pats.length ≤ 1000 := sm2
 have sm3 : R.pars.length ≤ 1000 := sm3
 have sm4 : A.length ≤ 30 := sm4
 obtain ⟨RM, hRM⟩ : ∃ RM, RM = ({ R with pars := mkSS 1 R.pars, pats := mkTs (1 + (totT R.pars : Int)) R.pats.length } : DBook) := ⟨_, rfl⟩
 have VM : Hid (∀ y z, bookV y z RM = .agg #[y, z, .int .i64 R.w, .int .i64 R.most, .int .i64 R.lines]) := fun y z => by rw [hRM]; rfl
 obtain ⟨M, hM⟩ : ∃ M, M = (1 : Int) + (totT R.pars : Int) + (R.pats.length : Int) := ⟨_, rfl⟩
 obtain ⟨M2, hM2⟩ : ∃ M2, M2 = M + (A.length : Int) := ⟨_, rfl⟩
 have SZ := hQ (fun w' (hb : Below w0.heap.size w0 w') => szBook_any _ db 1048576 w' (BRA.out w' hb) hs hq (by omega) (by omega))
 have SZT := hQ (fun w' (hb : Below w0.heap.size w0 w') (r : Int) (h0 : 0 ≤ r) (h1 : r ≤ 1048576) => szT_any lv al r w' (TXA.out w' hb) hla h0 (by omega))
 have TB : Hid (BookSh db ∧ db.pars.length ≤ 1048576 ∧ totT db.pars ≤ 1048576 ∧ db.pats.length ≤ 1048576 → ∀ w', Below w0.heap.size w0 w' → Calls Tryz.prog 9 #[.agg #[pv, qv, .int .i64 db.w, .int .i64 db.most, .int .i64 db.lines]] w' fun e w2 => ∃ ya ma da yb mb dd us, e = .returned (.agg #[.slice ya ma da, .slice yb mb dd, .int .i64 db.w, .int .i64 db.most, .int .i64 db.lines]) ∧ OwnB w2 w'.heap.size w2.heap.size (.slice ya ma da) (.slice yb mb dd) us db ∧ Below w'.heap.size w' w2) := fun hh w' hb => by
  refine (toBook_any _ db w' (BRA.out w' hb) hh.2.1 hh.2.2.1 hh.2.2.2).mono ?_
  rintro e w2 ⟨pv2, qv2, us2, rfl, ho, hb2⟩
  obtain ⟨ya, ma, da, yb, mb, dd, rfl, rfl⟩ := ho.forms
  exact ⟨ya, ma, da, yb, mb, dd, us2, rfl, ho, hb2⟩
 have TS : Hid (al.length ≤ 1048576 → ∀ w', Below w0.heap.size w0 w' → Calls Tryz.prog 22 #[lv] w' fun e w2 => ∃ z n c, e = .returned (.slice z n c) ∧ OwnT w2 w'.heap.size (.slice z n c) al ∧ Below w'.heap.size w' w2) := fun hh w' hb => toT_any lv al w' (TXA.out w' hb) hh
 have SP : Hid (BookSh db ∧ (∀ x ∈ al, x.length ≤ 3000000) → ∀ w' base hi y z us bs2 lz ln lc, OwnB w' base hi y z us db → OwnT w' bs2 (.slice lz ln lc) al → Calls Tryz.prog 16 #[.agg #[y, z, .int .i64 db.w, .int .i64 db.most, .int .i64 db.lines], .slice lz ln lc] w' fun e w2 => ∃ ya ma da yb mb dd us2 az an ac lo9 hi9, e = .returned (.tuple #[.agg #[.slice ya ma da, .slice yb mb dd, .int .i64 R.w, .int .i64 R.most, .int .i64 R.lines], .slice az an ac]) ∧ OwnB w2 lo9 hi9 (.slice ya ma da) (.slice yb mb dd) us2 R ∧ OwnT w2 w'.heap.size (.slice az an ac) A ∧ w'.heap.size ≤ lo9 ∧ hi9 ≤ w2.heap.size ∧ (∀ k, (Value.slice az an ac).ownBlock = some k → k < lo9 ∨ hi9 ≤ k) ∧ Below w'.heap.size w' w2) := fun hh w' base hi y z us bs2 lz ln lc ho hot => by
  refine Calls.mono (specPR db hh.1 al hh.2 _ w' ho.read (NC.ownB ho) _ hot.row) ?_
  rintro e w2 ⟨pv2, qv2, us2, av, lo, hi, rfl, ho2, hlo, hhi, hta, hap, hb2⟩
  rw [← hr1] at ho2 hta
  obtain ⟨ya, ma, da, yb, mb, dd, rfl, rfl⟩ := ho2.forms
  obtain ⟨az, ac, rfl⟩ := own_form hta
  exact ⟨ya, ma, da, yb, mb, dd, us2, az, _, ac, lo, hi, by rw [← hr1]; rfl, ho2, hta, hlo, hhi, hap, hb2⟩
 have IP : Hid (BookSh db ∧ (∀ x ∈ al, x.length ≤ 3000000) → ∀ w' base hi y z us bs2 lz ln lc, OwnB w' base hi y z us db → OwnT w' bs2 (.slice lz ln lc) al → LnTab w' → Calls Tryz.prog 15 #[.agg #[y, z, .int .i64 db.w, .int .i64 db.most, .int .i64 db.lines], .slice lz ln lc] w' fun e w2 => ∃ ya ma da yb mb dd us2 az an ac lo9 hi9, e = .returned (.tuple #[.agg #[.slice ya ma da, .slice yb mb dd, .int .i64 R.w, .int .i64 R.most, .int .i64 R.lines], .slice az an ac]) ∧ OwnB w2 lo9 hi9 (.slice ya ma da) (.slice yb mb dd) us2 R ∧ OwnT w2 w'.heap.size (.slice az an ac) A ∧ w'.heap.size ≤ lo9 ∧ hi9 ≤ w2.heap.size ∧ (∀ k, (Value.slice az an ac).ownBlock = some k → k < lo9 ∨ hi9 ≤ k) ∧ Below w'.heap.size w' w2) := fun hh w' base hi y z us bs2 lz ln lc ho hot htab => by
  refine Calls.mono (implPR db hh.1 al hh.2 _ w' ho.read (NC.ownB ho) _ hot.row htab) ?_
  rintro e w2 ⟨pv2, qv2, us2, av, lo, hi, rfl, ho2, hlo, hhi, hta, hap, hb2⟩
  rw [← hr1] at ho2 hta
  obtain ⟨ya, ma, da, yb, mb, dd, rfl, rfl⟩ := ho2.forms
  obtain ⟨az, ac, rfl⟩ := own_form hta
  exact ⟨ya, ma, da, yb, mb, dd, us2, az, _, ac, lo, hi, by rw [← hr1]; rfl, ho2, hta, hlo, hhi, hap, hb2⟩
 have EQR : Hid (∀ w' b1 h1 y1 z1 u1 b2 h2 y2 z2 u2, OwnB w' b1 h1 y1 z1 u1 R → OwnB w' b2 h2 y2 z2 u2 R → Calls Tryz.prog 11 #[.agg #[y1, z1, .int .i64 R.w, .int .i64 R.most, .int .i64 R.lines], .agg #[y2, z2, .int .i64 R.w, .int .i64 R.most, .int .i64 R.lines]] w' (Ret (.bool true) w')) := fun w' b1 h1 y1 z1 u1 b2 h2 y2 z2 u2 o1 o2 => eqBook_any _ _ R w' o1.read o2.read
 have EQD : Hid (∀ w' b1 h1 y1 z1 u1 b2 h2 y2 z2 u2, OwnB w' b1 h1 y1 z1 u1 db → OwnB w' b2 h2 y2 z2 u2 db → Calls Tryz.prog 11 #[.agg #[y1, z1, .int .i64 db.w, .int .i64 db.most, .int .i64 db.lines], .agg #[y2, z2, .int .i64 db.w, .int .i64 db.most, .int .i64 db.lines]] w' (Ret (.bool true) w')) := fun w' b1 h1 y1 z1 u1 b2 h2 y2 z2 u2 o1 o2 => eqBook_any _ _ db w' o1.read o2.read
 have EQT : Hid (∀ w' b1 v1 b2 v2 xs, OwnT w' b1 v1 xs → OwnT w' b2 v2 xs → Calls Tryz.prog 23 #[v1, v2] w' (Ret (.bool true) w')) := fun w' b1 v1 b2 v2 xs o1 o2 => eqT_any v1 v2 xs w' o1.row o2.row
 have MKD : Hid (BookSh db ∧ db.pars.length ≤ 1048576 ∧ totT db.pars ≤ 1048576 ∧ db.pats.length ≤ 1048576 → ∀ w' base hi y z us, OwnB w' base hi y z us db → hi ≤ w'.heap.size → Calls Tryz.prog 12 #[.agg #[y, z, .int .i64 db.w, .int .i64 db.most, .int .i64 db.lines], .int .i64 1] w' fun e w2 => ∃ n : Int, e = .returned (.int .i64 n) ∧ 1 ≤ n ∧ n ≤ 10000000 ∧ OnlyU (z :: us) w' w2) := fun hh w' base hi y z us ho hhi => by
  refine (markBook_any y z us db 1 base hi w' ho hhi (by omega) (by omega) (by omega) (by omega)).mono ?_
  rintro e w2 ⟨rfl, _, hu⟩
  exact ⟨_, rfl, by omega, by omega, hu⟩
 have MKL : Hid (al.length ≤ 1048576 → ∀ w' base v k, OwnT w' base v al → 1 ≤ k → k ≤ 10000000 → Calls Tryz.prog 24 #[v, .int .i64 k] w' fun e w2 => ∃ n : Int, e = .returned (.int .i64 n) ∧ 0 ≤ n ∧ w'.grownBy w2 v.ownBlock) := fun hh w' base v k ho h1 h2 => by
  refine (markT_any v al k base w' ho h1 (by omega) (by omega)).mono ?_
  rintro e w2 ⟨rfl, _, hu⟩
  exact ⟨_, rfl, by omega, hu⟩
 have MKR : Hid (∀ w' base hi y z us, OwnB w' base hi y z us R → hi ≤ w'.heap.size → Calls Tryz.prog 12 #[.agg #[y, z, .int .i64 R.w, .int .i64 R.most, .int .i64 R.lines], .int .i64 1] w' fun e w2 => e = .returned (.int .i64 M) ∧ OwnB w2 base hi y z us RM ∧ OnlyU (z :: us) w' w2) := fun w' base hi y z us ho hhi => by
  have := markBook_any y z us R 1 base hi w' ho hhi (by omega) (by omega) (by omega) (by omega)
  rw [← hM, ← hRM] at this
  exact this
 have MKA : Hid (∀ w' base v, OwnT w' base v A → Calls Tryz.prog 24 #[v, .int .i64 M] w' fun e w2 => e = .returned (.int .i64 M2) ∧ OwnT w2 base v (mkTs M A.length) ∧ w'.grownBy w2 v.ownBlock) := fun w' base v ho => by
  have := markT_any v A M base w' ho (by omega) (by omega) (by omega)
  rwa [← hM2] at this
 have HDR : Hid (∀ w' base hi y z us, OwnB w' base hi y z us RM → Calls Tryz.prog 13 #[.agg #[y, z, .int .i64 R.w, .int .i64 R.most, .int .i64 R.lines], .int .i64 1] w' (Ret (.int .i64 M) w')) := fun w' base hi y z us ho => by
  have h1 := ho.read
  rw [VM.out, hRM] at h1
  have := heldBook_any _ R 1 w' h1 (by omega) (by omega) (by omega) (by omega)
  rwa [← hM] at this
 have HDA : Hid (∀ w' base v, OwnT w' base v (mkTs M A.length) → Calls Tryz.prog 25 #[v, .int .i64 M] w' (Ret (.int .i64 M2) w')) := fun w' base v ho => by
  have := heldT_any v A.length M w' ho.row (by omega) (by omega) (by omega)
  rwa [← hM2] at this
 have nM : ¬ M < 0 := by omega
 have nM2 : ¬ M2 < 0 := by omega
 have LTB : Hid (∀ w', Below w0.heap.size w0 w' → LnTab w') := fun w' hb => ht.below hb nR
 obtain ⟨AM, hAM⟩ : ∃ AM, AM = mkTs M A.length := ⟨_, rfl⟩
 rw [← hAM] at MKA HDA
 have LVF : ∃ z n c, lv = .slice z n c := by obtain ⟨a, c, e, _⟩ := hl; exact ⟨_, _, _, e⟩
 obtain ⟨lvz, lvn, lvc, rfl⟩ := LVF
 clear hp hqv hs hq ht hr1 hRM hM hM2 hAM sm1 sm2 sm3 sm4 hl hla VM
 go_enter Tryz.func5, Tryz.ntmps5
 go_upto_region 2 with fail
 obtain ⟨wa, hwa, ka, ba, za⟩ : ∃ wa, wa = w0.alloc (.cells #[pv, qv, .int .i64 db.w, .int .i64 db.most, .int .i64 db.lines] 25) ∧ Hid (wa.ownsRow w0.heap.size 25 5 (.slice (some ⟨w0.heap.size, 0, none⟩) 1 1) 1 [pv, qv, .int .i64 db.w, .int .i64 db.most, .int .i64 db.lines]) ∧ Hid (Below w0.heap.size w0 wa) ∧ Hid (wa.heap.size = w0.heap.size + 1) := ⟨_, rfl, own5_made w0 nR _ _ _ _ _ _, (Below.refl _ _).alloc nR _, (by show _ = _; simp)⟩
 rw [← hwa]
 clear hwa
 obtain ⟨c1, c2, c3, c4, c5⟩ := own5 ka.out
 go_upto_region 3 with (go_at_call 7; refine (SZ.out _ ba.out).mono ?_; rintro e w1 ⟨⟨r, rfl, hr⟩, hb1⟩)
 have k6 := hQ (owns_below ka.out hb1)
 have b7 := hQ (below_next ba.out hb1 nR)
 clear ba ka
 have z8 := hQ (hb1.size)
 have HR := hQ hr
 rcases hr with rfl | ⟨hr0, hr1'⟩
 ·clear HR TB TS SP IP EQR EQD EQT MKD MKL MKR MKA HDR HDA
  go_wp2
  go_ret
  exact ⟨rfl, b7.out⟩
 have n0 : ¬ r < 0 := by omega
 have hrm : r ≤ 1048576 := by omega
 have HH := hQ (sz_sh HR.out hr0 (by omega))
 simp only [show (1048576 : Int).toNat = 1048576 from rfl] at HH
 clear HR SZ hr1' hb1 c1 c2 c3 c4 c5
 go_upto_region 6 with (go_at_call 21; refine (SZT.out _ b7.out r hr0 hrm).mono ?_; rintro e w2 ⟨r2, rfl, hr2, rfl⟩)
 rcases hr2 with rfl | ⟨hr20, hr21, hr22⟩
 ·clear HH TB TS SP IP EQR EQD EQT MKD MKL MKR MKA HDR HDA
  go_wp2
  go_ret
  exact ⟨rfl, b7.out⟩
 have n2 : ¬ r2 < 0 := by omega
 have HAL : Hid (al.length ≤ 1048576) := hQ (by omega)
 have HX : Hid (BookSh db ∧ ∀ x ∈ al, x.length ≤ 3000000) := hQ ⟨HH.out.1, fun x hx => by have := hr22 x hx; omega⟩
 clear SZT hr20 hr21 hr22 hr0 hrm n0
 obtain ⟨c9, c10, c11, c12, c13⟩ := own5 k6.out
 go_upto_region 9 with (first
  | (go_at_call 9; refine (TB.out HH.out _ b7.out).mono ?_; rintro e w2 ⟨ya, ma, da, yb, mb, dd, us0, rfl, oq, hb2⟩; have bq := hQ (below_next b7.out hb2 nR))
  | (go_at_call 22; refine (TS.out HAL.out _ bq.out).mono ?_; rintro e w3 ⟨tz, tn, tc, rfl, ot, hb3⟩; have oq2 := hQ (oq.below hb3))
  | (go_at_call 16; refine (SP.out HX.out _ _ _ _ _ _ _ _ _ _ oq2.out ot).mono ?_; rintro e w4 ⟨a1, m1, d1, a2, m2, d2, usW, wz, wn, wc, loW, hiW, rfl, oW, tW, lW1, lW2, apW, hb4⟩))
 have k14 := hQ (owns_below k6.out hb2)
 have b15 := hQ (below_next b7.out hb2 nR)
 clear b7 k6
 have z16 := hQ (hb2.size)
 have k17 := hQ (owns_below k14.out hb3)
 have b18 := hQ (below_next b15.out hb3 nR)
 clear b15 k14
 have z19 := hQ (hb3.size)
 have k20 := hQ (owns_below k17.out hb4)
 have b21 := hQ (below_next b18.out hb4 nR)
 clear b18 k17
 have z22 := hQ (hb4.size)
 have oW := hQ oW
 have RW := hQ (fun k hk => (World.ownsRow.lt tW k hk))
 have tW := hQ tW
 have qW1 := hQ lW1
 have qW2 := hQ lW2
 clear ot oq oq2 bq hb2 hb3 hb4 apW lW1 lW2 c9 c10 c11 c12 c13
 obtain ⟨w5, g6, e29, g30, k23, k24, o25, t26, b27, z28⟩ : ∃ w5 g6, w5 = w4.alloc (.cells #[.slice a1 m1 d1, .slice a2 m2 d2, .int .i64 R.w, .int .i64 R.most, .int .i64 R.lines] 27) ∧ Hid (g6 = w4.heap.size) ∧ Hid (w5.ownsRow w0.heap.size 25 5 (.slice (some ⟨w0.heap.size, 0, none⟩) 1 1) 1 [pv, qv, .int .i64 db.w, .int .i64 db.most, .int .i64 db.lines]) ∧ Hid (w5.ownsRow w0.heap.size 27 5 (.slice (some ⟨g6, 0, none⟩) 1 1) 1 [.slice a1 m1 d1, .slice a2 m2 d2, .int .i64 R.w, .int .i64 R.most, .int .i64 R.lines]) ∧ Hid (OwnB w5 loW hiW (.slice a1 m1 d1) (.slice a2 m2 d2) usW R) ∧ Hid (OwnT w5 w3.heap.size (.slice wz wn wc) A) ∧ Hid (Below w0.heap.size w0 w5) ∧ Hid (w5.heap.size = w4.heap.size + 1) := ⟨_, _, rfl, rfl, World.ownsRow.alloc k20.out _, own5_made w4 b21.out.size 27 _ _ _ _ _, oW.out.alloc _, World.ownsRow.alloc tW.out _, b21.out.alloc b21.out.size _, (by show _ = _; simp)⟩
 rw [← e29, ← g30.out]
 clear e29 k20 oW tW b21
 obtain ⟨c31, c32, c33, c34, c35⟩ := own5 k23.out
 go_upto_region 10 with (go_at_call 9; refine (TB.out HH.out _ b27.out).mono ?_; rintro e w6 ⟨x1, n1, c1, x2, n2', c2, usX, rfl, oX, hb6⟩)
 have k36 := hQ (owns_below k23.out hb6)
 have k37 := hQ (owns_below k24.out hb6)
 have o38 := hQ (o25.out.below hb6)
 have t39 : Hid (OwnT w6 w3.heap.size (.slice wz wn wc) A) := owns_below t26.out hb6
 have b40 := hQ (below_next b27.out hb6 nR)
 clear b27 k23 k24 o25 t26
 have z41 := hQ (hb6.size)
 have oX := hQ oX
 clear hb6 c31 c32 c33 c34 c35
 obtain ⟨w7, g8, e50, g51, k42, k43, k44, o45, o46, t47, b48, z49⟩ : ∃ w7 g8, w7 = w6.alloc (.cells #[.slice x1 n1 c1, .slice x2 n2' c2, .int .i64 db.w, .int .i64 db.most, .int .i64 db.lines] 27) ∧ Hid (g8 = w6.heap.size) ∧ Hid (w7.ownsRow w0.heap.size 25 5 (.slice (some ⟨w0.heap.size, 0, none⟩) 1 1) 1 [pv, qv, .int .i64 db.w, .int .i64 db.most, .int .i64 db.lines]) ∧ Hid (w7.ownsRow w0.heap.size 27 5 (.slice (some ⟨g6, 0, none⟩) 1 1) 1 [.slice a1 m1 d1, .slice a2 m2 d2, .int .i64 R.w, .int .i64 R.most, .int .i64 R.lines]) ∧ Hid (w7.ownsRow w0.heap.size 27 5 (.slice (some ⟨g8, 0, none⟩) 1 1) 1 [.slice x1 n1 c1, .slice x2 n2' c2, .int .i64 db.w, .int .i64 db.most, .int .i64 db.lines]) ∧ Hid (OwnB w7 loW hiW (.slice a1 m1 d1) (.slice a2 m2 d2) usW R) ∧ Hid (OwnB w7 w5.heap.size w6.heap.size (.slice x1 n1 c1) (.slice x2 n2' c2) usX db) ∧ Hid (OwnT w7 w3.heap.size (.slice wz wn wc) A) ∧ Hid (Below w0.heap.size w0 w7) ∧ Hid (w7.heap.size = w6.heap.size + 1) := ⟨_, _, rfl, rfl, World.ownsRow.alloc k36.out _, World.ownsRow.alloc k37.out _, own5_made w6 b40.out.size 27 _ _ _ _ _, o38.out.alloc _, oX.out.alloc _, World.ownsRow.alloc t39.out _, b40.out.alloc b40.out.size _, (by show _ = _; simp)⟩
 rw [← e50, ← g51.out]
 clear e50 k36 k37 o38 oX t39 b40
 go_upto_region 11 with (go_at_call 22; refine (TS.out HAL.out _ b48.out).mono ?_; rintro e w8 ⟨xz, xn, xc, rfl, tX, hb8⟩)
 have k52 := hQ (owns_below k42.out hb8)
 have k53 := hQ (owns_below k43.out hb8)
 have k54 := hQ (owns_below k44.out hb8)
 have o55 := hQ (o45.out.below hb8)
 have o56 := hQ (o46.out.below hb8)
 have t57 : Hid (OwnT w8 w3.heap.size (.slice wz wn wc) A) := owns_below t47.out hb8
 have b58 := hQ (below_next b48.out hb8 nR)
 clear b48 k42 k43 k44 o45 o46 t47
 have z59 := hQ (hb8.size)
 have RXT := hQ (fun k hk => (World.ownsRow.lt tX k hk))
 have tX := hQ tX
 clear hb8
 obtain ⟨c60, c61, c62, c63, c64⟩ := own5 k54.out
 go_upto_region 12 with (go_at_call 15; refine (IP.out HX.out _ _ _ _ _ _ _ _ _ _ o56.out tX.out (LTB.out _ b58.out)).mono ?_; rintro e w9 ⟨y1, p1, q1, y2, p2, q2, usG, gz, gn, gc, loG, hiG, rfl, oG, tG, lG1, lG2, apG, hb9⟩)
 have k65 := hQ (owns_below k52.out hb9)
 have k66 := hQ (owns_below k53.out hb9)
 have k67 := hQ (owns_below k54.out hb9)
 have o68 := hQ (o55.out.below hb9)
 have o69 := hQ (o56.out.below hb9)
 have t70 : Hid (OwnT w9 w3.heap.size (.slice wz wn wc) A) := owns_below t57.out hb9
 have t71 : Hid (OwnT w9 w7.heap.size (.slice xz xn xc) al) := owns_below tX.out hb9
 have b72 := hQ (below_next b58.out hb9 nR)
 clear b58 k52 k53 k54 o55 o56 t57 tX
 have z73 := hQ (hb9.size)
 have oG := hQ oG
 have RGT := hQ (fun k hk => (World.ownsRow.lt tG k hk))
 have TA := hQ apG
 have tG := hQ tG
 have qG1 := hQ lG1
 have qG2 := hQ lG2
 clear hb9 apG lG1 lG2 c60 c61 c62 c63 c64
 obtain ⟨w10, g10, e86, g87, k74, k75, k76, k77, o78, o79, o80, t81, t82, t83, b84, z85⟩ : ∃ w10 g10, w10 = w9.alloc (.cells #[.slice y1 p1 q1, .slice y2 p2 q2, .int .i64 R.w, .int .i64 R.most, .int .i64 R.lines] 27) ∧ Hid (g10 = w9.heap.size) ∧ Hid (w10.ownsRow w0.heap.size 25 5 (.slice (some ⟨w0.heap.size, 0, none⟩) 1 1) 1 [pv, qv, .int .i64 db.w, .int .i64 db.most, .int .i64 db.lines]) ∧ Hid (w10.ownsRow w0.heap.size 27 5 (.slice (some ⟨g6, 0, none⟩) 1 1) 1 [.slice a1 m1 d1, .slice a2 m2 d2, .int .i64 R.w, .int .i64 R.most, .int .i64 R.lines]) ∧ Hid (w10.ownsRow w0.heap.size 27 5 (.slice (some ⟨g8, 0, none⟩) 1 1) 1 [.slice x1 n1 c1, .slice x2 n2' c2, .int .i64 db.w, .int .i64 db.most, .int .i64 db.lines]) ∧ Hid (w10.ownsRow w0.heap.size 27 5 (.slice (some ⟨g10, 0, none⟩) 1 1) 1 [.slice y1 p1 q1, .slice y2 p2 q2, .int .i64 R.w, .int .i64 R.most, .int .i64 R.lines]) ∧ Hid (OwnB w10 loW hiW (.slice a1 m1 d1) (.slice a2 m2 d2) usW R) ∧ Hid (OwnB w10 w5.heap.size w6.heap.size (.slice x1 n1 c1) (.slice x2 n2' c2) usX db) ∧ Hid (OwnB w10 loG hiG (.slice y1 p1 q1) (.slice y2 p2 q2) usG R) ∧ Hid (OwnT w10 w3.heap.size (.slice wz wn wc) A) ∧ Hid (OwnT w10 w7.heap.size (.slice xz xn xc) al) ∧ Hid (OwnT w10 w8.heap.size (.slice gz gn gc) A) ∧ Hid (Below w0.heap.size w0 w10) ∧ Hid (w10.heap.size = w9.heap.size + 1) := ⟨_, _, rfl, rfl, World.ownsRow.alloc k65.out _, World.ownsRow.alloc k66.out _, World.ownsRow.alloc k67.out _, own5_made w9 b72.out.size 27 _ _ _ _ _, o68.out.alloc _, o69.out.alloc _, oG.out.alloc _, World.ownsRow.alloc t70.out _, World.ownsRow.alloc t71.out _, World.ownsRow.alloc tG.out _, b72.out.alloc b72.out.size _, (by show _ = _; simp)⟩
 rw [← e86, ← g87.out]
 clear e86 k65 k66 k67 o68 o69 oG t70 t71 tG b72
 obtain ⟨c88, c89, c90, c91, c92⟩ := own5 k77.out
 obtain ⟨c93, c94, c95, c96, c97⟩ := own5 k75.out
 go_upto_region 14 with (first
  | (go_at_call 11; refine (EQR.out _ _ _ _ _ _ _ _ _ _ _ o80.out o78.out).mono ?_; rintro e w11 ⟨rfl, hbx⟩; have tq1 := hQ (owns_below t83.out hbx); have tq2 := hQ (owns_below t81.out hbx))
  | (go_at_call 23; refine (EQT.out _ _ _ _ _ _ tq1.out tq2.out).mono ?_; rintro e w12 ⟨rfl, hby⟩))
 have k98 := hQ (owns_below k74.out hbx)
 have k99 := hQ (owns_below k75.out hbx)
 have k100 := hQ (owns_below k76.out hbx)
 have k101 := hQ (owns_below k77.out hbx)
 have o102 := hQ (o78.out.below hbx)
 have o103 := hQ (o79.out.below hbx)
 have o104 := hQ (o80.out.below hbx)
 have t105 : Hid (OwnT w11 w3.heap.size (.slice wz wn wc) A) := owns_below t81.out hbx
 have t106 : Hid (OwnT w11 w7.heap.size (.slice xz xn xc) al) := owns_below t82.out hbx
 have t107 : Hid (OwnT w11 w8.heap.size (.slice gz gn gc) A) := owns_below t83.out hbx
 have b108 := hQ (below_next b84.out hbx nR)
 clear b84 k74 k75 k76 k77 o78 o79 o80 t81 t82 t83
 have z109 := hQ (hbx.size)
 have k110 := hQ (owns_below k98.out hby)
 have k111 := hQ (owns_below k99.out hby)
 have k112 := hQ (owns_below k100.out hby)
 have k113 := hQ (owns_below k101.out hby)
 have o114 := hQ (o102.out.below hby)
 have o115 := hQ (o103.out.below hby)
 have o116 := hQ (o104.out.below hby)
 have t117 : Hid (OwnT w12 w3.heap.size (.slice wz wn wc) A) := owns_below t105.out hby
 have t118 : Hid (OwnT w12 w7.heap.size (.slice xz xn xc) al) := owns_below t106.out hby
 have t119 : Hid (OwnT w12 w8.heap.size (.slice gz gn gc) A) := owns_below t107.out hby
 have b120 := hQ (below_next b108.out hby nR)
 clear b108 k98 k99 k100 k101 o102 o103 o104 t105 t106 t107
 have z121 := hQ (hby.size)
 clear tq1 tq2 hbx hby c88 c89 c90 c91 c92 c93 c94 c95 c96 c97
 have KS : Hid (∀ w', Below w12.heap.size w12 w' → w'.cell? ⟨g8, 0, none⟩ = some (.slice x1 n1 c1) ∧ w'.cell? ⟨g8, 1, none⟩ = some (.slice x2 n2' c2) ∧ w'.cell? ⟨g8, 2, none⟩ = some (.int .i64 db.w) ∧ w'.cell? ⟨g8, 3, none⟩ = some (.int .i64 db.most) ∧ w'.cell? ⟨g8, 4, none⟩ = some (.int .i64 db.lines) ∧ w'.cell? ⟨w0.heap.size, 0, none⟩ = some (pv) ∧ w'.cell? ⟨w0.heap.size, 1, none⟩ = some (qv) ∧ w'.cell? ⟨w0.heap.size, 2, none⟩ = some (.int .i64 db.w) ∧ w'.cell? ⟨w0.heap.size, 3, none⟩ = some (.int .i64 db.most) ∧ w'.cell? ⟨w0.heap.size, 4, none⟩ = some (.int .i64 db.lines)) := fun w' hb => by
  obtain ⟨u1, u2, u3, u4, u5⟩ := own5 (owns_below k112.out hb)
  obtain ⟨v1, v2, v3, v4, v5⟩ := own5 (owns_below k110.out hb)
  exact ⟨u1, u2, u3, u4, u5, v1, v2, v3, v4, v5⟩
 have E9 := hQ ((Below.refl w12.heap.size w12).drew)
 have kk := KS.out _ E9.out
 go_upto_region 14 with fail
 go_region_held3 (fun w' => w'.cell? ⟨g8, 0, none⟩ = some (.slice x1 n1 c1) ∧ w'.cell? ⟨g8, 1, none⟩ = some (.slice x2 n2' c2) ∧ w'.cell? ⟨g8, 2, none⟩ = some (.int .i64 db.w) ∧ w'.cell? ⟨g8, 3, none⟩ = some (.int .i64 db.most) ∧ w'.cell? ⟨g8, 4, none⟩ = some (.int .i64 db.lines) ∧ w'.cell? ⟨w0.heap.size, 0, none⟩ = some (pv) ∧ w'.cell? ⟨w0.heap.size, 1, none⟩ = some (qv) ∧ w'.cell? ⟨w0.heap.size, 2, none⟩ = some (.int .i64 db.w) ∧ w'.cell? ⟨w0.heap.size, 3, none⟩ = some (.int .i64 db.most) ∧ w'.cell? ⟨w0.heap.size, 4, none⟩ = some (.int .i64 db.lines)) (first | with_reducible exact kk | with_reducible exact kk5 | with_reducible exact kk6)
  (first
   | (go_at_call 9; refine (TB.out HH.out _ b120.out.drew).mono ?_; rintro e w13 ⟨ya, ma, da, yb, mb, dd, us0, rfl, oq, hbq⟩; have hbA := hQ (below_next E9.out hbq nR); have kk5 := KS.out _ hbA.out)
   | (go_at_call 11; refine (EQD.out _ _ _ _ _ _ _ _ _ _ _ (o115.out.below hbA.out) oq).mono ?_; rintro e w14 ⟨rfl, hbr⟩; have hbB := hQ (below_next hbA.out hbr nR); have kk6 := KS.out _ hbB.out))
 have k122 := hQ (owns_below k110.out hbB.out)
 have k123 := hQ (owns_below k111.out hbB.out)
 have k124 := hQ (owns_below k112.out hbB.out)
 have k125 := hQ (owns_below k113.out hbB.out)
 have o126 := hQ (o114.out.below hbB.out)
 have o127 := hQ (o115.out.below hbB.out)
 have o128 := hQ (o116.out.below hbB.out)
 have t129 : Hid (OwnT w14 w3.heap.size (.slice wz wn wc) A) := owns_below t117.out hbB.out
 have t130 : Hid (OwnT w14 w7.heap.size (.slice xz xn xc) al) := owns_below t118.out hbB.out
 have t131 : Hid (OwnT w14 w8.heap.size (.slice gz gn gc) A) := owns_below t119.out hbB.out
 have b132 := hQ (below_next b120.out hbB.out nR)
 clear b120 k110 k111 k112 k113 o114 o115 o116 t117 t118 t119
 have z133 := hQ (hbB.out.size)
 clear KS E9 kk kk5 kk6 hbA hbB oq hbq hbr
 go_upto_region 19 with (first
  | (go_at_call 22; refine (TS.out HAL.out _ b132.out).mono ?_; rintro e w15 ⟨tz, tn, tc, rfl, ot, hbx⟩; have tq1 := hQ (owns_below t130.out hbx))
  | (go_at_call 23; refine (EQT.out _ _ _ _ _ _ tq1.out ot).mono ?_; rintro e w16 ⟨rfl, hby⟩))
 have k134 := hQ (owns_below k122.out hbx)
 have k135 := hQ (owns_below k123.out hbx)
 have k136 := hQ (owns_below k124.out hbx)
 have k137 := hQ (owns_below k125.out hbx)
 have o138 := hQ (o126.out.below hbx)
 have o139 := hQ (o127.out.below hbx)
 have o140 := hQ (o128.out.below hbx)
 have t141 : Hid (OwnT w15 w3.heap.size (.slice wz wn wc) A) := owns_below t129.out hbx
 have t142 : Hid (OwnT w15 w7.heap.size (.slice xz xn xc) al) := owns_below t130.out hbx
 have t143 : Hid (OwnT w15 w8.heap.size (.slice gz gn gc) A) := owns_below t131.out hbx
 have b144 := hQ (below_next b132.out hbx nR)
 clear b132 k122 k123 k124 k125 o126 o127 o128 t129 t130 t131
 have z145 := hQ (hbx.size)
 have k146 := hQ (owns_below k134.out hby)
 have k147 := hQ (owns_below k135.out hby)
 have k148 := hQ (owns_below k136.out hby)
 have k149 := hQ (owns_below k137.out hby)
 have o150 := hQ (o138.out.below hby)
 have o151 := hQ (o139.out.below hby)
 have o152 := hQ (o140.out.below hby)
 have t153 : Hid (OwnT w16 w3.heap.size (.slice wz wn wc) A) := owns_below t141.out hby
 have t154 : Hid (OwnT w16 w7.heap.size (.slice xz xn xc) al) := owns_below t142.out hby
 have t155 : Hid (OwnT w16 w8.heap.size (.slice gz gn gc) A) := owns_below t143.out hby
 have b156 := hQ (below_next b144.out hby nR)
 clear b144 k134 k135 k136 k137 o138 o139 o140 t141 t142 t143
 have z157 := hQ (hby.size)
 clear tq1 ot hbx hby
 obtain ⟨c158, c159, c160, c161, c162⟩ := own5 k148.out
 have RX := hQ o151.out.range
 have hX : w6.heap.size ≤ w16.heap.size := by have := za.out; have := z8.out; have := z16.out; have := z19.out; have := z22.out; have := qW1.out; have := qW2.out; have := z28.out; have := g30.out; have := z41.out; have := z49.out; have := g51.out; have := z59.out; have := z73.out; have := qG1.out; have := qG2.out; have := z85.out; have := g87.out; have := z109.out; have := z121.out; have := z133.out; have := z145.out; have := z157.out; omega
 go_upto_region 20 with (go_at_call 12; refine (MKD.out HH.out _ _ _ _ _ _ o151.out hX).mono ?_; rintro e w17 ⟨k8, rfl, hk1, hk2, hu⟩)
 have HU := hQ hu
 clear hu c158 c159 c160 c161 c162
 have q163 := za.out
 have q164 := z8.out
 have q165 := z16.out
 have q166 := z19.out
 have q167 := z22.out
 have q168 := qW1.out
 have q169 := qW2.out
 have q170 := z28.out
 have q171 := g30.out
 have q172 := z41.out
 have q173 := z49.out
 have q174 := g51.out
 have q175 := z59.out
 have q176 := z73.out
 have q177 := qG1.out
 have q178 := qG2.out
 have q179 := z85.out
 have q180 := g87.out
 have q181 := z109.out
 have q182 := z121.out
 have q183 := z133.out
 have q184 := z145.out
 have q185 := z157.out
 have k186 := hQ (box_onlyU k146.out HU.out (fun u hu j hj => by have := RX.out u hu j hj; omega))
 have k187 := hQ (box_onlyU k147.out HU.out (fun u hu j hj => by have := RX.out u hu j hj; omega))
 have k188 := hQ (box_onlyU k148.out HU.out (fun u hu j hj => by have := RX.out u hu j hj; omega))
 have k189 := hQ (box_onlyU k149.out HU.out (fun u hu j hj => by have := RX.out u hu j hj; omega))
 have o190 := hQ (o150.out.onlyU HU.out (fun u hu j hj => by have := RX.out u hu j hj; omega))
 have o191 := hQ (o152.out.onlyU HU.out (fun u hu j hj => by have := RX.out u hu j hj; omega))
 have t192 : Hid (OwnT w17 w3.heap.size (.slice wz wn wc) A) := owns_onlyU t153.out HU.out (fun j hj u hu e => by have h1 := RX.out u hu j e; have h2 := RW.out j hj; omega)
 have t193 : Hid (OwnT w17 w7.heap.size (.slice xz xn xc) al) := owns_onlyU t154.out HU.out (fun j hj u hu e => by have h1 := RX.out u hu j e; have h2 := RXT.out j hj; omega)
 have t194 : Hid (OwnT w17 w8.heap.size (.slice gz gn gc) A) := owns_onlyU t155.out HU.out (fun j hj u hu e => by have h1 := RX.out u hu j e; have h2 := RGT.out j hj; have := TA.out j hj; omega)
 have b195 := hQ (b156.out.trans (HU.out.below (lo := w0.heap.size) b156.out.size (fun u hu j hj => by have := RX.out u hu j hj; omega)))
 clear b156 k146 k147 k148 k149 o150 o152 t153 t154 t155
 clear q163 q164 q165 q166 q167 q168 q169 q170 q171 q172 q173 q174 q175 q176 q177 q178 q179 q180 q181 q182 q183 q184 q185
 have z196 := hQ (HU.out.size)
 clear o151 RX hX HU
 go_upto_region 21 with (go_at_call 24; refine (MKL.out HAL.out _ _ _ _ t193.out hk1 hk2).mono ?_; rintro e w18 ⟨k9, rfl, hk9, hu⟩)
 have HU : Hid (OnlyU [.slice xz xn xc] w17 w18) := OnlyU.of_grown hu (by simp)
 have RX : Hid (∀ u ∈ [Value.slice xz xn xc], ∀ k, u.ownBlock = some k → w7.heap.size ≤ k ∧ k < w8.heap.size) := fun u hu k hk => by rw [List.mem_singleton.1 hu] at hk; exact RXT.out k hk
 clear hu
 have q197 := za.out
 have q198 := z8.out
 have q199 := z16.out
 have q200 := z19.out
 have q201 := z22.out
 have q202 := qW1.out
 have q203 := qW2.out
 have q204 := z28.out
 have q205 := g30.out
 have q206 := z41.out
 have q207 := z49.out
 have q208 := g51.out
 have q209 := z59.out
 have q210 := z73.out
 have q211 := qG1.out
 have q212 := qG2.out
 have q213 := z85.out
 have q214 := g87.out
 have q215 := z109.out
 have q216 := z121.out
 have q217 := z133.out
 have q218 := z145.out
 have q219 := z157.out
 have q220 := z196.out
 have k221 := hQ (box_onlyU k186.out HU.out (fun u hu j hj => by have := RX.out u hu j hj; omega))
 have k222 := hQ (box_onlyU k187.out HU.out (fun u hu j hj => by have := RX.out u hu j hj; omega))
 have k223 := hQ (box_onlyU k188.out HU.out (fun u hu j hj => by have := RX.out u hu j hj; omega))
 have k224 := hQ (box_onlyU k189.out HU.out (fun u hu j hj => by have := RX.out u hu j hj; omega))
 have o225 := hQ (o190.out.onlyU HU.out (fun u hu j hj => by have := RX.out u hu j hj; omega))
 have o226 := hQ (o191.out.onlyU HU.out (fun u hu j hj => by have := RX.out u hu j hj; omega))
 have t227 : Hid (OwnT w18 w3.heap.size (.slice wz wn wc) A) := owns_onlyU t192.out HU.out (fun j hj u hu e => by have h1 := RX.out u hu j e; have h2 := RW.out j hj; omega)
 have t228 : Hid (OwnT w18 w8.heap.size (.slice gz gn gc) A) := owns_onlyU t194.out HU.out (fun j hj u hu e => by have h1 := RX.out u hu j e; have h2 := RGT.out j hj; have := TA.out j hj; omega)
 have b229 := hQ (b195.out.trans (HU.out.below (lo := w0.heap.size) b195.out.size (fun u hu j hj => by have := RX.out u hu j hj; omega)))
 clear b195 k186 k187 k188 k189 o190 o191 t192 t194
 clear q197 q198 q199 q200 q201 q202 q203 q204 q205 q206 q207 q208 q209 q210 q211 q212 q213 q214 q215 q216 q217 q218 q219 q220
 have z230 := hQ (HU.out.size)
 clear t193 RX HU RXT
 have n9 : ¬ k9 < 0 := by omega
 obtain ⟨c231, c232, c233, c234, c235⟩ := own5 k224.out
 obtain ⟨c236, c237, c238, c239, c240⟩ := own5 k222.out
 go_upto_region 23 with (first
  | (go_at_call 11; refine (EQR.out _ _ _ _ _ _ _ _ _ _ _ o226.out o225.out).mono ?_; rintro e w19 ⟨rfl, hbx⟩; have tq1 := hQ (owns_below t228.out hbx); have tq2 := hQ (owns_below t227.out hbx))
  | (go_at_call 23; refine (EQT.out _ _ _ _ _ _ tq1.out tq2.out).mono ?_; rintro e w20 ⟨rfl, hby⟩))
 have k241 := hQ (owns_below k221.out hbx)
 have k242 := hQ (owns_below k222.out hbx)
 have k243 := hQ (owns_below k223.out hbx)
 have k244 := hQ (owns_below k224.out hbx)
 have o245 := hQ (o225.out.below hbx)
 have o246 := hQ (o226.out.below hbx)
 have t247 : Hid (OwnT w19 w3.heap.size (.slice wz wn wc) A) := owns_below t227.out hbx
 have t248 : Hid (OwnT w19 w8.heap.size (.slice gz gn gc) A) := owns_below t228.out hbx
 have b249 := hQ (below_next b229.out hbx nR)
 clear b229 k221 k222 k223 k224 o225 o226 t227 t228
 have z250 := hQ (hbx.size)
 have k251 := hQ (owns_below k241.out hby)
 have k252 := hQ (owns_below k242.out hby)
 have k253 := hQ (owns_below k243.out hby)
 have k254 := hQ (owns_below k244.out hby)
 have o255 := hQ (o245.out.below hby)
 have o256 := hQ (o246.out.below hby)
 have t257 : Hid (OwnT w20 w3.heap.size (.slice wz wn wc) A) := owns_below t247.out hby
 have t258 : Hid (OwnT w20 w8.heap.size (.slice gz gn gc) A) := owns_below t248.out hby
 have b259 := hQ (below_next b249.out hby nR)
 clear b249 k241 k242 k243 k244 o245 o246 t247 t248
 have z260 := hQ (hby.size)
 clear tq1 tq2 hbx hby c231 c232 c233 c234 c235 c236 c237 c238 c239 c240
 obtain ⟨c261, c262, c263, c264, c265⟩ := own5 k254.out
 have RG := hQ o256.out.range
 have hG : hiG ≤ w20.heap.size := by have := za.out; have := z8.out; have := z16.out; have := z19.out; have := z22.out; have := qW1.out; have := qW2.out; have := z28.out; have := g30.out; have := z41.out; have := z49.out; have := g51.out; have := z59.out; have := z73.out; have := qG1.out; have := qG2.out; have := z85.out; have := g87.out; have := z109.out; have := z121.out; have := z133.out; have := z145.out; have := z157.out; have := z196.out; have := z230.out; have := z250.out; have := z260.out; omega
 go_upto_region 25 with (go_at_call 12; refine (MKR.out _ _ _ _ _ _ o256.out hG).mono ?_; rintro e w21 ⟨rfl, oGM, hu⟩)
 have HU := hQ hu
 clear hu c261 c262 c263 c264 c265
 have q266 := za.out
 have q267 := z8.out
 have q268 := z16.out
 have q269 := z19.out
 have q270 := z22.out
 have q271 := qW1.out
 have q272 := qW2.out
 have q273 := z28.out
 have q274 := g30.out
 have q275 := z41.out
 have q276 := z49.out
 have q277 := g51.out
 have q278 := z59.out
 have q279 := z73.out
 have q280 := qG1.out
 have q281 := qG2.out
 have q282 := z85.out
 have q283 := g87.out
 have q284 := z109.out
 have q285 := z121.out
 have q286 := z133.out
 have q287 := z145.out
 have q288 := z157.out
 have q289 := z196.out
 have q290 := z230.out
 have q291 := z250.out
 have q292 := z260.out
 have k293 := hQ (box_onlyU k251.out HU.out (fun u hu j hj => by have := RG.out u hu j hj; omega))
 have k294 := hQ (box_onlyU k252.out HU.out (fun u hu j hj => by have := RG.out u hu j hj; omega))
 have k295 := hQ (box_onlyU k253.out HU.out (fun u hu j hj => by have := RG.out u hu j hj; omega))
 have k296 := hQ (box_onlyU k254.out HU.out (fun u hu j hj => by have := RG.out u hu j hj; omega))
 have o297 := hQ (o255.out.onlyU HU.out (fun u hu j hj => by have := RG.out u hu j hj; omega))
 have t298 : Hid (OwnT w21 w3.heap.size (.slice wz wn wc) A) := owns_onlyU t257.out HU.out (fun j hj u hu e => by have h1 := RG.out u hu j e; have h2 := RW.out j hj; omega)
 have t299 : Hid (OwnT w21 w8.heap.size (.slice gz gn gc) A) := owns_onlyU t258.out HU.out (fun j hj u hu e => by have h1 := RG.out u hu j e; have h2 := RGT.out j hj; have := TA.out j hj; omega)
 have b300 := hQ (b259.out.trans (HU.out.below (lo := w0.heap.size) b259.out.size (fun u hu j hj => by have := RG.out u hu j hj; omega)))
 clear b259 k251 k252 k253 k254 o255 t257 t258
 clear q266 q267 q268 q269 q270 q271 q272 q273 q274 q275 q276 q277 q278 q279 q280 q281 q282 q283 q284 q285 q286 q287 q288 q289 q290 q291 q292
 have z301 := hQ (HU.out.size)
 have oGM := hQ oGM
 clear o256 RG hG HU
 go_upto_region 26 with (go_at_call 24; refine (MKA.out _ _ _ t299.out).mono ?_; rintro e w22 ⟨rfl, tGM, hu⟩)
 have HU : Hid (OnlyU [.slice gz gn gc] w21 w22) := OnlyU.of_grown hu (by simp)
 have RX : Hid (∀ u ∈ [Value.slice gz gn gc], ∀ k, u.ownBlock = some k → w8.heap.size ≤ k ∧ k < w9.heap.size ∧ (k < loG ∨ hiG ≤ k)) := fun u hu k hk => by rw [List.mem_singleton.1 hu] at hk; exact ⟨(RGT.out k hk).1, (RGT.out k hk).2, TA.out k hk⟩
 clear hu
 have q302 := za.out
 have q303 := z8.out
 have q304 := z16.out
 have q305 := z19.out
 have q306 := z22.out
 have q307 := qW1.out
 have q308 := qW2.out
 have q309 := z28.out
 have q310 := g30.out
 have q311 := z41.out
 have q312 := z49.out
 have q313 := g51.out
 have q314 := z59.out
 have q315 := z73.out
 have q316 := qG1.out
 have q317 := qG2.out
 have q318 := z85.out
 have q319 := g87.out
 have q320 := z109.out
 have q321 := z121.out
 have q322 := z133.out
 have q323 := z145.out
 have q324 := z157.out
 have q325 := z196.out
 have q326 := z230.out
 have q327 := z250.out
 have q328 := z260.out
 have q329 := z301.out
 have k330 := hQ (box_onlyU k293.out HU.out (fun u hu j hj => by have := RX.out u hu j hj; omega))
 have k331 := hQ (box_onlyU k294.out HU.out (fun u hu j hj => by have := RX.out u hu j hj; omega))
 have k332 := hQ (box_onlyU k295.out HU.out (fun u hu j hj => by have := RX.out u hu j hj; omega))
 have k333 := hQ (box_onlyU k296.out HU.out (fun u hu j hj => by have := RX.out u hu j hj; omega))
 have o334 := hQ (o297.out.onlyU HU.out (fun u hu j hj => by have := RX.out u hu j hj; omega))
 have o335 := hQ (oGM.out.onlyU HU.out (fun u hu j hj => by have := RX.out u hu j hj; omega))
 have t336 : Hid (OwnT w22 w3.heap.size (.slice wz wn wc) A) := owns_onlyU t298.out HU.out (fun j hj u hu e => by have h1 := RX.out u hu j e; have h2 := RW.out j hj; omega)
 have b337 := hQ (b300.out.trans (HU.out.below (lo := w0.heap.size) b300.out.size (fun u hu j hj => by have := RX.out u hu j hj; omega)))
 clear b300 k293 k294 k295 k296 o297 oGM t298
 clear q302 q303 q304 q305 q306 q307 q308 q309 q310 q311 q312 q313 q314 q315 q316 q317 q318 q319 q320 q321 q322 q323 q324 q325 q326 q327 q328 q329
 have z338 := hQ (HU.out.size)
 have tGM := hQ tGM
 clear t299 RX HU
 obtain ⟨c339, c340, c341, c342, c343⟩ := own5 k333.out
 go_upto_region 28 with (go_at_call 13; refine (HDR.out _ _ _ _ _ _ o335.out).mono ?_; rintro e w23 ⟨rfl, hbx⟩)
 have k344 := hQ (owns_below k330.out hbx)
 have k345 := hQ (owns_below k331.out hbx)
 have k346 := hQ (owns_below k332.out hbx)
 have k347 := hQ (owns_below k333.out hbx)
 have o348 := hQ (o334.out.below hbx)
 have o349 := hQ (o335.out.below hbx)
 have t350 : Hid (OwnT w23 w3.heap.size (.slice wz wn wc) A) := owns_below t336.out hbx
 have t351 : Hid (OwnT w23 w8.heap.size (.slice gz gn gc) AM) := owns_below tGM.out hbx
 have b352 := hQ (below_next b337.out hbx nR)
 clear b337 k330 k331 k332 k333 o334 o335 t336 tGM
 have z353 := hQ (hbx.size)
 clear hbx c339 c340 c341 c342 c343
 go_upto_region 31 with (go_at_call 25; refine (HDA.out _ _ _ t351.out).mono ?_; rintro e w24 ⟨rfl, hby⟩)
 have k354 := hQ (owns_below k344.out hby)
 have k355 := hQ (owns_below k345.out hby)
 have k356 := hQ (owns_below k346.out hby)
 have k357 := hQ (owns_below k347.out hby)
 have o358 := hQ (o348.out.below hby)
 have o359 := hQ (o349.out.below hby)
 have t360 : Hid (OwnT w24 w3.heap.size (.slice wz wn wc) A) := owns_below t350.out hby
 have t361 : Hid (OwnT w24 w8.heap.size (.slice gz gn gc) AM) := owns_below t351.out hby
 have b362 := hQ (below_next b352.out hby nR)
 clear b352 k344 k345 k346 k347 o348 o349 t350 t351
 have z363 := hQ (hby.size)
 clear hby
 go_upto_region 35 with fail
 obtain ⟨c364, c365, c366, c367, c368⟩ := own5 k354.out
 go_upto_region 36 with (first
  | (go_at_call 9; refine (TB.out HH.out _ b362.out).mono ?_; rintro e w25 ⟨ya, ma, da, yb, mb, dd, us0, rfl, oq, hb25⟩; have bq := hQ (below_next b362.out hb25 nR))
  | (go_at_call 22; refine (TS.out HAL.out _ bq.out).mono ?_; rintro e w26 ⟨tz, tn, tc, rfl, ot, hb26⟩; have oq2 := hQ (oq.below hb26); have bq2 := hQ (below_next bq.out hb26 nR))
  | (go_at_call 15; refine (IP.out HX.out _ _ _ _ _ _ _ _ _ _ oq2.out ot (LTB.out _ bq2.out)).mono ?_; rintro e w27 ⟨a3, m3, d3, a4, m4, d4, usH, hz, hn, hc, loH, hiH, rfl, oH, tH, lH1, lH2, apH, hb27⟩))
 have k369 := hQ (owns_below k354.out hb25)
 have k370 := hQ (owns_below k355.out hb25)
 have k371 := hQ (owns_below k356.out hb25)
 have k372 := hQ (owns_below k357.out hb25)
 have o373 := hQ (o358.out.below hb25)
 have o374 := hQ (o359.out.below hb25)
 have t375 : Hid (OwnT w25 w3.heap.size (.slice wz wn wc) A) := owns_below t360.out hb25
 have t376 : Hid (OwnT w25 w8.heap.size (.slice gz gn gc) AM) := owns_below t361.out hb25
 have b377 := hQ (below_next b362.out hb25 nR)
 clear b362 k354 k355 k356 k357 o358 o359 t360 t361
 have z378 := hQ (hb25.size)
 have k379 := hQ (owns_below k369.out hb26)
 have k380 := hQ (owns_below k370.out hb26)
 have k381 := hQ (owns_below k371.out hb26)
 have k382 := hQ (owns_below k372.out hb26)
 have o383 := hQ (o373.out.below hb26)
 have o384 := hQ (o374.out.below hb26)
 have t385 : Hid (OwnT w26 w3.heap.size (.slice wz wn wc) A) := owns_below t375.out hb26
 have t386 : Hid (OwnT w26 w8.heap.size (.slice gz gn gc) AM) := owns_below t376.out hb26
 have b387 := hQ (below_next b377.out hb26 nR)
 clear b377 k369 k370 k371 k372 o373 o374 t375 t376
 have z388 := hQ (hb26.size)
 have k389 := hQ (owns_below k379.out hb27)
 have k390 := hQ (owns_below k380.out hb27)
 have k391 := hQ (owns_below k381.out hb27)
 have k392 := hQ (owns_below k382.out hb27)
 have o393 := hQ (o383.out.below hb27)
 have o394 := hQ (o384.out.below hb27)
 have t395 : Hid (OwnT w27 w3.heap.size (.slice wz wn wc) A) := owns_below t385.out hb27
 have t396 : Hid (OwnT w27 w8.heap.size (.slice gz gn gc) AM) := owns_below t386.out hb27
 have b397 := hQ (below_next b387.out hb27 nR)
 clear b387 k379 k380 k381 k382 o383 o384 t385 t386
 have z398 := hQ (hb27.size)
 have oH := hQ oH
 have RHT := hQ (fun k hk => (World.ownsRow.lt tH k hk))
 have tH := hQ tH
 clear ot oq oq2 bq bq2 hb25 hb26 hb27 apH lH1 lH2 c364 c365 c366 c367 c368
 obtain ⟨w28, g15, e412, g413, k399, k400, k401, k402, k403, o404, o405, o406, t407, t408, t409, b410, z411⟩ : ∃ w28 g15, w28 = w27.alloc (.cells #[.slice a3 m3 d3, .slice a4 m4 d4, .int .i64 R.w, .int .i64 R.most, .int .i64 R.lines] 27) ∧ Hid (g15 = w27.heap.size) ∧ Hid (w28.ownsRow w0.heap.size 25 5 (.slice (some ⟨w0.heap.size, 0, none⟩) 1 1) 1 [pv, qv, .int .i64 db.w, .int .i64 db.most, .int .i64 db.lines]) ∧ Hid (w28.ownsRow w0.heap.size 27 5 (.slice (some ⟨g6, 0, none⟩) 1 1) 1 [.slice a1 m1 d1, .slice a2 m2 d2, .int .i64 R.w, .int .i64 R.most, .int .i64 R.lines]) ∧ Hid (w28.ownsRow w0.heap.size 27 5 (.slice (some ⟨g8, 0, none⟩) 1 1) 1 [.slice x1 n1 c1, .slice x2 n2' c2, .int .i64 db.w, .int .i64 db.most, .int .i64 db.lines]) ∧ Hid (w28.ownsRow w0.heap.size 27 5 (.slice (some ⟨g10, 0, none⟩) 1 1) 1 [.slice y1 p1 q1, .slice y2 p2 q2, .int .i64 R.w, .int .i64 R.most, .int .i64 R.lines]) ∧ Hid (w28.ownsRow w0.heap.size 27 5 (.slice (some ⟨g15, 0, none⟩) 1 1) 1 [.slice a3 m3 d3, .slice a4 m4 d4, .int .i64 R.w, .int .i64 R.most, .int .i64 R.lines]) ∧ Hid (OwnB w28 loW hiW (.slice a1 m1 d1) (.slice a2 m2 d2) usW R) ∧ Hid (OwnB w28 loG hiG (.slice y1 p1 q1) (.slice y2 p2 q2) usG RM) ∧ Hid (OwnB w28 loH hiH (.slice a3 m3 d3) (.slice a4 m4 d4) usH R) ∧ Hid (OwnT w28 w3.heap.size (.slice wz wn wc) A) ∧ Hid (OwnT w28 w8.heap.size (.slice gz gn gc) AM) ∧ Hid (OwnT w28 w26.heap.size (.slice hz hn hc) A) ∧ Hid (Below w0.heap.size w0 w28) ∧ Hid (w28.heap.size = w27.heap.size + 1) := ⟨_, _, rfl, rfl, World.ownsRow.alloc k389.out _, World.ownsRow.alloc k390.out _, World.ownsRow.alloc k391.out _, World.ownsRow.alloc k392.out _, own5_made w27 b397.out.size 27 _ _ _ _ _, o393.out.alloc _, o394.out.alloc _, oH.out.alloc _, World.ownsRow.alloc t395.out _, World.ownsRow.alloc t396.out _, World.ownsRow.alloc tH.out _, b397.out.alloc b397.out.size _, (by show _ = _; simp)⟩
 rw [← e412, ← g413.out]
 clear e412 k389 k390 k391 k392 o393 o394 oH t395 t396 tH b397
 obtain ⟨c414, c415, c416, c417, c418⟩ := own5 k403.out
 obtain ⟨c419, c420, c421, c422, c423⟩ := own5 k400.out
 go_upto_region 39 with (first
  | (go_at_call 11; refine (EQR.out _ _ _ _ _ _ _ _ _ _ _ o406.out o404.out).mono ?_; rintro e w29 ⟨rfl, hbx⟩; have tq1 := hQ (owns_below t409.out hbx); have tq2 := hQ (owns_below t407.out hbx))
  | (go_at_call 23; refine (EQT.out _ _ _ _ _ _ tq1.out tq2.out).mono ?_; rintro e w30 ⟨rfl, hby⟩))
 have k424 := hQ (owns_below k399.out hbx)
 have k425 := hQ (owns_below k400.out hbx)
 have k426 := hQ (owns_below k401.out hbx)
 have k427 := hQ (owns_below k402.out hbx)
 have k428 := hQ (owns_below k403.out hbx)
 have o429 := hQ (o404.out.below hbx)
 have o430 := hQ (o405.out.below hbx)
 have o431 := hQ (o406.out.below hbx)
 have t432 : Hid (OwnT w29 w3.heap.size (.slice wz wn wc) A) := owns_below t407.out hbx
 have t433 : Hid (OwnT w29 w8.heap.size (.slice gz gn gc) AM) := owns_below t408.out hbx
 have t434 : Hid (OwnT w29 w26.heap.size (.slice hz hn hc) A) := owns_below t409.out hbx
 have b435 := hQ (below_next b410.out hbx nR)
 clear b410 k399 k400 k401 k402 k403 o404 o405 o406 t407 t408 t409
 have z436 := hQ (hbx.size)
 have k437 := hQ (owns_below k424.out hby)
 have k438 := hQ (owns_below k425.out hby)
 have k439 := hQ (owns_below k426.out hby)
 have k440 := hQ (owns_below k427.out hby)
 have k441 := hQ (owns_below k428.out hby)
 have o442 := hQ (o429.out.below hby)
 have o443 := hQ (o430.out.below hby)
 have o444 := hQ (o431.out.below hby)
 have t445 : Hid (OwnT w30 w3.heap.size (.slice wz wn wc) A) := owns_below t432.out hby
 have t446 : Hid (OwnT w30 w8.heap.size (.slice gz gn gc) AM) := owns_below t433.out hby
 have t447 : Hid (OwnT w30 w26.heap.size (.slice hz hn hc) A) := owns_below t434.out hby
 have b448 := hQ (below_next b435.out hby nR)
 clear b435 k424 k425 k426 k427 k428 o429 o430 o431 t432 t433 t434
 have z449 := hQ (hby.size)
 clear tq1 tq2 hbx hby c414 c415 c416 c417 c418 c419 c420 c421 c422 c423
 obtain ⟨c450, c451, c452, c453, c454⟩ := own5 k440.out
 go_upto_region 40 with (go_at_call 13; refine (HDR.out _ _ _ _ _ _ o443.out).mono ?_; rintro e w31 ⟨rfl, hbx⟩)
 have k455 := hQ (owns_below k437.out hbx)
 have k456 := hQ (owns_below k438.out hbx)
 have k457 := hQ (owns_below k439.out hbx)
 have k458 := hQ (owns_below k440.out hbx)
 have k459 := hQ (owns_below k441.out hbx)
 have o460 := hQ (o442.out.below hbx)
 have o461 := hQ (o443.out.below hbx)
 have o462 := hQ (o444.out.below hbx)
 have t463 : Hid (OwnT w31 w3.heap.size (.slice wz wn wc) A) := owns_below t445.out hbx
 have t464 : Hid (OwnT w31 w8.heap.size (.slice gz gn gc) AM) := owns_below t446.out hbx
 have t465 : Hid (OwnT w31 w26.heap.size (.slice hz hn hc) A) := owns_below t447.out hbx
 have b466 := hQ (below_next b448.out hbx nR)
 clear b448 k437 k438 k439 k440 k441 o442 o443 o444 t445 t446 t447
 have z467 := hQ (hbx.size)
 clear hbx c450 c451 c452 c453 c454
 go_upto_region 43 with (go_at_call 25; refine (HDA.out _ _ _ t464.out).mono ?_; rintro e w32 ⟨rfl, hby⟩)
 have k468 := hQ (owns_below k455.out hby)
 have k469 := hQ (owns_below k456.out hby)
 have k470 := hQ (owns_below k457.out hby)
 have k471 := hQ (owns_below k458.out hby)
 have k472 := hQ (owns_below k459.out hby)
 have o473 := hQ (o460.out.below hby)
 have o474 := hQ (o461.out.below hby)
 have o475 := hQ (o462.out.below hby)
 have t476 : Hid (OwnT w32 w3.heap.size (.slice wz wn wc) A) := owns_below t463.out hby
 have t477 : Hid (OwnT w32 w8.heap.size (.slice gz gn gc) AM) := owns_below t464.out hby
 have t478 : Hid (OwnT w32 w26.heap.size (.slice hz hn hc) A) := owns_below t465.out hby
 have b479 := hQ (below_next b466.out hby nR)
 clear b466 k455 k456 k457 k458 k459 o460 o461 o462 t463 t464 t465
 have z480 := hQ (hby.size)
 clear hby
 go_wp2
 go_ret
 exact ⟨rfl, b479.out⟩
end Go.Proofs.YtofnchdijanikaaGreatDoor

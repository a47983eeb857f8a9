/-
  PROVED HERE: what the printer's lines need, part G01. Conditions: each theorem's own.
-/
import Derived.Test.YtofnchdijanikaaGreatDoorD03
import Derived.Test.YtofnchdijanikaaGreatDoorR01
import Derived.BigFrame
import Derived.Deep.RegionHeld3
import Derived.Test.YtofnchdijanikaaGreatDoorV01
set_option linter.unusedVariables false
set_option linter.unusedSimpArgs false
set_option maxRecDepth 100000
namespace Go.Proofs.YtofnchdijanikaaGreatDoor
open Go.RowKit
theorem prR_facts (b : DBook) (ls : List (List UInt8)) : (¬ (bookB b = true ∧ ls.length ≤ 30) → (prR b ls).1 = zB ∧ (prR b ls).2 = []) ∧ (bookB b = true ∧ ls.length ≤ 30 → ∀ h, h ≤ ls.length → bookB (prR b (ls.take h)).1 = true ∧ (prR (prR b (ls.take h)).1 (ls.drop h)).1 = (prR b ls).1 ∧ (prR b (ls.take h)).2 ++ (prR (prR b (ls.take h)).1 (ls.drop h)).2 = (prR b ls).2 ∧ (prR b ls).2.length = ls.length) := by
 constructor
 ·intro hc
  unfold prR
  rw [if_neg hc]
  exact ⟨rfl, rfl⟩
 ·intro hc h hh
  have e1 : prR b ls = prRun b ls := by unfold prR; rw [if_pos hc]
  have e2 : prR b (ls.take h) = prRun b (ls.take h) := by unfold prR; rw [if_pos ⟨hc.1, by rw [List.length_take]; omega⟩]
  have ok := prRun_ok (ls.take h) b hc.1
  have e3 : prR (prRun b (ls.take h)).1 (ls.drop h) = prRun (prRun b (ls.take h)).1 (ls.drop h) := by unfold prR; rw [if_pos ⟨ok, by rw [List.length_drop]; omega⟩]
  have ap := prRun_app (ls.take h) (ls.drop h) b
  rw [List.take_append_drop] at ap
  rw [e1, e2, e3, ap]
  refine ⟨ok, rfl, rfl, ?_⟩
  have := prRun_len ls b
  rw [ap] at this
  exact this
theorem strs_w (w wr : World) {ops : Array Oper} {rest : List Oper} {o : Oper} {a : Act} {Q : Exit → Act → World → Prop} (hw : Region.wanted o (yielded ops a.tmps) = true) (s x : Operand)
  (ho : o.op = .call { callee := .builtin .append, args := #[s, x], argTypes := #[23, 23] }) (B : Nat) (v : Value) (xs ys : List (List UInt8)) (u : Value)
  (hs : a.eval s = v) (hx : a.eval x = u) (hown : OwnT wr B v xs) (hu : TxtS wr u ys) (hz : NC u) (hn : xs.length ≤ 4000000) (hm : ys.length ≤ 4000000) (hB : B ≤ w.heap.size) (hb : Below B w wr)
  (h : ∀ z n c w', OwnT w' B (.slice z n c) (xs ++ ys) → Below B w w' → wpList Tryz.prog ops Q rest (a.put o.dst (.slice z n c)) w') : wpList Tryz.prog ops Q (o :: rest) a wr :=
 Go.BigFrame.wpList_want hw fun K hK => by
  have := step_strs (ops := #[]) (o := { o with guard := none }) (a := a) (K := K) (Q := Q) (E := False) w wr rfl s x ho B v xs ys u hs hx hown hu hz hn hm hB hb (fun z n c w' h1 h2 _ _ => hK _ _ (h z n c w' h1 h2))
  rw [if_pos (by simp [Region.wanted])] at this
  exact this
set_option maxHeartbeats 64000000 in
theorem fnPrinterRun_walk (a : Option Addr) (n cap : Nat) (w : World) (h : Code8 w a n cap) (ht : LnTab w) : Calls Tryz.prog 4 #[.slice a n cap] w (Ret (.bool true) w) := by
 have hn : n ≤ 9223372036854775807 := by have := h.2.1; unfold maxLen at this; omega
 by_cases hbig : 1048576 < n
 ·go_enter Tryz.func4, Tryz.ntmps4
  go_wp2
  go_ret
  exact ⟨rfl, Below.refl _ _⟩
 ·have H := hQ h
  have TAB := hQ ht
  clear h ht
  go_enter Tryz.func4, Tryz.ntmps4
  go_upto_region 4 with (go_at_call 14; refine (drawPR_any a n cap w H.out).mono ?_; rintro e w0 ⟨v, lv, db, ls, rfl, hr, hbn, hbs, hts, hlen, hll, ⟨g, N, c, rfl, hN, hc⟩, hbI⟩; obtain ⟨p1, q1, rfl, hp, hq⟩ := hr; obtain ⟨pa, pl, pc, rfl⟩ : ∃ a l c, p1 = .slice a l c := (by obtain ⟨va, vc, e, _⟩ := ss_idx hp; exact ⟨_, _, _, e⟩); obtain ⟨qa, ql, qc, rfl⟩ : ∃ a l c, q1 = .slice a l c := (by obtain ⟨a, c, e, _⟩ := hq; exact ⟨_, _, _, e⟩))
  have BI := hQ hbI
  have BRB := hQ (fun w' (hb : Below w0.heap.size w0 w') => BookR.below (b := db) ⟨_, _, rfl, hp, hq⟩ hb)
  have LTB : Hid (∀ w', Below w0.heap.size w0 w' → LnTab w') := fun w' hb => TAB.out.below (below_next hbI hb nR) nR
  have hn31 : N ≤ 31 := by omega
  obtain ⟨h, hh⟩ : ∃ h, h = N / 2 := ⟨_, rfl⟩
  have d1 : (N : Int).tdiv 2 = (h : Int) := by rw [Int.tdiv_eq_ediv_of_nonneg (by omega)]; omega
  have hhN : h ≤ N := by omega
  have hhc : c = h → N = 0 ∧ c = 0 := by omega
  obtain ⟨bv, hbv⟩ : ∃ bv, bv = bookB db := ⟨_, rfl⟩
  have PF := prR_facts db ls
  obtain ⟨r1, hr1⟩ : ∃ r1, r1 = prR db ls := ⟨_, rfl⟩
  obtain ⟨r2, hr2⟩ : ∃ r2, r2 = prR db (ls.take h) := ⟨_, rfl⟩
  have RF : Hid (¬ (bv = true ∧ N ≤ 30) → r1.1 = zB ∧ r1.2 = []) := by rw [hr1, hbv, ← hN]; exact PF.1
  have RT : Hid (bv = true ∧ N ≤ 30 → bookB r2.1 = true ∧ (prR r2.1 (ls.drop h)).1 = r1.1 ∧ r2.2 ++ (prR r2.1 (ls.drop h)).2 = r1.2 ∧ r1.2.length = N) := by rw [hr1, hr2, hbv, ← hN]; exact fun e => PF.2 e h (by omega)
  have LL := hQ (fun l (hl : l ∈ ls) => (by have := hll l hl; omega : l.length ≤ 3000000))
  have TL : Hid (∀ w', Below w0.heap.size w0 w' → TxtS w' (.slice (some ⟨g, 0, none⟩) N c) ls) := fun w' hb => hts.below hb
  have T1 : Hid (∀ w', Below w0.heap.size w0 w' → TxtS w' (.slice (some ⟨g, 0, none⟩) h c) (ls.take h)) := fun w' hb => by
   have := txt_part (hts.below hb) 0 h c (Nat.zero_le _) (by omega)
   rwa [Nat.sub_zero, List.drop_zero, Nat.add_zero] at this
  have T2 : Hid (∀ w', Below w0.heap.size w0 w' → ∀ c', TxtS w' (.slice (some ⟨g, h, none⟩) (N - h) c') (ls.drop h)) := fun w' hb c' => by
   have := txt_part (hts.below hb) h N c' hhN (by omega)
   rwa [Nat.zero_add, List.take_of_length_le (by rw [List.length_drop]; omega)] at this
  have T0 : Hid (N = 0 → ls.drop h = []) := fun e => by rw [List.drop_eq_nil_of_le (by omega)]
  obtain ⟨R, A⟩ := r1
  obtain ⟨C, FA⟩ := r2
  obtain ⟨r3, hr3⟩ : ∃ r3, r3 = prR C (ls.drop h) := ⟨_, rfl⟩
  rw [← hr3] at RT
  obtain ⟨R3, SA⟩ := r3
  obtain ⟨AN, hAN⟩ : ∃ AN, AN = A.length := ⟨_, rfl⟩
  obtain ⟨FN, hFN⟩ : ∃ FN, FN = FA.length := ⟨_, rfl⟩
  obtain ⟨SN, hSN⟩ : ∃ SN, SN = SA.length := ⟨_, rfl⟩
  have RT2 : Hid (bv = true ∧ N ≤ 30 → bookB C = true ∧ R3 = R ∧ FA ++ SA = A ∧ AN = N ∧ FN ≤ 4000000 ∧ SN ≤ 4000000) := fun e => by
   obtain ⟨a1, a2, a3, a4⟩ := RT.out e
   have a4 : A.length = N := a4
   have a3 : FA ++ SA = A := a3
   have := congrArg List.length a3
   rw [List.length_append] at this
   exact ⟨a1, a2, a3, by omega, by omega, by omega⟩
  have RF2 : Hid (¬ (bv = true ∧ N ≤ 30) → R.lines = 0 ∧ AN = 0) := fun e => by
   obtain ⟨a1, a2⟩ := RF.out e
   have a1 : R = zB := a1
   have a2 : A = [] := a2
   rw [hAN, a1, a2]
   exact ⟨rfl, rfl⟩
  clear RT RF
  have IP : Hid (∀ w', Below w0.heap.size w0 w' → Calls Tryz.prog 15 #[.agg #[.slice pa pl pc, .slice qa ql qc, .int .i64 db.w, .int .i64 db.most, .int .i64 db.lines], .slice (some ⟨g, 0, none⟩) N c] w' fun e w2 => ∃ ya ma da yb mb dd az ac us9 hi9, e = .returned (.tuple #[.agg #[.slice ya ma da, .slice yb mb dd, .int .i64 R.w, .int .i64 R.most, .int .i64 R.lines], .slice az AN ac]) ∧ OwnB w2 w'.heap.size hi9 (.slice ya ma da) (.slice yb mb dd) us9 R ∧ BookN (.agg #[.slice ya ma da, .slice yb mb dd, .int .i64 R.w, .int .i64 R.most, .int .i64 R.lines]) ∧ OwnT w2 w'.heap.size (.slice az AN ac) A ∧ Below w'.heap.size w' w2) := fun w' hb => by
   refine Calls.mono (implPR db hbs (ls) (fun l hl => LL.out l hl) _ w' (BRB.out w' hb) hbn _ (TL.out w' hb) (LTB.out w' hb)) ?_
   rintro e w2 ⟨pv2, qv2, us2, av, lo, hi, rfl, ho, hlo, _, hta, _, hb2⟩
   rw [← hr1] at ho hta
   obtain ⟨ya, ma, da, yb, mb, dd, rfl, rfl⟩ := ho.forms
   obtain ⟨az, ac, rfl⟩ := own_form hta
   exact ⟨ya, ma, da, yb, mb, dd, az, ac, us2, hi, by rw [← hr1, hAN]; rfl, ho.mono hlo, NC.ownB' ho, by rw [hAN]; exact hta, hb2⟩
  have SP : Hid (∀ w', Below w0.heap.size w0 w' → Calls Tryz.prog 16 #[.agg #[.slice pa pl pc, .slice qa ql qc, .int .i64 db.w, .int .i64 db.most, .int .i64 db.lines], .slice (some ⟨g, 0, none⟩) N c] w' fun e w2 => ∃ ya ma da yb mb dd az ac us9 hi9, e = .returned (.tuple #[.agg #[.slice ya ma da, .slice yb mb dd, .int .i64 R.w, .int .i64 R.most, .int .i64 R.lines], .slice az AN ac]) ∧ OwnB w2 w'.heap.size hi9 (.slice ya ma da) (.slice yb mb dd) us9 R ∧ BookN (.agg #[.slice ya ma da, .slice yb mb dd, .int .i64 R.w, .int .i64 R.most, .int .i64 R.lines]) ∧ OwnT w2 w'.heap.size (.slice az AN ac) A ∧ Below w'.heap.size w' w2) := fun w' hb => by
   refine Calls.mono (specPR db hbs (ls) (fun l hl => LL.out l hl) _ w' (BRB.out w' hb) hbn _ (TL.out w' hb)) ?_
   rintro e w2 ⟨pv2, qv2, us2, av, lo, hi, rfl, ho, hlo, _, hta, _, hb2⟩
   rw [← hr1] at ho hta
   obtain ⟨ya, ma, da, yb, mb, dd, rfl, rfl⟩ := ho.forms
   obtain ⟨az, ac, rfl⟩ := own_form hta
   exact ⟨ya, ma, da, yb, mb, dd, az, ac, us2, hi, by rw [← hr1, hAN]; rfl, ho.mono hlo, NC.ownB' ho, by rw [hAN]; exact hta, hb2⟩
  have IP1 : Hid (∀ w', Below w0.heap.size w0 w' → Calls Tryz.prog 15 #[.agg #[.slice pa pl pc, .slice qa ql qc, .int .i64 db.w, .int .i64 db.most, .int .i64 db.lines], .slice (some ⟨g, 0, none⟩) h c] w' fun e w2 => ∃ ya ma da yb mb dd az ac us9 hi9, e = .returned (.tuple #[.agg #[.slice ya ma da, .slice yb mb dd, .int .i64 C.w, .int .i64 C.most, .int .i64 C.lines], .slice az FN ac]) ∧ OwnB w2 w'.heap.size hi9 (.slice ya ma da) (.slice yb mb dd) us9 C ∧ BookN (.agg #[.slice ya ma da, .slice yb mb dd, .int .i64 C.w, .int .i64 C.most, .int .i64 C.lines]) ∧ OwnT w2 w'.heap.size (.slice az FN ac) FA ∧ Below w'.heap.size w' w2) := fun w' hb => by
   refine Calls.mono (implPR db hbs (ls.take h) (fun l hl => LL.out l (List.mem_of_mem_take hl)) _ w' (BRB.out w' hb) hbn _ (T1.out w' hb) (LTB.out w' hb)) ?_
   rintro e w2 ⟨pv2, qv2, us2, av, lo, hi, rfl, ho, hlo, _, hta, _, hb2⟩
   rw [← hr2] at ho hta
   obtain ⟨ya, ma, da, yb, mb, dd, rfl, rfl⟩ := ho.forms
   obtain ⟨az, ac, rfl⟩ := own_form hta
   exact ⟨ya, ma, da, yb, mb, dd, az, ac, us2, hi, by rw [← hr2, hFN]; rfl, ho.mono hlo, NC.ownB' ho, by rw [hFN]; exact hta, hb2⟩
  have IP2 : Hid (bookB C = true → ∀ w' y1 y2 y3 y4 y5 y6 lv2, Below w0.heap.size w0 w' → BookR w' (.agg #[.slice y1 y2 y3, .slice y4 y5 y6, .int .i64 C.w, .int .i64 C.most, .int .i64 C.lines]) C → BookN (.agg #[.slice y1 y2 y3, .slice y4 y5 y6, .int .i64 C.w, .int .i64 C.most, .int .i64 C.lines]) → TxtS w' lv2 (ls.drop h) → Calls Tryz.prog 15 #[.agg #[.slice y1 y2 y3, .slice y4 y5 y6, .int .i64 C.w, .int .i64 C.most, .int .i64 C.lines], lv2] w' fun e w2 => ∃ ya ma da yb mb dd az ac us9 hi9, e = .returned (.tuple #[.agg #[.slice ya ma da, .slice yb mb dd, .int .i64 R3.w, .int .i64 R3.most, .int .i64 R3.lines], .slice az SN ac]) ∧ OwnB w2 w'.heap.size hi9 (.slice ya ma da) (.slice yb mb dd) us9 R3 ∧ BookN (.agg #[.slice ya ma da, .slice yb mb dd, .int .i64 R3.w, .int .i64 R3.most, .int .i64 R3.lines]) ∧ OwnT w2 w'.heap.size (.slice az SN ac) SA ∧ Below w'.heap.size w' w2) := fun hC w' y1 y2 y3 y4 y5 y6 lv2 hb hrC hnC htl => by
   refine Calls.mono (implPR C (bookSh_ok (bookB_true hC)) (ls.drop h) (fun l hl => LL.out l (List.mem_of_mem_drop hl)) _ w' hrC hnC lv2 htl (LTB.out w' hb)) ?_
   rintro e w2 ⟨pv2, qv2, us2, av, lo, hi, rfl, ho, hlo, _, hta, _, hb2⟩
   rw [← hr3] at ho hta
   obtain ⟨ya, ma, da, yb, mb, dd, rfl, rfl⟩ := ho.forms
   obtain ⟨az, ac, rfl⟩ := own_form hta
   exact ⟨ya, ma, da, yb, mb, dd, az, ac, us2, hi, by rw [← hr3, hSN]; rfl, ho.mono hlo, NC.ownB' ho, by rw [hSN]; exact hta, hb2⟩
  have SBR : Hid (∀ w' v1 v2 b, BookR w' v1 b → BookR w' v2 b → Calls Tryz.prog 17 #[v1, v2] w' (Ret (.bool true) w')) := fun w' v1 v2 b o1 o2 => sameBook_any v1 v2 b w' o1 o2
  have STX : Hid (∀ w' v1 v2 xs, TxtS w' v1 xs → TxtS w' v2 xs → Calls Tryz.prog 18 #[v1, v2] w' (Ret (.bool true) w')) := fun w' v1 v2 xs o1 o2 => sameT_any v1 v2 xs w' o1 o2
  have BVS : Hid (∀ w', Below w0.heap.size w0 w' → Calls Tryz.prog 19 #[.agg #[.slice pa pl pc, .slice qa ql qc, .int .i64 db.w, .int .i64 db.most, .int .i64 db.lines]] w' (Ret (.bool bv) w')) := fun w' hb => by
   rw [hbv]
   exact specBook_any db hbs _ w' (BRB.out w' hb)
  have bz : Hid (Below w0.heap.size w0 w0) := Below.refl _ _
  have LFN := hQ hFN
  have LSN := hQ hSN
  have LAN := hQ hAN
  clear hbI hp hq hbs hbn hbv hr1 hr2 hr3 hll hts hlen hN hAN hFN hSN TAB H PF BRB LL TL hh
  obtain ⟨w1, g3, e3, g4, k1, b2⟩ : ∃ w1 g3, w1 = w0.alloc (.cells #[.slice pa pl pc, .slice qa ql qc, .int .i64 db.w, .int .i64 db.most, .int .i64 db.lines] 27) ∧ g3 = w0.heap.size ∧ Hid (w1.ownsRow w0.heap.size 27 5 (.slice (some ⟨g3, 0, none⟩) 1 1) 1 [.slice pa pl pc, .slice qa ql qc, .int .i64 db.w, .int .i64 db.most, .int .i64 db.lines]) ∧ Hid (Below w0.heap.size w0 w1) := ⟨_, _, rfl, rfl, own5_made w0 bz.out.size 27 _ _ _ _ _, bz.out.alloc bz.out.size _⟩
  rw [← e3, ← g4]
  clear e3 g4 bz
  obtain ⟨c5, c6, c7, c8, c9⟩ := own5 k1.out
  go_upto_region 5 with (go_at_call 15; refine (IP.out _ b2.out).mono ?_; rintro e w2 ⟨x1, n1, c1', x2, n2, c2', az, ac, us9, hi9, rfl, oX, nX, tX, hb2⟩)
  have k10 := hQ (owns_below k1.out hb2)
  have b11 := hQ (below_next b2.out hb2 nR)
  clear k1 b2
  have oX := hQ oX.read
  have rX := hQ (OwnT.row tX)
  clear hb2 tX nX c5 c6 c7 c8 c9
  obtain ⟨w3, g5, e17, g18, k12, k13, o14, o15, b16⟩ : ∃ w3 g5, w3 = w2.alloc (.cells #[.slice x1 n1 c1', .slice x2 n2 c2', .int .i64 R.w, .int .i64 R.most, .int .i64 R.lines] 27) ∧ g5 = w2.heap.size ∧ Hid (w3.ownsRow w0.heap.size 27 5 (.slice (some ⟨g3, 0, none⟩) 1 1) 1 [.slice pa pl pc, .slice qa ql qc, .int .i64 db.w, .int .i64 db.most, .int .i64 db.lines]) ∧ Hid (w3.ownsRow w0.heap.size 27 5 (.slice (some ⟨g5, 0, none⟩) 1 1) 1 [.slice x1 n1 c1', .slice x2 n2 c2', .int .i64 R.w, .int .i64 R.most, .int .i64 R.lines]) ∧ Hid (BookR w3 (.agg #[.slice x1 n1 c1', .slice x2 n2 c2', .int .i64 R.w, .int .i64 R.most, .int .i64 R.lines]) R) ∧ Hid (TxtS w3 (.slice az AN ac) A) ∧ Hid (Below w0.heap.size w0 w3) := ⟨_, _, rfl, rfl, World.ownsRow.alloc k10.out _, own5_made w2 b11.out.size 27 _ _ _ _ _, oX.out.below ((Below.refl _ _).alloc nR _), rX.out.below ((Below.refl _ _).alloc nR _), b11.out.alloc b11.out.size _⟩
  rw [← e17, ← g18]
  clear e17 g18 k10 oX rX b11
  obtain ⟨c19, c20, c21, c22, c23⟩ := own5 k12.out
  go_upto_region 6 with (go_at_call 16; refine (SP.out _ b16.out).mono ?_; rintro e w4 ⟨y1, m1, d1', y2, m2, d2', ez, ec, us9, hi9, rfl, oY, nY, tY, hb4⟩)
  have k24 := hQ (owns_below k12.out hb4)
  have k25 := hQ (owns_below k13.out hb4)
  have o26 : Hid (BookR w4 (.agg #[.slice x1 n1 c1', .slice x2 n2 c2', .int .i64 R.w, .int .i64 R.most, .int .i64 R.lines]) R) := hQ (o14.out.below hb4)
  have o27 : Hid (TxtS w4 (.slice az AN ac) A) := hQ (o15.out.below hb4)
  have b28 := hQ (below_next b16.out hb4 nR)
  clear k12 k13 o14 o15 b16
  have oY := hQ oY.read
  have rY := hQ (OwnT.row tY)
  clear hb4 tY nY c19 c20 c21 c22 c23
  obtain ⟨w5, g7, e37, g38, k29, k30, k31, o32, o33, o34, o35, b36⟩ : ∃ w5 g7, w5 = w4.alloc (.cells #[.slice y1 m1 d1', .slice y2 m2 d2', .int .i64 R.w, .int .i64 R.most, .int .i64 R.lines] 27) ∧ g7 = w4.heap.size ∧ Hid (w5.ownsRow w0.heap.size 27 5 (.slice (some ⟨g3, 0, none⟩) 1 1) 1 [.slice pa pl pc, .slice qa ql qc, .int .i64 db.w, .int .i64 db.most, .int .i64 db.lines]) ∧ Hid (w5.ownsRow w0.heap.size 27 5 (.slice (some ⟨g5, 0, none⟩) 1 1) 1 [.slice x1 n1 c1', .slice x2 n2 c2', .int .i64 R.w, .int .i64 R.most, .int .i64 R.lines]) ∧ Hid (w5.ownsRow w0.heap.size 27 5 (.slice (some ⟨g7, 0, none⟩) 1 1) 1 [.slice y1 m1 d1', .slice y2 m2 d2', .int .i64 R.w, .int .i64 R.most, .int .i64 R.lines]) ∧ Hid (BookR w5 (.agg #[.slice x1 n1 c1', .slice x2 n2 c2', .int .i64 R.w, .int .i64 R.most, .int .i64 R.lines]) R) ∧ Hid (TxtS w5 (.slice az AN ac) A) ∧ Hid (BookR w5 (.agg #[.slice y1 m1 d1', .slice y2 m2 d2', .int .i64 R.w, .int .i64 R.most, .int .i64 R.lines]) R) ∧ Hid (TxtS w5 (.slice ez AN ec) A) ∧ Hid (Below w0.heap.size w0 w5) := ⟨_, _, rfl, rfl, World.ownsRow.alloc k24.out _, World.ownsRow.alloc k25.out _, own5_made w4 b28.out.size 27 _ _ _ _ _, o26.out.below ((Below.refl _ _).alloc nR _), o27.out.below ((Below.refl _ _).alloc nR _), oY.out.below ((Below.refl _ _).alloc nR _), rY.out.below ((Below.refl _ _).alloc nR _), b28.out.alloc b28.out.size _⟩
  rw [← e37, ← g38]
  clear e37 g38 k24 k25 o26 o27 oY rY b28
  obtain ⟨c39, c40, c41, c42, c43⟩ := own5 k30.out
  obtain ⟨c44, c45, c46, c47, c48⟩ := own5 k31.out
  go_upto_region 8 with (first | (go_at_call 17; refine (SBR.out _ _ _ _ o32.out o34.out).mono ?_; rintro e w6 ⟨rfl, hb6⟩; have XT6 := hQ (o33.out.below hb6); have YT6 := hQ (o35.out.below hb6)) | (go_at_call 18; refine (STX.out _ _ _ _ XT6.out YT6.out).mono ?_; rintro e w7 ⟨rfl, hb7⟩))
  have k49 := hQ (owns_below k29.out hb6)
  have k50 := hQ (owns_below k30.out hb6)
  have k51 := hQ (owns_below k31.out hb6)
  have o52 : Hid (BookR w6 (.agg #[.slice x1 n1 c1', .slice x2 n2 c2', .int .i64 R.w, .int .i64 R.most, .int .i64 R.lines]) R) := hQ (o32.out.below hb6)
  have o53 : Hid (TxtS w6 (.slice az AN ac) A) := hQ (o33.out.below hb6)
  have o54 : Hid (BookR w6 (.agg #[.slice y1 m1 d1', .slice y2 m2 d2', .int .i64 R.w, .int .i64 R.most, .int .i64 R.lines]) R) := hQ (o34.out.below hb6)
  have o55 : Hid (TxtS w6 (.slice ez AN ec) A) := hQ (o35.out.below hb6)
  have b56 := hQ (below_next b36.out hb6 nR)
  clear k29 k30 k31 o32 o33 o34 o35 b36
  have k57 := hQ (owns_below k49.out hb7)
  have k58 := hQ (owns_below k50.out hb7)
  have k59 := hQ (owns_below k51.out hb7)
  have o60 : Hid (BookR w7 (.agg #[.slice x1 n1 c1', .slice x2 n2 c2', .int .i64 R.w, .int .i64 R.most, .int .i64 R.lines]) R) := hQ (o52.out.below hb7)
  have o61 : Hid (TxtS w7 (.slice az AN ac) A) := hQ (o53.out.below hb7)
  have o62 : Hid (BookR w7 (.agg #[.slice y1 m1 d1', .slice y2 m2 d2', .int .i64 R.w, .int .i64 R.most, .int .i64 R.lines]) R) := hQ (o54.out.below hb7)
  have o63 : Hid (TxtS w7 (.slice ez AN ec) A) := hQ (o55.out.below hb7)
  have b64 := hQ (below_next b56.out hb7 nR)
  clear k49 k50 k51 o52 o53 o54 o55 b56
  clear hb6 hb7 XT6 YT6 c39 c40 c41 c42 c43 c44 c45 c46 c47 c48
  clear o62 o63
  by_cases hok : bv = true ∧ N ≤ 30
  ·obtain ⟨hC, e3, eA, eN, lF, lS⟩ := RT2.out hok
   obtain ⟨rfl, hN30⟩ := hok
   have e3 := e3.symm
   have eN := eN.symm
   subst e3 eN
   have n30 : ¬ (30 : Int) < (N : Int) := by omega
   have EA := hQ eA
   have IPC := hQ (IP2.out hC)
   clear RT2 RF2 IP SP IP2 eA hC
   obtain ⟨c65, c66, c67, c68, c69⟩ := own5 k57.out
   go_upto_region 11 with (go_at_call 19; refine (BVS.out _ b64.out).mono ?_; rintro e w8 ⟨rfl, hb8⟩)
   have k70 := hQ (owns_below k57.out hb8)
   have k71 := hQ (owns_below k58.out hb8)
   have k72 := hQ (owns_below k59.out hb8)
   have o73 : Hid (BookR w8 (.agg #[.slice x1 n1 c1', .slice x2 n2 c2', .int .i64 R.w, .int .i64 R.most, .int .i64 R.lines]) R) := hQ (o60.out.below hb8)
   have o74 : Hid (TxtS w8 (.slice az N ac) A) := hQ (o61.out.below hb8)
   have b75 := hQ (below_next b64.out hb8 nR)
   clear k57 k58 k59 o60 o61 b64
   clear hb8 BVS c65 c66 c67 c68 c69
   have KS : Hid (∀ w', Below w8.heap.size w8 w' → w'.cell? ⟨g3, 0, none⟩ = some (.slice pa pl pc) ∧ w'.cell? ⟨g3, 1, none⟩ = some (.slice qa ql qc) ∧ w'.cell? ⟨g3, 2, none⟩ = some (.int .i64 db.w) ∧ w'.cell? ⟨g3, 3, none⟩ = some (.int .i64 db.most) ∧ w'.cell? ⟨g3, 4, none⟩ = some (.int .i64 db.lines)) := fun w' hb => own5 (owns_below k70.out hb)
   have E9 := hQ ((Below.refl w8.heap.size w8).drew)
   have EAa := hQ (((Below.refl w8.heap.size w8).alloc nR (.cells #[.slice none 0 0, .slice none 0 0, .int .i64 0, .int .i64 0, .int .i64 0] 27)).drew)
   have LPD := hQ (IP1.out w8.drew (below_next b75.out E9.out nR))
   have LPA := hQ (IP1.out _ (below_next b75.out EAa.out nR))
   have s1 : ¬ (c : Int) < (h : Int) := by omega
   have s2 : (h : Int) ≤ (c : Int) := by omega
   have s3 : (0 : Int) ≤ (h : Int) := by omega
   have kw := b75.out.size
   have XA := hQ (show ((w8.alloc (.cells #[.slice none 0 0, .slice none 0 0, .int .i64 0, .int .i64 0, .int .i64 0] 27)).drew).ownsRow w0.heap.size 27 5 (.slice (some ⟨w8.heap.size, 0, none⟩) 1 1) 1 [.slice none 0 0, .slice none 0 0, .int .i64 0, .int .i64 0, .int .i64 0] from own5_made w8 (B := w0.heap.size) kw 27 (.slice none 0 0) (.slice none 0 0) (.int .i64 0) (.int .i64 0) (.int .i64 0))
   have SZ : Hid (((w8.alloc (.cells #[.slice none 0 0, .slice none 0 0, .int .i64 0, .int .i64 0, .int .i64 0] 27)).drew).heap.size = w8.heap.size + 1) := hQ (World.size_alloc w8 _)
   go_upto_region 11 with fail
   go_cut [10, 11] from 66 to 73 (fun va vb wx => ∃ (g9 : Nat) (ya yb az : Option Addr) (ma da mb dd ac bs9 : Nat), va = .pointer (some ⟨g9, 0, none⟩) ∧ vb = .slice az FN ac ∧ Hid (wx.ownsRow w0.heap.size 27 5 (.slice (some ⟨g9, 0, none⟩) 1 1) 1 [.slice ya ma da, .slice yb mb dd, .int .i64 C.w, .int .i64 C.most, .int .i64 C.lines]) ∧ Hid (BookR wx (.agg #[.slice ya ma da, .slice yb mb dd, .int .i64 C.w, .int .i64 C.most, .int .i64 C.lines]) C) ∧ Hid (BookN (.agg #[.slice ya ma da, .slice yb mb dd, .int .i64 C.w, .int .i64 C.most, .int .i64 C.lines])) ∧ Hid (OwnT wx bs9 (.slice az FN ac) FA) ∧ Hid (Below w8.heap.size w8 wx))
   case first =>
    have kk := KS.out _ E9.out
    have kkA := KS.out _ EAa.out
    go_region_held3 (fun w' => w'.cell? ⟨g3, 0, none⟩ = some (.slice pa pl pc) ∧ w'.cell? ⟨g3, 1, none⟩ = some (.slice qa ql qc) ∧ w'.cell? ⟨g3, 2, none⟩ = some (.int .i64 db.w) ∧ w'.cell? ⟨g3, 3, none⟩ = some (.int .i64 db.most) ∧ w'.cell? ⟨g3, 4, none⟩ = some (.int .i64 db.lines)) (first | with_reducible exact kk | with_reducible exact kkA | with_reducible exact kk5 | with_reducible exact kk6 | with_reducible exact kk7 | go_keep)
     (first
      | (go_at_call 15; with_reducible refine LPD.out.mono ?_; rintro e wq ⟨ya, ma, da, yb, mb, dd, az', ac', us9, hi9, rfl, oq, nq, tq, hbq⟩; have bA := hQ (below_next E9.out hbq nR); have kk5 := KS.out _ bA.out; have kk6 := KS.out _ (bA.out.alloc bA.out.size (.cells #[.slice ya ma da, .slice yb mb dd, .int .i64 C.w, .int .i64 C.most, .int .i64 C.lines] 27)); have kk7 := KS.out _ (bA.out.alloc bA.out.size (.cells #[.slice none 0 0, .slice none 0 0, .int .i64 0, .int .i64 0, .int .i64 0] 27)))
      | (go_at_call 15; with_reducible refine LPA.out.mono ?_; rintro e wq ⟨ya, ma, da, yb, mb, dd, az', ac', us9, hi9, rfl, oq, nq, tq, hbq⟩; have bA := hQ (below_next EAa.out hbq nR); have kk5 := KS.out _ bA.out; have X5 := hQ (owns_below XA.out hbq); obtain ⟨x0, x1', x2', x3, x4⟩ := own5 X5.out; obtain ⟨m0, m1, m2, m3, m4⟩ := fz5 X5.out; have FF := hQ (own5_set X5.out (.slice ya ma da) (.slice yb mb dd) (.int .i64 C.w) (.int .i64 C.most) (.int .i64 C.lines)); have BF := hQ (bA.out.grown FF.out.2 bA.out.size (fun k hk => by cases hk; exact nR)); have kk6 := KS.out _ BF.out))
    all_goals go_wp2_with fail
    all_goals go_meet
    all_goals first
     | exact ⟨_, ya, yb, az', ma, da, mb, dd, ac', _, rfl, rfl, own5_made wq (Nat.le_trans kw bA.out.size) _ _ _ _ _ _, (oq.below ((Below.refl _ _).alloc nR _)).read, nq, World.ownsRow.alloc tq _, bA.out.alloc bA.out.size _⟩
     | exact ⟨w8.heap.size, ya, yb, az', ma, da, mb, dd, ac', _, rfl, rfl, FF.out.1, (oq.grown FF.out.2 (.inl (by rw [SZ.out]; exact Nat.lt_succ_self _))).read, nq, World.ownsRow.kept tq FF.out.2 (.inr fun e => by have := (World.ownsRow.lt tq _ e).1; rw [SZ.out] at this; omega), BF.out⟩
   case rest =>
    obtain ⟨g9, ya, yb, az', ma, da, mb, dd, ac', bs9, rfl, rfl, kq, oq, nq, tq, hbq⟩ := hcut
    clear KS E9 EAa XA SZ LPD LPA kw
    have nF := hQ (NC.own tq.out)
    have rF := hQ (OwnT.row tq.out)
    have HBQ := hQ hbq.out
    have k76 := hQ (owns_below k70.out HBQ.out)
    have k77 := hQ (owns_below k71.out HBQ.out)
    have k78 := hQ (owns_below k72.out HBQ.out)
    have o79 : Hid (BookR wc (.agg #[.slice x1 n1 c1', .slice x2 n2 c2', .int .i64 R.w, .int .i64 R.most, .int .i64 R.lines]) R) := hQ (o73.out.below HBQ.out)
    have o80 : Hid (TxtS wc (.slice az N ac) A) := hQ (o74.out.below HBQ.out)
    have b81 := hQ (below_next b75.out HBQ.out nR)
    clear k70 k71 k72 o73 o74 b75
    clear HBQ hbq tq IP1 T1
    obtain ⟨wk, hwk⟩ : ∃ wk, wk = wc := ⟨_, rfl⟩
    rw [← hwk]
    rw [← hwk] at k76 k77 k78 kq o79 o80 oq rF b81
    clear hwk
    have KS : Hid (∀ w', Below wk.heap.size wk w' → w'.cell? ⟨g9, 0, none⟩ = some (.slice ya ma da) ∧ w'.cell? ⟨g9, 1, none⟩ = some (.slice yb mb dd) ∧ w'.cell? ⟨g9, 2, none⟩ = some (.int .i64 C.w) ∧ w'.cell? ⟨g9, 3, none⟩ = some (.int .i64 C.most) ∧ w'.cell? ⟨g9, 4, none⟩ = some (.int .i64 C.lines)) := fun w' hb => own5 (owns_below kq.out hb)
    have E9 := hQ ((Below.refl wk.heap.size wk).drew)
    have EAa := hQ (((Below.refl wk.heap.size wk).alloc nR (.cells #[.slice none 0 0, .slice none 0 0, .int .i64 0, .int .i64 0, .int .i64 0] 27)).drew)
    have kw := b81.out.size
    have XA := hQ (show ((wk.alloc (.cells #[.slice none 0 0, .slice none 0 0, .int .i64 0, .int .i64 0, .int .i64 0] 27)).drew).ownsRow w0.heap.size 27 5 (.slice (some ⟨wk.heap.size, 0, none⟩) 1 1) 1 [.slice none 0 0, .slice none 0 0, .int .i64 0, .int .i64 0, .int .i64 0] from own5_made wk (B := w0.heap.size) kw 27 (.slice none 0 0) (.slice none 0 0) (.int .i64 0) (.int .i64 0) (.int .i64 0))
    have SZ : Hid (((wk.alloc (.cells #[.slice none 0 0, .slice none 0 0, .int .i64 0, .int .i64 0, .int .i64 0] 27)).drew).heap.size = wk.heap.size + 1) := hQ (World.size_alloc wk _)
    go_upto_region 12 with fail
    go_cut [12, 13] from 74 to 81 (fun va vb wx => ∃ (g9 : Nat) (ya yb az : Option Addr) (ma da mb dd ac bs9 : Nat), va = .pointer (some ⟨g9, 0, none⟩) ∧ vb = .slice az SN ac ∧ Hid (wx.ownsRow w0.heap.size 27 5 (.slice (some ⟨g9, 0, none⟩) 1 1) 1 [.slice ya ma da, .slice yb mb dd, .int .i64 R.w, .int .i64 R.most, .int .i64 R.lines]) ∧ Hid (BookR wx (.agg #[.slice ya ma da, .slice yb mb dd, .int .i64 R.w, .int .i64 R.most, .int .i64 R.lines]) R) ∧ Hid (BookN (.agg #[.slice ya ma da, .slice yb mb dd, .int .i64 R.w, .int .i64 R.most, .int .i64 R.lines])) ∧ Hid (OwnT wx bs9 (.slice az SN ac) SA) ∧ Hid (Below wk.heap.size wk wx))
    case first =>
     have kk := KS.out _ E9.out
     have kkA := KS.out _ EAa.out
     by_cases hc0 : c = h
     ·obtain ⟨z1, z2⟩ := hhc hc0
      have z3 : h = 0 := by omega
      subst z1 z2 z3
      have LPD := hQ (IPC.out wk.drew _ _ _ _ _ _ (.slice (some ⟨g, 0, none⟩) 0 0) (below_next b81.out E9.out nR) (oq.out.below E9.out) nq.out (T2.out _ (below_next b81.out E9.out nR) 0))
      have LPA := hQ (IPC.out _ _ _ _ _ _ _ (.slice (some ⟨g, 0, none⟩) 0 0) (below_next b81.out EAa.out nR) (oq.out.below EAa.out) nq.out (T2.out _ (below_next b81.out EAa.out nR) 0))
      go_region_held3 (fun w' => w'.cell? ⟨g9, 0, none⟩ = some (.slice ya ma da) ∧ w'.cell? ⟨g9, 1, none⟩ = some (.slice yb mb dd) ∧ w'.cell? ⟨g9, 2, none⟩ = some (.int .i64 C.w) ∧ w'.cell? ⟨g9, 3, none⟩ = some (.int .i64 C.most) ∧ w'.cell? ⟨g9, 4, none⟩ = some (.int .i64 C.lines)) (first | with_reducible exact kk | with_reducible exact kkA | with_reducible exact kk5 | with_reducible exact kk6 | with_reducible exact kk7 | go_keep)
       (first
        | (go_at_call 15; with_reducible refine LPD.out.mono ?_; rintro e wq ⟨yA, mA, dA, yB, mB, dD, aZ, aC, us9, hi9, rfl, oq, nq, tq, hbq⟩; have bA := hQ (below_next E9.out hbq nR); have kk5 := KS.out _ bA.out; have kk6 := KS.out _ (bA.out.alloc bA.out.size (.cells #[.slice yA mA dA, .slice yB mB dD, .int .i64 R.w, .int .i64 R.most, .int .i64 R.lines] 27)); have kk7 := KS.out _ (bA.out.alloc bA.out.size (.cells #[.slice none 0 0, .slice none 0 0, .int .i64 0, .int .i64 0, .int .i64 0] 27)))
        | (go_at_call 15; with_reducible refine LPA.out.mono ?_; rintro e wq ⟨yA, mA, dA, yB, mB, dD, aZ, aC, us9, hi9, rfl, oq, nq, tq, hbq⟩; have bA := hQ (below_next EAa.out hbq nR); have kk5 := KS.out _ bA.out; have X5 := hQ (owns_below XA.out hbq); obtain ⟨x0, x1', x2', x3, x4⟩ := own5 X5.out; obtain ⟨m0, m1, m2, m3, m4⟩ := fz5 X5.out; have FF := hQ (own5_set X5.out (.slice yA mA dA) (.slice yB mB dD) (.int .i64 R.w) (.int .i64 R.most) (.int .i64 R.lines)); have BF := hQ (bA.out.grown FF.out.2 bA.out.size (fun k hk => by cases hk; exact nR)); have kk6 := KS.out _ BF.out))
      all_goals go_wp2_with fail
      all_goals go_meet
      all_goals first
       | exact ⟨_, yA, yB, aZ, mA, dA, mB, dD, aC, _, rfl, rfl, own5_made wq (Nat.le_trans kw bA.out.size) _ _ _ _ _ _, (oq.below ((Below.refl _ _).alloc nR _)).read, nq, World.ownsRow.alloc tq _, bA.out.alloc bA.out.size _⟩
       | exact ⟨wk.heap.size, yA, yB, aZ, mA, dA, mB, dD, aC, _, rfl, rfl, FF.out.1, (oq.grown FF.out.2 (.inl (by rw [SZ.out]; exact Nat.lt_succ_self _))).read, nq, World.ownsRow.kept tq FF.out.2 (.inr fun e => by have := (World.ownsRow.lt tq _ e).1; rw [SZ.out] at this; omega), BF.out⟩
     ·have q1 : ¬ (c : Int) = (h : Int) := by omega
      have q2 : (h : Int) ≤ (N : Int) := by omega
      have q3 : (N : Int) ≤ (c : Int) := by omega
      have q4 : (0 : Int) ≤ (h : Int) := by omega
      have LPD := hQ (IPC.out wk.drew _ _ _ _ _ _ (.slice (some ⟨g, h, none⟩) (N - h) (c - h)) (below_next b81.out E9.out nR) (oq.out.below E9.out) nq.out (T2.out _ (below_next b81.out E9.out nR) (c - h)))
      have LPA := hQ (IPC.out _ _ _ _ _ _ _ (.slice (some ⟨g, h, none⟩) (N - h) (c - h)) (below_next b81.out EAa.out nR) (oq.out.below EAa.out) nq.out (T2.out _ (below_next b81.out EAa.out nR) (c - h)))
      go_region_held3 (fun w' => w'.cell? ⟨g9, 0, none⟩ = some (.slice ya ma da) ∧ w'.cell? ⟨g9, 1, none⟩ = some (.slice yb mb dd) ∧ w'.cell? ⟨g9, 2, none⟩ = some (.int .i64 C.w) ∧ w'.cell? ⟨g9, 3, none⟩ = some (.int .i64 C.most) ∧ w'.cell? ⟨g9, 4, none⟩ = some (.int .i64 C.lines)) (first | with_reducible exact kk | with_reducible exact kkA | with_reducible exact kk5 | with_reducible exact kk6 | with_reducible exact kk7 | go_keep)
       (first
        | (go_at_call 15; with_reducible refine LPD.out.mono ?_; rintro e wq ⟨yA, mA, dA, yB, mB, dD, aZ, aC, us9, hi9, rfl, oq, nq, tq, hbq⟩; have bA := hQ (below_next E9.out hbq nR); have kk5 := KS.out _ bA.out; have kk6 := KS.out _ (bA.out.alloc bA.out.size (.cells #[.slice yA mA dA, .slice yB mB dD, .int .i64 R.w, .int .i64 R.most, .int .i64 R.lines] 27)); have kk7 := KS.out _ (bA.out.alloc bA.out.size (.cells #[.slice none 0 0, .slice none 0 0, .int .i64 0, .int .i64 0, .int .i64 0] 27)))
        | (go_at_call 15; with_reducible refine LPA.out.mono ?_; rintro e wq ⟨yA, mA, dA, yB, mB, dD, aZ, aC, us9, hi9, rfl, oq, nq, tq, hbq⟩; have bA := hQ (below_next EAa.out hbq nR); have kk5 := KS.out _ bA.out; have X5 := hQ (owns_below XA.out hbq); obtain ⟨x0, x1', x2', x3, x4⟩ := own5 X5.out; obtain ⟨m0, m1, m2, m3, m4⟩ := fz5 X5.out; have FF := hQ (own5_set X5.out (.slice yA mA dA) (.slice yB mB dD) (.int .i64 R.w) (.int .i64 R.most) (.int .i64 R.lines)); have BF := hQ (bA.out.grown FF.out.2 bA.out.size (fun k hk => by cases hk; exact nR)); have kk6 := KS.out _ BF.out))
      all_goals go_wp2_with fail
      all_goals go_meet
      all_goals first
       | exact ⟨_, yA, yB, aZ, mA, dA, mB, dD, aC, _, rfl, rfl, own5_made wq (Nat.le_trans kw bA.out.size) _ _ _ _ _ _, (oq.below ((Below.refl _ _).alloc nR _)).read, nq, World.ownsRow.alloc tq _, bA.out.alloc bA.out.size _⟩
       | exact ⟨wk.heap.size, yA, yB, aZ, mA, dA, mB, dD, aC, _, rfl, rfl, FF.out.1, (oq.grown FF.out.2 (.inl (by rw [SZ.out]; exact Nat.lt_succ_self _))).read, nq, World.ownsRow.kept tq FF.out.2 (.inr fun e => by have := (World.ownsRow.lt tq _ e).1; rw [SZ.out] at this; omega), BF.out⟩
    case rest =>
     obtain ⟨gD, yA, yB, aZ, mA, dA, mB, dD, aC, bs9, rfl, rfl, kD, oD, nD, tD, hbD⟩ := hcut
     clear KS E9 EAa XA SZ kw
     have nS := hQ (NC.own tD.out)
     have rS := hQ (OwnT.row tD.out)
     have HBD := hQ hbD.out
     have k82 := hQ (owns_below k76.out HBD.out)
     have k83 := hQ (owns_below k77.out HBD.out)
     have k84 := hQ (owns_below k78.out HBD.out)
     have k85 := hQ (owns_below kq.out HBD.out)
     have o86 : Hid (BookR wc (.agg #[.slice x1 n1 c1', .slice x2 n2 c2', .int .i64 R.w, .int .i64 R.most, .int .i64 R.lines]) R) := hQ (o79.out.below HBD.out)
     have o87 : Hid (TxtS wc (.slice az N ac) A) := hQ (o80.out.below HBD.out)
     have o88 : Hid (BookR wc (.agg #[.slice ya ma da, .slice yb mb dd, .int .i64 C.w, .int .i64 C.most, .int .i64 C.lines]) C) := hQ (oq.out.below HBD.out)
     have o89 : Hid (TxtS wc (.slice az' FN ac') FA) := hQ (rF.out.below HBD.out)
     have b90 := hQ (below_next b81.out HBD.out nR)
     clear k76 k77 k78 kq o79 o80 oq rF b81
     clear HBD hbD tD IPC T2 T0 nq nD hhc
     obtain ⟨wk2, hwk⟩ : ∃ wk2, wk2 = wc := ⟨_, rfl⟩
     rw [← hwk]
     rw [← hwk] at k82 k83 k84 k85 kD o86 o87 o88 o89 oD rS b90
     clear hwk
     obtain ⟨c91, c92, c93, c94, c95⟩ := own5 kD.out
     obtain ⟨c96, c97, c98, c99, c100⟩ := own5 k83.out
     have lF1 : FA.length ≤ 4000000 := by rw [← LFN.out]; exact lF
     have lS1 : SA.length ≤ 4000000 := by rw [← LSN.out]; exact lS
     go_wp2_with (first
      | (go_at_call 17; refine (SBR.out _ _ _ _ oD.out o86.out).mono ?_; rintro e wz ⟨rfl, hbz⟩; have bA := hQ ((Below.refl wz.heap.size wz).alloc nR (.cells #[] 9)); have S1z := hQ (rS.out.below hbz); have X1z := hQ (o87.out.below hbz); have F1 := hQ ((o89.out.below hbz).below bA.out); have S1 := hQ ((rS.out.below hbz).below bA.out); have X1 := hQ ((o87.out.below hbz).below bA.out))
      | (at_builtin; refine strs_w wz (wz.alloc (.cells #[] 9)) (by simp [Region.wanted, yielded]) _ _ rfl wz.heap.size (.slice (some ⟨wz.heap.size, 0, none⟩) 0 0) [] FA (.slice az' FN ac') rfl rfl (OwnT.made wz nR) F1.out nF.out (Nat.zero_le _) lF1 nR bA.out ?_; intro z9 n9 c9 wp ho9 hb9; have O9 := hQ ho9; have hb9 := hQ hb9)
      | (at_builtin; refine strs_w wz wp (by simp [Region.wanted, yielded]) _ _ rfl wz.heap.size (.slice z9 n9 c9) ([] ++ FA) SA (.slice aZ SN aC) rfl rfl O9.out (S1z.out.below hb9.out) nS.out lF1 lS1 nR hb9.out ?_; intro z8 n8 c8 wq ho8 hb8; have O8 := hQ (OwnT.row ho8); rw [List.nil_append, EA.out] at O8; have hb8 := hQ hb8)
      | (go_at_call 18; refine (STX.out _ _ _ _ O8.out (X1z.out.below hb8.out)).mono ?_; rintro e wf ⟨rfl, hbf⟩))
     go_ret
     exact ⟨rfl, below_next BI.out (below_next (below_next (below_next b90.out hbz nR) hb8.out nR) hbf nR) nR⟩
  ·obtain ⟨eL, eN⟩ := RF2.out hok
   subst eN
   clear RT2 RF2 IP SP IP1 IP2 SBR STX
   cases bv
   ·clear hok
    obtain ⟨c65, c66, c67, c68, c69⟩ := own5 k57.out
    obtain ⟨c70, c71, c72, c73, c74⟩ := own5 k58.out
    have e4 : w7.cell? ⟨g5, 4, none⟩ = some (.int .i64 0) := by rw [c74, eL]
    go_wp2_with (first | (go_at_call 19; refine (BVS.out _ b64.out).mono ?_; rintro e w8 ⟨rfl, hb8⟩; have B8 := hQ (below_next b64.out hb8 nR); have e5 : w8.cell? ⟨g5, 4, none⟩ = some (.int .i64 0) := (by have := (own5 (owns_below k58.out hb8)).2.2.2.2; rw [eL] at this; exact this)) | (go_at_call 20; refine (alive_any _).mono ?_; rintro e w9 ⟨rfl, hb9⟩))
    go_ret
    exact ⟨rfl, below_next BI.out (below_next B8.out hb9 nR) nR⟩
   ·have n30 : (30 : Int) < (N : Int) := by
     have : ¬ N ≤ 30 := fun e => hok ⟨rfl, e⟩
     omega
    clear hok
    obtain ⟨c65, c66, c67, c68, c69⟩ := own5 k57.out
    obtain ⟨c70, c71, c72, c73, c74⟩ := own5 k58.out
    have e4 : w7.cell? ⟨g5, 4, none⟩ = some (.int .i64 0) := by rw [c74, eL]
    go_wp2_with (first | (go_at_call 19; refine (BVS.out _ b64.out).mono ?_; rintro e w8 ⟨rfl, hb8⟩; have B8 := hQ (below_next b64.out hb8 nR); have e5 : w8.cell? ⟨g5, 4, none⟩ = some (.int .i64 0) := (by have := (own5 (owns_below k58.out hb8)).2.2.2.2; rw [eL] at this; exact this)) | (go_at_call 20; refine (alive_any _).mono ?_; rintro e w9 ⟨rfl, hb9⟩))
    go_ret
    exact ⟨rfl, below_next BI.out (below_next B8.out hb9 nR) nR⟩
end Go.Proofs.YtofnchdijanikaaGreatDoor

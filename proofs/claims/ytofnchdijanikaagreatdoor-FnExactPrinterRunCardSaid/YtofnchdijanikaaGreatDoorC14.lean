/-
  PROVED HERE: what the printer's lines need, part C14. Conditions: each theorem's own.
-/
import Derived.Test.YtofnchdijanikaaGreatDoorC13
import Derived.BigQuiet
import Derived.Deep.RegionHeld3
import Derived.Test.YtofnchdijanikaaGreatDoorC10
set_option linter.unusedVariables false
set_option linter.unusedSimpArgs false
set_option maxRecDepth 100000
namespace Go.Proofs.YtofnchdijanikaaGreatDoor
open Go.RowKit
theorem stepB_none {xs : List DItem} {wd most : Int} {T : Nat → Int → Option (Int × Nat)} {a t : Nat} {bf : Int} {Q : Option (Int × Nat)} (hl : lineC xs wd most a t = none) : stepB xs wd most T a bf Q t = Q := by
 unfold stepB
 rw [hl]
theorem stepB_dead {xs : List DItem} {wd most : Int} {T : Nat → Int → Option (Int × Nat)} {a t : Nat} {bf c l : Int} {Q : Option (Int × Nat)} (hl : lineC xs wd most a t = some (c, l)) (hT : T (t + 1) l = none) : stepB xs wd most T a bf Q t = Q := by simp [stepB, hl, hT]
theorem stepB_first {xs : List DItem} {wd most : Int} {T : Nat → Int → Option (Int × Nat)} {a t : Nat} {bf c l : Int} {r : Int} {v : Nat} (hl : lineC xs wd most a t = some (c, l)) (hT : T (t + 1) l = some (r, v)) : stepB xs wd most T a bf none t = some (c + r + between xs a t bf l, t) := by simp [stepB, hl, hT]
theorem stepB_lt {xs : List DItem} {wd most : Int} {T : Nat → Int → Option (Int × Nat)} {a t : Nat} {bf c l : Int} {r m : Int} {u v : Nat} (hl : lineC xs wd most a t = some (c, l)) (hT : T (t + 1) l = some (r, v)) (h : c + r + between xs a t bf l < m) : stepB xs wd most T a bf (some (m, u)) t = some (c + r + between xs a t bf l, t) := by simp [stepB, hl, hT, h]
theorem stepB_ge {xs : List DItem} {wd most : Int} {T : Nat → Int → Option (Int × Nat)} {a t : Nat} {bf c l : Int} {r m : Int} {u v : Nat} (hl : lineC xs wd most a t = some (c, l)) (hT : T (t + 1) l = some (r, v)) (h : ¬ c + r + between xs a t bf l < m) : stepB xs wd most T a bf (some (m, u)) t = some (m, u) := by simp only [stepB, hl, hT]; rw [if_neg h]
theorem costV2_form (xs : List DItem) (wd most : Int) (a t : Nat) (bl : Int) : ∃ (CV E0 : Int) (EK : Bool) (EL : Int), costV2 xs wd most a t bl = .tuple #[.int .i64 CV, .agg #[.int .i64 E0, .bool EK, .int .i64 EL]] ∧
  ((lineC xs wd most a t = none ∧ CV = -1) ∨ ∃ c, lineC xs wd most a t = some (c, EL) ∧ CV = c + between xs a t bl EL ∧ E0 = t ∧ EK = (it xs t).mark) := by
 unfold costV2
 cases h : lineC xs wd most a t with
 | none => exact ⟨-1, 0, false, 0, rfl, .inl ⟨rfl, rfl⟩⟩
 | some p => exact ⟨_, _, _, _, rfl, .inr ⟨p.1, rfl, rfl, rfl, rfl⟩⟩
theorem keepc {w w' : World} {b o : Nat} {u : Value} (h : w.cell? ⟨b, o, none⟩ = some u) (hb : Below w.heap.size w w') : w'.cell? ⟨b, o, none⟩ = some u :=
 (hb.cell (p := ⟨b, o, none⟩) (World.block_lt_of_cell? w _ h)).trans h
theorem keep6 {w w' : World} {p q : Nat} {a b c d e f : Value} (h : w.cell? ⟨p, 0, none⟩ = some a ∧ w.cell? ⟨p, 1, none⟩ = some b ∧ w.cell? ⟨p, 2, none⟩ = some c ∧ w.cell? ⟨q, 0, none⟩ = some d ∧ w.cell? ⟨q, 1, none⟩ = some e ∧ w.cell? ⟨q, 2, none⟩ = some f) (hb : Below w.heap.size w w') : w'.cell? ⟨p, 0, none⟩ = some a ∧ w'.cell? ⟨p, 1, none⟩ = some b ∧ w'.cell? ⟨p, 2, none⟩ = some c ∧ w'.cell? ⟨q, 0, none⟩ = some d ∧ w'.cell? ⟨q, 1, none⟩ = some e ∧ w'.cell? ⟨q, 2, none⟩ = some f :=
 ⟨keepc h.1 hb, keepc h.2.1 hb, keepc h.2.2.1 hb, keepc h.2.2.2.1 hb, keepc h.2.2.2.2.1 hb, keepc h.2.2.2.2.2 hb⟩
theorem keepg {w w' : World} {b o g : Nat} {u : Value} (h : w.cell? ⟨b, o, none⟩ = some u) (hg : w.grownBy w' (some g)) (hne : b ≠ g) : w'.cell? ⟨b, o, none⟩ = some u :=
 (World.cell?_of_block (a := ⟨b, o, none⟩) (hg.block b (World.block_lt_of_cell? w _ h) (fun e => hne (Option.some.inj e)))).trans h
theorem keep6g {w w' : World} {p q g : Nat} {a b c d e f : Value} (h : w.cell? ⟨p, 0, none⟩ = some a ∧ w.cell? ⟨p, 1, none⟩ = some b ∧ w.cell? ⟨p, 2, none⟩ = some c ∧ w.cell? ⟨q, 0, none⟩ = some d ∧ w.cell? ⟨q, 1, none⟩ = some e ∧ w.cell? ⟨q, 2, none⟩ = some f) (hg : w.grownBy w' (some g)) (h1 : p ≠ g) (h2 : q ≠ g) : w'.cell? ⟨p, 0, none⟩ = some a ∧ w'.cell? ⟨p, 1, none⟩ = some b ∧ w'.cell? ⟨p, 2, none⟩ = some c ∧ w'.cell? ⟨q, 0, none⟩ = some d ∧ w'.cell? ⟨q, 1, none⟩ = some e ∧ w'.cell? ⟨q, 2, none⟩ = some f :=
 ⟨keepg h.1 hg h1, keepg h.2.1 hg h1, keepg h.2.2.1 hg h1, keepg h.2.2.2.1 hg h2, keepg h.2.2.2.2.1 hg h2, keepg h.2.2.2.2.2 hg h2⟩
abbrev W2 (w : World) (A : Int) (mk : Bool) (lk : Int) : World := (w.alloc (.cells #[.int .i64 A, .bool mk, .int .i64 lk] 155)).alloc (.cells #[.int .i64 0, .int .i64 0, .bool false, .int .i64 0] 157)
set_option maxHeartbeats 32000000 in
theorem best_step (cb b off cap n : Nat) (xs : List DItem) (hx : PIs xs) (wd most : Int) (hw : 0 ≤ wd ∧ wd ≤ 1000) (hm : 0 ≤ most ∧ most ≤ 10000) (B a : Nat) (A lk : Int) (mk : Bool) (w : World) (hA : A = (a : Int) - 1) (hmk : mk = markOf xs a) (hlk : 0 ≤ lk ∧ lk ≤ 3) (hn : n = xs.length) (han : a < n) (hc : Chs w cb b off cap n xs wd most B)
  (IH : ∀ (t : Nat) (l : Int) (w : World), a ≤ t → t < n → 0 ≤ l ∧ l ≤ 3 → Chs w cb b off cap n xs wd most B → Calls Tryz.prog 138 #[.pointer (some ⟨cb, 0, none⟩), .agg #[.int .i64 t, .bool (it xs t).mark, .int .i64 l]] w (BestPost xs wd most (t + 1) l B w)) :
  Calls Tryz.prog 138 #[.pointer (some ⟨cb, 0, none⟩), .agg #[.int .i64 A, .bool mk, .int .i64 lk]] w (BestPost xs wd most a lk B w) := by
 have AL1 := (Below.refl w.heap.size w).alloc (Nat.le_refl _) (.cells #[.int .i64 A, .bool mk, .int .i64 lk] 155)
 have AL2 := AL1.alloc (by simp) (.cells #[.int .i64 0, .int .i64 0, .bool false, .int .i64 0] 157)
 have R1 := (own3_made w (B := w.heap.size) (Nat.le_refl _) 155 (.int .i64 A) (.bool mk) (.int .i64 lk)).alloc (.cells #[.int .i64 0, .int .i64 0, .bool false, .int .i64 0] 157)
 have R2 := own4_made (w.alloc (.cells #[.int .i64 A, .bool mk, .int .i64 lk] 155)) (B := w.heap.size) (by simp) 157 (.int .i64 0) (.int .i64 0) (.bool false) (.int .i64 0)
 rw [show (w.alloc (.cells #[.int .i64 A, .bool mk, .int .i64 lk] 155)).heap.size = w.heap.size + 1 by simp] at R2
 have C2 := hc.below AL2
 have n60 : n ≤ 60 := by have := hx.len; omega
 have KE := keyOfEnd A lk mk (by omega) hlk
 have LK := C2.mm.look KE
 have hAn : (A == (n : Int) - 1) = false := by rw [beq_eq_false_iff_ne]; omega
 have c0 := C2.c0
 have c3 := C2.c3
 obtain ⟨r0, r1, r2⟩ := own3 R1
 obtain ⟨s0, s1, s2, s3⟩ := own4 R2
 have z0 := World.ownsRow.frozenAt R2 0
 have z1 := World.ownsRow.frozenAt R2 1
 have z2 := World.ownsRow.frozenAt R2 2
 have z3 := World.ownsRow.frozenAt R2 3
 have hsz : (W2 w A mk lk).heap.size = w.heap.size + 2 := by simp
 have hlts := hc.lts
 rcases LK with LK | ⟨val, hval, LK⟩
 ·unfold endV at LK
  have L1 := LK ((W2 w A mk lk).drew.drew) rfl
  have AL3 : Below (W2 w A mk lk).heap.size (W2 w A mk lk) ((W2 w A mk lk).alloc (.cells #[.int .i64 0, .int .i64 0, .bool false, .int .i64 0] 157)) := (Below.refl _ _).alloc (Nat.le_refl _) _
  have L2 := LK ((W2 w A mk lk).alloc (.cells #[.int .i64 0, .int .i64 0, .bool false, .int .i64 0] 157)).drew.drew (AL3.block B C2.mm.lt)
  have C3 := C2.below AL3
  have c33 := C3.c3
  have c00 := C3.c0
  have R13 := owns_below R1 AL3
  obtain ⟨r00, r11, r22⟩ := own3 R13
  have R3 := own4_made (W2 w A mk lk) (B := w.heap.size) (by omega) 157 (.int .i64 0) (.int .i64 0) (.bool false) (.int .i64 0)
  rw [hsz] at R3
  obtain ⟨t0, t1, t2, t3⟩ := own4 R3
  have y0 := World.ownsRow.frozenAt R3 0
  have y1 := World.ownsRow.frozenAt R3 1
  have y2 := World.ownsRow.frozenAt R3 2
  have y3 := World.ownsRow.frozenAt R3 3
  have hsz3 : ((W2 w A mk lk).alloc (.cells #[.int .i64 0, .int .i64 0, .bool false, .int .i64 0] 157)).heap.size = w.heap.size + 3 := by simp
  have AL4 : Below ((W2 w A mk lk).alloc (.cells #[.int .i64 0, .int .i64 0, .bool false, .int .i64 0] 157)).heap.size ((W2 w A mk lk).alloc (.cells #[.int .i64 0, .int .i64 0, .bool false, .int .i64 0] 157)) (((W2 w A mk lk).alloc (.cells #[.int .i64 0, .int .i64 0, .bool false, .int .i64 0] 157)).alloc (.cells #[.int .i64 (-1), .int .i64 0, .bool false, .int .i64 0] 157)) := (Below.refl _ _).alloc (Nat.le_refl _) _
  have R4 := own4_made ((W2 w A mk lk).alloc (.cells #[.int .i64 0, .int .i64 0, .bool false, .int .i64 0] 157)) (B := w.heap.size) (by omega) 157 (.int .i64 (-1)) (.int .i64 0) (.bool false) (.int .i64 0)
  rw [hsz3] at R4
  have C4 := (C3.below AL4)
  have c04 := C4.c0
  have LS := Lib.hid (Loc.mk (owns_below R13 AL4) (owns_below (owns_below R2 AL3) AL4) R4).drew.drew
  have CS := Lib.hid C4.drew.drew
  have GS := Lib.hid (grownBy_drew (grownBy_drew (grownBy_trans (grown_of_below AL2 (some B)) (grownBy_trans (grown_of_below AL3 (some B)) (grown_of_below AL4 (some B))))))
  obtain ⟨T, hT⟩ : ∃ T, T = best xs wd most := ⟨_, rfl⟩
  have hTT := Lib.hid hT
  have HBE : Hid (best xs wd most a lk = chooseTo xs wd most T a lk (n - a)) := by show _ = _; rw [hT, hn]; exact best_at xs wd most a lk (by omega)
  have CT0 : Hid (chooseTo xs wd most T a lk 0 = none) := rfl
  have CTS : Hid (∀ k, chooseTo xs wd most T a lk (k + 1) = stepB xs wd most T a lk (chooseTo xs wd most T a lk k) (n - 1 - k)) := fun k => by rw [hn]; rfl
  unfold W2 at L1 L2 c33 c00 c04 r00 r11 r22 t0 t1 t2 t3 y0 y1 y2 y3 LS CS GS
  clear LK KE AL1 AL2 AL3 AL4 R1 R2 R13 R3 R4 C2 C3 C4 hsz hsz3 hc
  have HN := Lib.hid hn
  have HA := Lib.hid hA
  have HLT := Lib.hid hlts
  have HMK := Lib.hid hmk
  have HIH := Lib.hid IH
  have HW := Lib.hid hw
  have HM := Lib.hid hm
  have HAN := Lib.hid han
  clear hn hA hlts hmk IH hw hm
  go_enter Tryz.func138, Tryz.ntmps138
  go_wp2
  go_region
  all_goals go_wp2_with fail
  go_cut [5, 6] from 22 to 30 (fun _ v6 wx => v6 = .bool false ∧ wx = ((W2 w A mk lk).alloc (.cells #[.int .i64 0, .int .i64 0, .bool false, .int .i64 0] 157)).drew.drew)
  case first =>
   go_region
   all_goals (go_wp2_with fail; go_meet; exact ⟨rfl, rfl⟩)
  case rest =>
    obtain ⟨rfl, rfl⟩ := hcut
    go_wp2
    go_loopw [8] (fun i wr => ∃ k : Nat, k ≤ n - a ∧ i = .int .i64 ((n : Int) - 1 - k) ∧ Hid (Chs wr cb b off cap n xs wd most B) ∧ Hid (Loc wr w.heap.size A mk lk (accM (chooseTo xs wd most T a lk k)) (accT (chooseTo xs wd most T a lk k)) (accK xs (chooseTo xs wd most T a lk k)) (accL xs wd a (chooseTo xs wd most T a lk k))) ∧ Hid (w.grownBy wr (some B))) (fun i _ => (intOf i - A).toNat)
    case atStart => exact ⟨0, Nat.zero_le _, by go_num, CS.out, LS.out, GS.out⟩
    case round =>
     obtain ⟨k, hk, rfl, hC, hL, hG⟩ := hrel
     clear CS LS GS L1 L2 c33 c00 c04 r00 r11 r22 t0 t1 t2 t3 y0 y1 y2 y3 c0 c3 r0 r1 r2 s0 s1 s2 s3 z0 z1 z2 z3 CT0
     have c0 := hC.out.c0
     have c1 := hC.out.c1
     have c2 := hC.out.c2
     have c3 := hC.out.c3
     obtain ⟨r0, r1, r2⟩ := own3 hL.out.r1
     by_cases hlt : k < n - a
     ·obtain ⟨t, ht⟩ : ∃ t : Nat, (t : Int) = (n : Int) - 1 - k := ⟨n - 1 - k, by have := HAN.out; omega⟩
      rw [← ht]
      have htk : n - 1 - k = t := by omega
      have hat : a ≤ t := by omega
      have htn : t < n := by omega
      have hgt : A < (t : Int) := by have := HA.out; omega
      have CTk := CTS.out k
      rw [htk] at CTk
      have LC := Lib.hid (fun (w' : World) (hb : Below wr.heap.size wr w') => (HA.out ▸ implCostOf_any b off cap n a t xs hx w' (hC.out.it.below hb) hat htn wd most HW.out HM.out mk lk (fun h0 => by rw [HMK.out]; unfold markOf; rw [decide_eq_true h0]; rfl) hlk : Calls Tryz.prog 165 #[.slice (some ⟨b, off, none⟩) n cap, .int .i64 wd, .int .i64 most, .agg #[.int .i64 A, .bool mk, .int .i64 lk], .int .i64 t] w' (Ret (costV2 xs wd most a t lk) w')))
      have HT := Lib.hid ht
      have HTK := Lib.hid htk
      clear ht htk
      obtain ⟨CV, E0, EK, EL, hCV, hCE⟩ := costV2_form xs wd most a t lk
      rw [hCV] at LC
      have AZ : Below wr.heap.size wr (wr.alloc (.cells #[.int .i64 0, .bool false, .int .i64 0] 155)) := (Below.refl _ _).alloc (Nat.le_refl _) _
      have QZ := own3_made wr (B := wr.heap.size) (Nat.le_refl _) 155 (.int .i64 0) (.bool false) (.int .i64 0)
      have CA := hC.out.below AZ
      have ca0 := CA.c0
      have ca1 := CA.c1
      have ca2 := CA.c2
      obtain ⟨ra0, ra1, ra2⟩ := own3 (hL.out.below AZ).r1
      have BW1 : Hid (Below wr.heap.size wr wr.drew) := (Below.refl _ _).drew
      have BW2 : Hid (Below wr.heap.size wr (wr.alloc (.cells #[.int .i64 0, .bool false, .int .i64 0] 155)).drew) := AZ.drew
      have HQ := Lib.hid QZ.drew
      have HWR := Lib.hid hL.out.lt
      have HNP : Hid (cb ≠ wr.heap.size ∧ w.heap.size ≠ wr.heap.size) := ⟨by have := hC.out.lts; omega, by have := hL.out.lt; omega⟩
      clear AZ QZ CA hCV
      go_wp2_with fail
      go_cut [9, 10] from 46 to 63 (fun v9 v10 wx => ∃ g, v9 = .int .i64 CV ∧ v10 = .pointer (some ⟨g, 0, none⟩) ∧ Hid (wx.ownsRow wr.heap.size 155 3 (.slice (some ⟨g, 0, none⟩) 1 1) 1 [.int .i64 E0, .bool EK, .int .i64 EL]) ∧ Hid (Below wr.heap.size wr wx))
      case first =>
       have k1 : wr.drew.cell? ⟨cb, 0, none⟩ = some (.slice (some ⟨b, off, none⟩) n cap) ∧ wr.drew.cell? ⟨cb, 1, none⟩ = some (.int .i64 wd) ∧ wr.drew.cell? ⟨cb, 2, none⟩ = some (.int .i64 most) ∧ wr.drew.cell? ⟨w.heap.size, 0, none⟩ = some (.int .i64 A) ∧ wr.drew.cell? ⟨w.heap.size, 1, none⟩ = some (.bool mk) ∧ wr.drew.cell? ⟨w.heap.size, 2, none⟩ = some (.int .i64 lk) := ⟨c0, c1, c2, r0, r1, r2⟩
       have k2 : (wr.alloc (.cells #[.int .i64 0, .bool false, .int .i64 0] 155)).drew.cell? ⟨cb, 0, none⟩ = some (.slice (some ⟨b, off, none⟩) n cap) ∧ (wr.alloc (.cells #[.int .i64 0, .bool false, .int .i64 0] 155)).drew.cell? ⟨cb, 1, none⟩ = some (.int .i64 wd) ∧ (wr.alloc (.cells #[.int .i64 0, .bool false, .int .i64 0] 155)).drew.cell? ⟨cb, 2, none⟩ = some (.int .i64 most) ∧ (wr.alloc (.cells #[.int .i64 0, .bool false, .int .i64 0] 155)).drew.cell? ⟨w.heap.size, 0, none⟩ = some (.int .i64 A) ∧ (wr.alloc (.cells #[.int .i64 0, .bool false, .int .i64 0] 155)).drew.cell? ⟨w.heap.size, 1, none⟩ = some (.bool mk) ∧ (wr.alloc (.cells #[.int .i64 0, .bool false, .int .i64 0] 155)).drew.cell? ⟨w.heap.size, 2, none⟩ = some (.int .i64 lk) := ⟨ca0, ca1, ca2, ra0, ra1, ra2⟩
       go_region_held3 (fun w' => w'.cell? ⟨cb, 0, none⟩ = some (.slice (some ⟨b, off, none⟩) n cap) ∧ w'.cell? ⟨cb, 1, none⟩ = some (.int .i64 wd) ∧ w'.cell? ⟨cb, 2, none⟩ = some (.int .i64 most) ∧ w'.cell? ⟨w.heap.size, 0, none⟩ = some (.int .i64 A) ∧ w'.cell? ⟨w.heap.size, 1, none⟩ = some (.bool mk) ∧ w'.cell? ⟨w.heap.size, 2, none⟩ = some (.int .i64 lk)) (first | with_reducible exact k1 | with_reducible exact k2 | with_reducible exact k3 | with_reducible exact keep6 k3 ((Below.refl _ _).alloc (Nat.le_refl _) _) | with_reducible exact keep6g k3 (own3_set R3 _ _ _).2 HNP.out.1 HNP.out.2) (first | (go_at_call 165; refine (LC.out _ ?hb).mono ?_; (case hb => (first | with_reducible exact BW1.out | with_reducible exact BW2.out)); rintro e w3 ⟨rfl, hb3⟩; (first | (with_reducible have k3 := keep6 k1 hb3) | ((with_reducible have k3 := keep6 k2 hb3); have R3 := owns_below HQ.out hb3; obtain ⟨q0, q1, q2⟩ := own3 R3; have f0 := World.ownsRow.frozenAt R3 0; have f1 := World.ownsRow.frozenAt R3 1; have f2 := World.ownsRow.frozenAt R3 2))))
       all_goals (
        go_wp2_with fail
        go_meet
        first
         | exact ⟨_, rfl, rfl, own3_made w3 (by have := hb3.size; exact this) _ _ _ _, (below_next BW1.out hb3 (Nat.le_refl _)).alloc (by have := hb3.size; exact this) _⟩
         | exact ⟨_, rfl, rfl, (own3_set (owns_below HQ.out hb3) _ _ _).1, (below_next BW2.out hb3 (Nat.le_refl _)).grown (own3_set (owns_below HQ.out hb3) _ _ _).2 (by have := BW2.out.size; have := hb3.size; omega) (fun k' hk' => by cases hk'; exact Nat.le_refl _)⟩)
      case rest =>
       obtain ⟨g, rfl, rfl, hE, hb⟩ := hcut
       obtain ⟨Q, hQ⟩ : ∃ Q, Q = chooseTo xs wd most T a lk k := ⟨_, rfl⟩
       rw [← hQ] at hL CTk
       obtain ⟨M, hM⟩ : ∃ M, M = accM Q := ⟨_, rfl⟩
       obtain ⟨T', hT'⟩ : ∃ M, M = accT Q := ⟨_, rfl⟩
       obtain ⟨K, hK⟩ : ∃ M, M = accK xs Q := ⟨_, rfl⟩
       obtain ⟨L, hLL⟩ : ∃ M, M = accL xs wd a Q := ⟨_, rfl⟩
       have HQE : Hid (M = accM Q ∧ T' = accT Q ∧ K = accK xs Q ∧ L = accL xs wd a Q) := ⟨hM, hT', hK, hLL⟩
       have QM := Lib.hid hM
       rw [← hM, ← hT', ← hK, ← hLL] at hL
       have QB : ∀ m u, Q = some (m, u) → 0 ≤ m := fun m u h => by
        obtain ⟨_, _, _, c', lk', q', u', d1, d2, rfl⟩ := chooseTo_good xs wd most T a lk k (by have := HN.out; omega) m u (by rw [← hQ]; exact h)
        have := lineC_bd hx.ok HM.out.2 (by have := chooseTo_good xs wd most T a lk k (by have := HN.out; omega) _ u (by rw [← hQ]; exact h); omega) d1
        have := between_bd xs a u lk lk'
        rw [hTT.out] at d2
        have := best_bd hx.ok HM.out.2 (xs.length) (u + 1) lk' q' u' (by omega) d2
        omega
       have QBD := Lib.hid QB
       have C5 := Lib.hid (hC.out.below hb.out)
       have L5 := Lib.hid (hL.out.below hb.out)
       have G5 := Lib.hid (grownBy_trans hG.out (grown_of_below hb.out (some B)))
       obtain ⟨e0, e1, e2⟩ := own3 hE.out
       have hgl := hE.out.lt g rfl
       clear hC hL hG c0 c1 c2 c3 r0 r1 r2 ca0 ca1 ca2 ra0 ra1 ra2 BW1 BW2 HQ HNP LC hb hQ hM hT' hK hLL QB
       rcases hCE with ⟨hl, hcv⟩ | ⟨c, hl, hcv, rfl, hek⟩
       ·have hcv0 : CV < 0 := by omega
        have CKL : Hid (∀ wx, Loc wx w.heap.size A mk lk M T' K L → Loc wx w.heap.size A mk lk (accM (chooseTo xs wd most T a lk (k + 1))) (accT (chooseTo xs wd most T a lk (k + 1))) (accK xs (chooseTo xs wd most T a lk (k + 1))) (accL xs wd a (chooseTo xs wd most T a lk (k + 1)))) := by
         intro wx h
         obtain ⟨f1, f2, f3, f4⟩ := HQE.out
         rw [CTk, stepB_none hl, ← f1, ← f2, ← f3, ← f4]
         exact h
        clear CTk
        clear hl hcv
        go_wp2_with fail
        first
         | exact ⟨⟨k + 1, by omega, by have := HT.out; go_num, C5.out, CKL.out _ L5.out, G5.out⟩, by (simp [intOf]) <;> (have := HT.out; omega)⟩
         | (go_roundw
            case rel => exact ⟨k + 1, by omega, by have := HT.out; go_num, C5.out, CKL.out _ L5.out, G5.out⟩
            case measure => (simp [intOf]) <;> (have := HT.out; omega))
       ·have lb := lineC_bd hx.ok HM.out.2 (by rw [← HN.out]; exact htn : t < xs.length) hl
        have bb := between_bd xs a t lk EL
        have HELL : Hid (EL = looksV (setB (lineG xs a t) wd).2 (setB (lineG xs a t) wd).1) := (lineC_some hl).2.2.2.2
        have hcv0 : ¬ CV < 0 := by omega
        have cvb : 0 ≤ CV ∧ CV ≤ 200300000 := by omega
        obtain ⟨cvb1, cvb2⟩ := cvb
        have IHt := Lib.hid (HIH.out t EL _ hat htn (by omega) C5.out)
        obtain ⟨rT, rK, rL, hform⟩ := valV_form xs wd most (t + 1) EL
        have hR0 : best xs wd most (t + 1) EL = T (t + 1) EL := by rw [hTT.out]
        have hRb : ∀ m u, T (t + 1) EL = some (m, u) → 0 ≤ m ∧ m ≤ 200300000 * 60 := fun m u h => by
         have := best_bd hx.ok HM.out.2 (xs.length) (t + 1) EL m u (by omega) (by rw [hR0]; exact h)
         have := hx.len
         omega
        rw [hR0] at hform
        unfold BestPost at IHt
        rw [hform] at IHt
        have HLg : Hid (g ≠ B ∧ w.heap.size + 3 < g) := ⟨by have := HLT.out; have := hgl.1; have := HWR.out; omega, by have := hgl.1; have := HWR.out; omega⟩
        have HCV := Lib.hid hcv
        have HE := hE
        obtain ⟨MK, hMK⟩ : ∃ b, b = (it xs t).mark := ⟨_, rfl⟩
        have HMK5 := Lib.hid hMK
        rw [← hMK] at IHt hek
        subst hek
        clear hform hR0 lb bb hcv hE hgl hMK
        cases hR : T (t + 1) EL with
        | none =>
         rw [hR] at IHt
         simp only [accM] at IHt
         have SB := Lib.hid (stepB_dead (bf := lk) (Q := Q) hl hR)
         clear hR hRb hl
         have CKL : Hid (∀ wx, Loc wx w.heap.size A mk lk M T' K L → Loc wx w.heap.size A mk lk (accM (chooseTo xs wd most T a lk (k + 1))) (accT (chooseTo xs wd most T a lk (k + 1))) (accK xs (chooseTo xs wd most T a lk (k + 1))) (accL xs wd a (chooseTo xs wd most T a lk (k + 1)))) := by
          intro wx h
          obtain ⟨f1, f2, f3, f4⟩ := HQE.out
          rw [CTk, SB.out, ← f1, ← f2, ← f3, ← f4]
          exact h
         clear CTk
         go_wp2_with (go_at_call 138; refine IHt.out.mono ?_; rintro e w6 ⟨rfl, hm6, hg6⟩; have AL7 : Below w6.heap.size w6 (w6.alloc (.cells #[.int .i64 (-1), .int .i64 rT, .bool rK, .int .i64 rL] 157)) := (Below.refl _ _).alloc (Nat.le_refl _) _; have L6 := L5.out.kept hg6 (fun k' e => by cases e; exact .inl HLT.out.2.2); have C7 := Lib.hid ((C5.out.memo hg6 hm6).below AL7); have L7 := Lib.hid (L6.below AL7); have E7 := owns_below (World.ownsRow.kept HE.out hg6 (.inr (fun e => HLg.out.1 (Option.some.inj e)))) AL7; have G7 := Lib.hid (grownBy_trans (grownBy_trans G5.out hg6) (grown_of_below AL7 (some B))); obtain ⟨v0, v1, v2, v3⟩ := own4 L7.out.r3; have y0 := World.ownsRow.frozenAt L7.out.r3 0; have y1 := World.ownsRow.frozenAt L7.out.r3 1; have y2 := World.ownsRow.frozenAt L7.out.r3 2; have y3 := World.ownsRow.frozenAt L7.out.r3 3; obtain ⟨x0, x1, x2⟩ := own3 E7; have F := Lib.hid (own4_set L7.out.r3 (.int .i64 (CV + 0)) (.int .i64 t) (.bool EK) (.int .i64 EL)); clear AL7 L6 E7 hm6 hg6)
         first
          | exact ⟨⟨k + 1, by omega, by have := HT.out; go_num, C7.out, CKL.out _ L7.out, G7.out⟩, by (simp [intOf]) <;> (have := HT.out; omega)⟩
          | (go_roundw
             case rel => exact ⟨k + 1, by omega, by have := HT.out; go_num, C7.out, CKL.out _ L7.out, G7.out⟩
             case measure => (simp [intOf]) <;> (have := HT.out; omega))
        | some p =>
         obtain ⟨r, ru⟩ := p
         obtain ⟨rb1, rb2⟩ := hRb r ru hR
         rw [hR] at IHt
         simp only [accM] at IHt
         clear hRb
         cases Q with
         | none =>
          have hM1 : M = -1 := QM.out
          subst hM1
          have SB := Lib.hid (stepB_first (bf := lk) hl hR)
          clear hR hl
          have CKL : Hid (∀ wx, Loc wx w.heap.size A mk lk (CV + r) t (it xs t).mark EL → Loc wx w.heap.size A mk lk (accM (chooseTo xs wd most T a lk (k + 1))) (accT (chooseTo xs wd most T a lk (k + 1))) (accK xs (chooseTo xs wd most T a lk (k + 1))) (accL xs wd a (chooseTo xs wd most T a lk (k + 1)))) := by
           intro wx h
           rw [CTk, SB.out]
           show Loc wx w.heap.size A mk lk (c + r + between xs a t lk EL) (t : Int) (it xs t).mark (looksV (setB (lineG xs a t) wd).2 (setB (lineG xs a t) wd).1)
           rw [← HELL.out, show c + r + between xs a t lk EL = CV + r by have := HCV.out; omega]
           exact h
          clear CTk
          go_wp2_with (go_at_call 138; refine IHt.out.mono ?_; rintro e w6 ⟨rfl, hm6, hg6⟩; have AL7 : Below w6.heap.size w6 (w6.alloc (.cells #[.int .i64 r, .int .i64 rT, .bool rK, .int .i64 rL] 157)) := (Below.refl _ _).alloc (Nat.le_refl _) _; have L6 := L5.out.kept hg6 (fun k' e => by cases e; exact .inl HLT.out.2.2); have C7 := Lib.hid ((C5.out.memo hg6 hm6).below AL7); have L7 := Lib.hid (L6.below AL7); have E7 := owns_below (World.ownsRow.kept HE.out hg6 (.inr (fun e => HLg.out.1 (Option.some.inj e)))) AL7; have G7 := Lib.hid (grownBy_trans (grownBy_trans G5.out hg6) (grown_of_below AL7 (some B))); obtain ⟨v0, v1, v2, v3⟩ := own4 L7.out.r3; have y0 := World.ownsRow.frozenAt L7.out.r3 0; have y1 := World.ownsRow.frozenAt L7.out.r3 1; have y2 := World.ownsRow.frozenAt L7.out.r3 2; have y3 := World.ownsRow.frozenAt L7.out.r3 3; obtain ⟨x0, x1, x2⟩ := own3 E7; have F := Lib.hid (own4_set L7.out.r3 (.int .i64 (CV + r)) (.int .i64 t) (.bool EK) (.int .i64 EL)); clear AL7 L6 E7 hm6 hg6)
          have L8 := Lib.hid (Loc.set4 L7.out F.out)
          rw [← HMK5.out] at CKL
          have C8 := Lib.hid (C7.out.kept F.out.2 (fun e => by have := Option.some.inj e; have := HLT.out; omega) (fun e => by have := Option.some.inj e; have := HLT.out; omega) (fun e => by have := Option.some.inj e; have := HLT.out; omega))
          have G8 := Lib.hid (grown_new G7.out F.out.2 (by omega))
          first
           | exact ⟨⟨k + 1, by omega, by have := HT.out; go_num, C8.out, CKL.out _ L8.out, G8.out⟩, by (simp [intOf]) <;> (have := HT.out; omega)⟩
           | (go_roundw
              case rel => exact ⟨k + 1, by omega, by have := HT.out; go_num, C8.out, CKL.out _ L8.out, G8.out⟩
              case measure => (simp [intOf]) <;> (have := HT.out; omega))
         | some p =>
          obtain ⟨m, mu⟩ := p
          have hM1 : M = m := QM.out
          subst hM1
          have mneg : ¬ M < 0 := by have := QBD.out M mu rfl; omega
          by_cases hcm : CV + r < M
          ·have SB := Lib.hid (stepB_lt (bf := lk) (u := mu) hl hR (show c + r + between xs a t lk EL < M by have := HCV.out; omega))
           clear hR hl
           have CKL : Hid (∀ wx, Loc wx w.heap.size A mk lk (CV + r) t (it xs t).mark EL → Loc wx w.heap.size A mk lk (accM (chooseTo xs wd most T a lk (k + 1))) (accT (chooseTo xs wd most T a lk (k + 1))) (accK xs (chooseTo xs wd most T a lk (k + 1))) (accL xs wd a (chooseTo xs wd most T a lk (k + 1)))) := by
            intro wx h
            rw [CTk, SB.out]
            show Loc wx w.heap.size A mk lk (c + r + between xs a t lk EL) (t : Int) (it xs t).mark (looksV (setB (lineG xs a t) wd).2 (setB (lineG xs a t) wd).1)
            rw [← HELL.out, show c + r + between xs a t lk EL = CV + r by have := HCV.out; omega]
            exact h
           clear CTk
           go_wp2_with (go_at_call 138; refine IHt.out.mono ?_; rintro e w6 ⟨rfl, hm6, hg6⟩; have AL7 : Below w6.heap.size w6 (w6.alloc (.cells #[.int .i64 r, .int .i64 rT, .bool rK, .int .i64 rL] 157)) := (Below.refl _ _).alloc (Nat.le_refl _) _; have L6 := L5.out.kept hg6 (fun k' e => by cases e; exact .inl HLT.out.2.2); have C7 := Lib.hid ((C5.out.memo hg6 hm6).below AL7); have L7 := Lib.hid (L6.below AL7); have E7 := owns_below (World.ownsRow.kept HE.out hg6 (.inr (fun e => HLg.out.1 (Option.some.inj e)))) AL7; have G7 := Lib.hid (grownBy_trans (grownBy_trans G5.out hg6) (grown_of_below AL7 (some B))); obtain ⟨v0, v1, v2, v3⟩ := own4 L7.out.r3; have y0 := World.ownsRow.frozenAt L7.out.r3 0; have y1 := World.ownsRow.frozenAt L7.out.r3 1; have y2 := World.ownsRow.frozenAt L7.out.r3 2; have y3 := World.ownsRow.frozenAt L7.out.r3 3; obtain ⟨x0, x1, x2⟩ := own3 E7; have F := Lib.hid (own4_set L7.out.r3 (.int .i64 (CV + r)) (.int .i64 t) (.bool EK) (.int .i64 EL)); clear AL7 L6 E7 hm6 hg6)
           have L8 := Lib.hid (Loc.set4 L7.out F.out)
           rw [← HMK5.out] at CKL
           have C8 := Lib.hid (C7.out.kept F.out.2 (fun e => by have := Option.some.inj e; have := HLT.out; omega) (fun e => by have := Option.some.inj e; have := HLT.out; omega) (fun e => by have := Option.some.inj e; have := HLT.out; omega))
           have G8 := Lib.hid (grown_new G7.out F.out.2 (by omega))
           first
            | exact ⟨⟨k + 1, by omega, by have := HT.out; go_num, C8.out, CKL.out _ L8.out, G8.out⟩, by (simp [intOf]) <;> (have := HT.out; omega)⟩
            | (go_roundw
               case rel => exact ⟨k + 1, by omega, by have := HT.out; go_num, C8.out, CKL.out _ L8.out, G8.out⟩
               case measure => (simp [intOf]) <;> (have := HT.out; omega))
          ·have SB := Lib.hid (stepB_ge (bf := lk) (u := mu) hl hR (show ¬ c + r + between xs a t lk EL < M by have := HCV.out; omega))
           clear hR hl
           have CKL : Hid (∀ wx, Loc wx w.heap.size A mk lk M T' K L → Loc wx w.heap.size A mk lk (accM (chooseTo xs wd most T a lk (k + 1))) (accT (chooseTo xs wd most T a lk (k + 1))) (accK xs (chooseTo xs wd most T a lk (k + 1))) (accL xs wd a (chooseTo xs wd most T a lk (k + 1)))) := by
            intro wx h
            obtain ⟨f1, f2, f3, f4⟩ := HQE.out
            rw [CTk, SB.out, ← f1, ← f2, ← f3, ← f4]
            exact h
           clear CTk
           go_wp2_with (go_at_call 138; refine IHt.out.mono ?_; rintro e w6 ⟨rfl, hm6, hg6⟩; have AL7 : Below w6.heap.size w6 (w6.alloc (.cells #[.int .i64 r, .int .i64 rT, .bool rK, .int .i64 rL] 157)) := (Below.refl _ _).alloc (Nat.le_refl _) _; have L6 := L5.out.kept hg6 (fun k' e => by cases e; exact .inl HLT.out.2.2); have C7 := Lib.hid ((C5.out.memo hg6 hm6).below AL7); have L7 := Lib.hid (L6.below AL7); have E7 := owns_below (World.ownsRow.kept HE.out hg6 (.inr (fun e => HLg.out.1 (Option.some.inj e)))) AL7; have G7 := Lib.hid (grownBy_trans (grownBy_trans G5.out hg6) (grown_of_below AL7 (some B))); obtain ⟨v0, v1, v2, v3⟩ := own4 L7.out.r3; have y0 := World.ownsRow.frozenAt L7.out.r3 0; have y1 := World.ownsRow.frozenAt L7.out.r3 1; have y2 := World.ownsRow.frozenAt L7.out.r3 2; have y3 := World.ownsRow.frozenAt L7.out.r3 3; obtain ⟨x0, x1, x2⟩ := own3 E7; have F := Lib.hid (own4_set L7.out.r3 (.int .i64 (CV + r)) (.int .i64 t) (.bool EK) (.int .i64 EL)); clear AL7 L6 E7 hm6 hg6)
           first
            | exact ⟨⟨k + 1, by omega, by have := HT.out; go_num, C7.out, CKL.out _ L7.out, G7.out⟩, by (simp [intOf]) <;> (have := HT.out; omega)⟩
            | (go_roundw
               case rel => exact ⟨k + 1, by omega, by have := HT.out; go_num, C7.out, CKL.out _ L7.out, G7.out⟩
               case measure => (simp [intOf]) <;> (have := HT.out; omega))
     ·obtain rfl : k = n - a := by omega
      have eA : ((n : Int) - 1 - ((n - a : Nat) : Int)) = A := by have := HA.out; omega
      rw [eA]
      obtain ⟨Q, hQ⟩ : ∃ Q, Q = chooseTo xs wd most T a lk (n - a) := ⟨_, rfl⟩
      rw [← hQ] at hL
      obtain ⟨M, hM⟩ : ∃ M, M = accM Q := ⟨_, rfl⟩
      obtain ⟨T', hT'⟩ : ∃ M, M = accT Q := ⟨_, rfl⟩
      obtain ⟨K, hK⟩ : ∃ M, M = accK xs Q := ⟨_, rfl⟩
      obtain ⟨L, hLL⟩ : ∃ M, M = accL xs wd a Q := ⟨_, rfl⟩
      have HV : Hid (valV xs wd most a lk = .agg #[.int .i64 M, .int .i64 T', .bool K, .int .i64 L]) := by
       show _ = _
       rw [valV_at (by rw [← HN.out]; exact han), HBE.out, ← hQ, ← hM, ← hT', ← hK, ← hLL]
      rw [← hM, ← hT', ← hK, ← hLL] at hL
      obtain ⟨w8, hrun, hm8, hg8⟩ := hC.out.drew.mm.put KS61_len (key := .agg #[.int .i64 A, .bool mk, .int .i64 lk]) (val := .agg #[.int .i64 M, .int .i64 T', .bool K, .int .i64 L]) (keyOfEnd A lk mk (by have := HA.out; omega) hlk).choose_spec (by
       have := KS61_mem a (by omega) mk lk hlk
       rw [← HA.out] at this
       exact this) ⟨a, lk, by rw [← HA.out, ← HMK.out]; rfl, HV.out.symm⟩
      have L8 := hL.out.drew.kept hg8 (fun k' e => by cases e; exact .inl HLT.out.2.2)
      obtain ⟨v0, v1, v2, v3⟩ := own4 L8.r3
      obtain ⟨x0, x1, x2, x3⟩ := own4 L8.r2
      have y0 := World.ownsRow.frozenAt L8.r2 0
      have y1 := World.ownsRow.frozenAt L8.r2 1
      have y2 := World.ownsRow.frozenAt L8.r2 2
      have y3 := World.ownsRow.frozenAt L8.r2 3
      have F := own4_set L8.r2 (.int .i64 M) (.int .i64 T') (.bool K) (.int .i64 L)
      obtain ⟨f0, f1, f2, f3⟩ := own4 F.1
      have FM := Lib.hid (hm8.kept F.2 (show some B ≠ some (w.heap.size + 1) from fun e => by have := Option.some.inj e; have := HLT.out; omega))
      have FG := Lib.hid (grown_new (grownBy_trans (grownBy_drew hG.out) hg8) F.2 (by omega))
      obtain ⟨u0, u1, u2, u3⟩ := own4 hL.out.drew.r3
      obtain ⟨c0', c1', c2'⟩ := own3 hL.out.drew.r1
      have c3' := hC.out.drew.c3
      clear hC hL hG L8 F hm8 hg8 hM hT' hK hLL hQ eA
      go_wp2_with fail
      go_region
      all_goals (
       go_wp2
       refine bodyPost_ret (v := .agg #[.int .i64 M, .int .i64 T', .bool K, .int .i64 L]) (by simp [results, Tryz.results138, go_sem, f0, f1, f2, f3]) rfl ⟨by rw [HV.out], FM.out, FG.out⟩)
 ·unfold endV at LK
  have hval2 : MOk xs wd most (endV ((a : Int) - 1) mk lk) val := by rw [← hA]; exact hval
  have hv := hval2.val
  clear hval hval2
  rw [valV_at (by omega)] at hv
  obtain ⟨vM, hvM⟩ : ∃ x, x = accM (best xs wd most a lk) := ⟨_, rfl⟩
  obtain ⟨vT, hvT⟩ : ∃ x, x = accT (best xs wd most a lk) := ⟨_, rfl⟩
  obtain ⟨vK, hvK⟩ : ∃ x, x = accK xs (best xs wd most a lk) := ⟨_, rfl⟩
  obtain ⟨vL, hvL⟩ : ∃ x, x = accL xs wd a (best xs wd most a lk) := ⟨_, rfl⟩
  have HV := Lib.hid (valV_at (xs := xs) (wd := wd) (most := most) (a := a) (lk := lk) (by omega))
  rw [← hvM, ← hvT, ← hvK, ← hvL] at hv HV
  subst hv
  have L1 := LK ((W2 w A mk lk).drew.drew) rfl
  have AL3 : Below (W2 w A mk lk).heap.size (W2 w A mk lk) ((W2 w A mk lk).alloc (.cells #[.int .i64 0, .int .i64 0, .bool false, .int .i64 0] 157)) := (Below.refl _ _).alloc (Nat.le_refl _) _
  have L2 := LK ((W2 w A mk lk).alloc (.cells #[.int .i64 0, .int .i64 0, .bool false, .int .i64 0] 157)).drew.drew (AL3.block B C2.mm.lt)
  have c33 := (C2.below AL3).c3
  obtain ⟨r00, r11, r22⟩ := own3 (owns_below R1 AL3)
  have R3 := own4_made (W2 w A mk lk) (B := w.heap.size) (by omega) 157 (.int .i64 0) (.int .i64 0) (.bool false) (.int .i64 0)
  rw [hsz] at R3
  obtain ⟨t0, t1, t2, t3⟩ := own4 R3
  have y0 := World.ownsRow.frozenAt R3 0
  have y1 := World.ownsRow.frozenAt R3 1
  have y2 := World.ownsRow.frozenAt R3 2
  have y3 := World.ownsRow.frozenAt R3 3
  unfold W2 at L1 L2 c33 r00 r11 r22 t0 t1 t2 t3 y0 y1 y2 y3
  clear LK hvM hvT hvK hvL hA hn KE IH hmk hlk han hx hlts hsz
  go_enter Tryz.func138, Tryz.ntmps138
  go_wp2
  go_region
  go_wp2
  go_region
  all_goals (
   go_wp2
   have FB := ((((Below.refl w.heap.size w).alloc (Nat.le_refl _) (.cells #[.int .i64 A, .bool mk, .int .i64 lk] 155)).alloc (by simp) (.cells #[.int .i64 vM, .int .i64 vT, .bool vK, .int .i64 vL] 157)).alloc (by simp; omega) (.cells #[.int .i64 vM, .int .i64 vT, .bool vK, .int .i64 vL] 157))
   refine bodyPost_ret (v := .agg #[.int .i64 vM, .int .i64 vT, .bool vK, .int .i64 vL]) (by simp [results, Tryz.results138, go_sem]) rfl ⟨by rw [HV.out], (hc.below FB).mm.drew.drew, grownBy_drew (grownBy_drew (grown_of_below FB _))⟩)
end Go.Proofs.YtofnchdijanikaaGreatDoor
namespace Go.Proofs.YtofnchdijanikaaGreatDoor
open Go.RowKit
theorem lineArgs_any (b off cap n : Nat) (xs : List DItem) (hx : PIs xs) (w : World) (hc : ItC w b off n xs) (hn : 0 < n) (wd most : Int) (hw : 0 ≤ wd ∧ wd ≤ 1000) (hm : 0 ≤ most ∧ most ≤ 10000) : Calls Tryz.prog 137 #[.slice (some ⟨b, off, none⟩) n cap, .int .i64 wd, .int .i64 most] w (Ret (.bool true) w) := by
 have IV := Lib.hid (implItems_any b off cap n xs hx w hc)
 have I1 : Hid (inB wd 0 1000 = true) := inB_yes hw.1 hw.2
 have I2 : Hid (inB most 0 10000 = true) := inB_yes hm.1 hm.2
 have hn' : (0 : Int) < (n : Int) := by omega
 clear hx hc hw hm
 go_enter Tryz.func137, Tryz.ntmps137
 go_wp2_with (first | (go_at_call 164; refine IV.out.mono ?_; rintro e w2 ⟨rfl, hb2⟩) | (go_at_call 57; refine (in_any _ _ _ _).mono ?_; rintro e w' ⟨rfl, rfl⟩; rw [I1.out]) | (go_at_call 58; refine (isBad_any _ _).mono ?_; rintro e w' ⟨rfl, rfl⟩; rw [I2.out]))
 go_ret
 exact ⟨rfl, hb2⟩
theorem isHeight_any (n : Int) (w : World) : Calls Tryz.prog 88 #[.int .i64 n] w fun e w' => e = .returned (.bool (inB n 1 1000)) ∧ w = w' := by
 go_enter Tryz.func88, Tryz.ntmps88
 go_wp2_with (go_at_call 57; refine (in_any _ _ _ _).mono ?_; rintro e w' ⟨rfl, rfl⟩)
 go_ret
 exact ⟨rfl, rfl⟩
def encR (k : Bool) : List Value := [.int .i64 1, .bool k, .int .i64 0, .int .i64 0]
theorem encR_len (k : Bool) : (encR k).length = 4 := rfl
theorem encR_pos (k : Bool) : 0 < (encR k).length := by rw [encR_len]; decide
def RwC (w : World) (b off n : Nat) (ks : List Bool) : Prop := n = ks.length ∧ b < w.heap.size ∧ ∀ j, j < n → w.cell? ⟨b, off + j * 4, none⟩ = some (.int .i64 1) ∧ w.cell? ⟨b, off + j * 4 + 1, none⟩ = some (.bool (ks.getD j false)) ∧ w.cell? ⟨b, off + j * 4 + 2, none⟩ = some (.int .i64 0) ∧ w.cell? ⟨b, off + j * 4 + 3, none⟩ = some (.int .i64 0)
theorem RwC.below {w w' : World} {b off n : Nat} {ks : List Bool} (h : RwC w b off n ks) (hb : Below w.heap.size w w') : RwC w' b off n ks := by
 obtain ⟨h1, h2, h3⟩ := h
 refine ⟨h1, Nat.lt_of_lt_of_le h2 hb.size, fun j hj => ?_⟩
 obtain ⟨a0, a1, a2, a3⟩ := h3 j hj
 exact ⟨(hb.cell (p := ⟨b, off + j * 4, none⟩) h2).trans a0, (hb.cell (p := ⟨b, off + j * 4 + 1, none⟩) h2).trans a1, (hb.cell (p := ⟨b, off + j * 4 + 2, none⟩) h2).trans a2, (hb.cell (p := ⟨b, off + j * 4 + 3, none⟩) h2).trans a3⟩
theorem implRow_any (k : Bool) (w : World) : Calls Tryz.prog 140 #[.agg #[.int .i64 1, .bool k, .int .i64 0, .int .i64 0]] w (Ret (.bool true) w) := by
 have I1 : Hid (inB 1 1 1000 = true) := by show _ = _; decide
 have I2 : Hid (inB 0 0 1000 = true) := by show _ = _; decide
 have B0 := Lib.hid ((Below.refl w.heap.size w).alloc (Nat.le_refl _) (.cells #[.int .i64 1, .bool k, .int .i64 0, .int .i64 0] 94))
 go_enter Tryz.func140, Tryz.ntmps140
 go_wp2_with (first | (go_at_call 57; refine (in_any _ _ _ _).mono ?_; rintro e w' ⟨rfl, rfl⟩; first | rw [I1.out] | rw [I2.out]) | (go_at_call 88; refine (isHeight_any _ _).mono ?_; rintro e w' ⟨rfl, rfl⟩; rw [I1.out]))
 go_ret
 exact ⟨rfl, B0.out⟩
theorem specRow_any (k : Bool) (w : World) : Calls Tryz.prog 100 #[.agg #[.int .i64 1, .bool k, .int .i64 0, .int .i64 0]] w (Ret (.bool true) w) := by
 have I1 : Hid (inB 1 1 1000 = true) := by show _ = _; decide
 have I2 : Hid (inB 0 0 1000 = true) := by show _ = _; decide
 have B0 := Lib.hid ((Below.refl w.heap.size w).alloc (Nat.le_refl _) (.cells #[.int .i64 1, .bool k, .int .i64 0, .int .i64 0] 94))
 go_enter Tryz.func100, Tryz.ntmps100
 go_wp2_with (first | (go_at_call 34; refine (l1In_any _ _ _ _).mono ?_; rintro e w' ⟨rfl, rfl⟩; first | rw [I1.out] | rw [I2.out]))
 go_ret
 exact ⟨rfl, B0.out⟩
set_option maxHeartbeats 4000000 in
theorem implRows_any (b off cap n : Nat) (ks : List Bool) (w : World) (hc : RwC w b off n ks) (n30 : n ≤ 30) : Calls Tryz.prog 108 #[.slice (some ⟨b, off, none⟩) n cap] w (Ret (.bool true) w) := by
 have HC := Lib.hid hc
 clear hc
 go_enter Tryz.func108, Tryz.ntmps108
 go_wp2
 go_loopw [7] (fun i wr => ∃ k : Nat, k ≤ n ∧ i = .int .i64 k ∧ Hid (Below w.heap.size w wr)) (fun i _ => n - (intOf i).toNat)
 case atStart => exact ⟨0, Nat.zero_le _, rfl, Below.refl _ _⟩
 case round =>
  obtain ⟨k, hk, rfl, hb⟩ := hrel
  by_cases hlt : k < n
  ·obtain ⟨c0, c1, c2, c3⟩ := (HC.out.below hb.out).2.2 k hlt
   have hbl : b < wr.heap.size := Nat.lt_of_lt_of_le HC.out.2.1 hb.out.size
   obtain ⟨x, hxx⟩ : ∃ x, x = ks.getD k false := ⟨_, rfl⟩
   rw [← hxx] at c1
   have IV := Lib.hid (fun w => implRow_any x w)
   have BB := Lib.hid (hb.out.alloc hb.out.size (.cells #[.int .i64 1, .bool x, .int .i64 0, .int .i64 0] 94))
   clear hxx
   go_wp2_with (go_at_call 140; refine (IV.out _).mono ?_; rintro e w2 ⟨rfl, hb2⟩)
   have B2 := Lib.hid (below_next BB.out hb2 (Nat.le_refl _))
   clear hb2
   first
    | exact ⟨⟨k + 1, by omega, by go_num, B2.out⟩, by simp [intOf]; omega⟩
    | (go_roundw
       case rel => exact ⟨k + 1, by omega, by go_num, B2.out⟩
       case measure => simp [intOf]; omega)
  ·obtain rfl : k = n := by omega
   have n30' : (k : Int) ≤ 30 := by omega
   go_wp2
   go_ret
   exact ⟨rfl, hb.out⟩
set_option maxHeartbeats 4000000 in
theorem specRows_any (b off cap n : Nat) (ks : List Bool) (w : World) (hc : RwC w b off n ks) (n30 : n ≤ 30) : Calls Tryz.prog 81 #[.slice (some ⟨b, off, none⟩) n cap] w (Ret (.bool true) w) := by
 have HC := Lib.hid hc
 clear hc
 go_enter Tryz.func81, Tryz.ntmps81
 go_wp2
 go_loopw [3] (fun i wr => ∃ k : Nat, k ≤ n ∧ i = .int .i64 k ∧ Hid (Below w.heap.size w wr)) (fun i _ => n - (intOf i).toNat)
 case atStart => exact ⟨0, Nat.zero_le _, rfl, Below.refl _ _⟩
 case round =>
  obtain ⟨k, hk, rfl, hb⟩ := hrel
  by_cases hlt : k < n
  ·obtain ⟨c0, c1, c2, c3⟩ := (HC.out.below hb.out).2.2 k hlt
   have hbl : b < wr.heap.size := Nat.lt_of_lt_of_le HC.out.2.1 hb.out.size
   obtain ⟨x, hxx⟩ : ∃ x, x = ks.getD k false := ⟨_, rfl⟩
   rw [← hxx] at c1
   have IV := Lib.hid (fun w => specRow_any x w)
   have BB := Lib.hid (hb.out)
   clear hxx
   go_wp2_with (go_at_call 100; refine (IV.out _).mono ?_; rintro e w2 ⟨rfl, hb2⟩)
   have B2 := Lib.hid (below_next BB.out hb2 (Nat.le_refl _))
   clear hb2
   first
    | exact ⟨⟨k + 1, by omega, by go_num, B2.out⟩, by simp [intOf]; omega⟩
    | (go_roundw
       case rel => exact ⟨k + 1, by omega, by go_num, B2.out⟩
       case measure => simp [intOf]; omega)
  ·obtain rfl : k = n := by omega
   have n30' : (k : Int) ≤ 30 := by omega
   go_wp2
   go_ret
   exact ⟨rfl, hb.out⟩
end Go.Proofs.YtofnchdijanikaaGreatDoor

/-
  PROVED HERE: what the printer's lines need, part C13. Conditions: each theorem's own.
-/
import Derived.Test.YtofnchdijanikaaGreatDoorC12
import Derived.Maps.Own
import Derived.Maps.OwnOps
import Derived.Maps.Views
import Derived.DeepKeys4
import Derived.Carry
import Derived.BigQuiet
import Derived.Deep.RegionHeld3
set_option linter.unusedVariables false
set_option linter.unusedSimpArgs false
set_option maxRecDepth 100000
namespace Go.Proofs.YtofnchdijanikaaGreatDoor
open Go.RowKit
theorem own3 {w : World} {base g : Nat} {E : TypeId} {x y z : Value} (h : w.ownsRow base E 3 (.slice (some ⟨g, 0, none⟩) 1 1) 1 [x, y, z]) : w.cell? ⟨g, 0, none⟩ = some x ∧ w.cell? ⟨g, 1, none⟩ = some y ∧ w.cell? ⟨g, 2, none⟩ = some z :=
 ⟨h.cellAt 0 (by omega), h.cellAt 1 (by omega), h.cellAt 2 (by omega)⟩
theorem own3_made (w : World) {B : Nat} (hB : B ≤ w.heap.size) (E : TypeId) (x y z : Value) : (w.alloc (.cells #[x, y, z] E)).ownsRow B E 3 (.slice (some ⟨w.heap.size, 0, none⟩) 1 1) 1 [x, y, z] :=
 ⟨rfl, .inr ⟨w.heap.size, 1, #[x, y, z], rfl, hB, heap_alloc_new w _, Nat.le_refl _, by unfold maxLen; omega, rfl, rfl⟩⟩
theorem own3_put {w0 w : World} {base g : Nat} {E : TypeId} {x y z : Value} (h : w.ownsRow base E 3 (.slice (some ⟨g, 0, none⟩) 1 1) 1 [x, y, z]) (hb : Below w0.heap.size w0 w) (hg : w0.heap.size ≤ g) (a b c : Value) :
  Below w0.heap.size w0 (((w.setCell ⟨g, 0, none⟩ a).setCell ⟨g, 1, none⟩ b).setCell ⟨g, 2, none⟩ c) := by
 have s0 := h.stored 0 a
 have s1 := s0.1.stored 1 b
 have s2 := s1.1.stored 2 c
 have h0 := hb.size
 have h1 := s0.2.size
 have h2 := s1.2.size
 exact ((hb.grown s0.2 h0 (fun j hj => by cases hj; exact hg)).grown s1.2 (by omega) (fun j hj => by cases hj; exact hg)).grown s2.2 (by omega) (fun j hj => by cases hj; exact hg)
theorem own3_read {w : World} {base g : Nat} {E : TypeId} {x y z : Value} (h : w.ownsRow base E 3 (.slice (some ⟨g, 0, none⟩) 1 1) 1 [x, y, z]) (a b c : Value) :
  (w.setCell ⟨g, 0, none⟩ a).cell? ⟨g, 0, none⟩ = some a ∧ ((w.setCell ⟨g, 0, none⟩ a).setCell ⟨g, 1, none⟩ b).cell? ⟨g, 1, none⟩ = some b ∧ (((w.setCell ⟨g, 0, none⟩ a).setCell ⟨g, 1, none⟩ b).setCell ⟨g, 2, none⟩ c).cell? ⟨g, 2, none⟩ = some c := by
 have s0 := h.stored 0 a
 have s1 := s0.1.stored 1 b
 have s2 := s1.1.stored 2 c
 exact ⟨s0.1.cellAt 0 (by omega), s1.1.cellAt 1 (by omega), s2.1.cellAt 2 (by omega)⟩
def endV (at' : Int) (m : Bool) (lk : Int) : Value := .agg #[.int .i64 at', .bool m, .int .i64 lk]
def costV2 (xs : List DItem) (wd most : Int) (a t : Nat) (bl : Int) : Value :=
 match lineC xs wd most a t with
 | none => .tuple #[.int .i64 (-1), endV 0 false 0]
 | some (c, lk) => .tuple #[.int .i64 (c + between xs a t bl lk), endV t (it xs t).mark lk]
theorem lineC_is (xs : List DItem) (wd most : Int) (a t : Nat) : lineC xs wd most a t = if (lineBad xs a t wd).1 < 0 ∨ most < (lineBad xs a t wd).1 then none else some (costV (lineBad xs a t wd).1 (it xs t).cost, looksV (lineBad xs a t wd).2 (lineBad xs a t wd).1) := by
 unfold lineC lineBad
 by_cases h : lineB xs a t = true
 ·rw [if_pos h, if_pos h]
 ·rw [if_neg h, if_neg h, if_pos (.inl (by show (-1 : Int) < 0; decide))]
set_option maxHeartbeats 16000000 in
theorem implCostOf_any (b off cap n a t : Nat) (xs : List DItem) (hx : PIs xs) (w : World) (hc : ItC w b off n xs) (hat : a ≤ t) (htn : t < n) (wd most : Int) (hw : 0 ≤ wd ∧ wd ≤ 1000) (hm : 0 ≤ most ∧ most ≤ 10000) (bm : Bool) (bl : Int) (hbm : 0 < a → bm = (it xs (a - 1)).mark) (hbl : 0 ≤ bl ∧ bl ≤ 3) :
  Calls Tryz.prog 165 #[.slice (some ⟨b, off, none⟩) n cap, .int .i64 wd, .int .i64 most, .agg #[.int .i64 ((a : Int) - 1), .bool bm, .int .i64 bl], .int .i64 t] w (Ret (costV2 xs wd most a t bl) w) := by
 obtain ⟨A, hA⟩ : ∃ A, A = (a : Int) - 1 := ⟨_, rfl⟩
 have LB0 := fun w hc => implLineBad_any b off cap n a t xs hx w hc hat htn wd hw
 rw [← hA] at LB0 ⊢
 have HA := Lib.hid hA
 clear hA
 have AL1 := (Below.refl w.heap.size w).alloc (Nat.le_refl _) (.cells #[.int .i64 A, .bool bm, .int .i64 bl] 155)
 have AL2 := AL1.alloc (by simp) (.cells #[.int .i64 0, .bool false, .int .i64 0] 155)
 have RO := own3_made (w.alloc (.cells #[.int .i64 A, .bool bm, .int .i64 bl] 155)) (B := w.heap.size) (by simp) 155 (.int .i64 0) (.bool false) (.int .i64 0)
 rw [show (w.alloc (.cells #[.int .i64 A, .bool bm, .int .i64 bl] 155)).heap.size = w.heap.size + 1 by simp] at RO
 have BO : ((w.alloc (.cells #[.int .i64 A, .bool bm, .int .i64 bl] 155)).alloc (.cells #[.int .i64 0, .bool false, .int .i64 0] 155)).ownsRow w.heap.size 155 3 (.slice (some ⟨w.heap.size, 0, none⟩) 1 1) 1 [.int .i64 A, .bool bm, .int .i64 bl] := (own3_made w (B := w.heap.size) (Nat.le_refl _) _ _ _ _).alloc _
 have LBD := LB0 _ (hc.below AL2)
 have HC2 := Lib.hid (hc.below AL2)
 have HB0 := Lib.hid AL2
 have HRO := Lib.hid RO
 have HBO := Lib.hid BO
 have LC := Lib.hid (lineC_is xs wd most a t)
 have CVD : Hid (costV2 xs wd most a t bl = match lineC xs wd most a t with | none => .tuple #[.int .i64 (-1), endV 0 false 0] | some (c, lk) => .tuple #[.int .i64 (c + between xs a t bl lk), endV t (it xs t).mark lk]) := rfl
 have hcost := (hx.at (j := t) (by rw [← hc.1]; exact htn)).ok
 have hcc : (0 ≤ (it xs t).cost ∧ (it xs t).cost ≤ 10000) ∨ (it xs t).cost = -10000 := by
  rcases hcost.2 with h | h | h
  ·obtain ⟨_, _, _, _, h, _⟩ := h; omega
  ·obtain ⟨_, h, _⟩ := h; omega
  ·exact h.2.2.2.2
 have hci := item_cost hcost
 have BT : Hid (∀ lk, between xs a t bl lk = if 0 < a then (if ((it xs (a - 1)).mark && (it xs t).mark) = true then 3000 else 0) + (if 1 < max (bl - lk) (lk - bl) then 3000 else 0) else 0) := fun lk => rfl
 obtain ⟨R, hR⟩ : ∃ R, R = lineBad xs a t wd := ⟨_, rfl⟩
 rw [← hR] at LBD LC
 unfold BadPost at LBD
 obtain ⟨bad, st⟩ := R
 simp only at LBD LC
 have LBD := Lib.hid LBD
 generalize hT : costV2 xs wd most a t bl = T at CVD ⊢
 clear hT hR hx hcost RO BO AL1 AL2 hc LB0
 by_cases h1 : bad < 0
 ·have hno : bad < 0 ∨ most < bad := .inl h1
  have E : Hid (T = .tuple #[.int .i64 (-1), .agg #[.int .i64 0, .bool false, .int .i64 0]]) := by show _ = _; rw [CVD.out, LC.out, if_pos hno]; rfl
  clear hno LC CVD BT
  go_enter Tryz.func165, Tryz.ntmps165
  go_wp2_with (go_at_call 184; refine LBD.out.mono ?_; rintro e w3 ⟨rfl, hb3⟩; have R3 := owns_below HRO.out hb3; obtain ⟨r0, r1, r2⟩ := own3 R3; have y0 := World.ownsRow.frozenAt R3 0; have y1 := World.ownsRow.frozenAt R3 1; have y2 := World.ownsRow.frozenAt R3 2; have B3 := owns_below HBO.out hb3; obtain ⟨k0, k1, k2⟩ := own3 B3; have HR3 := Lib.hid R3; clear R3 B3)
  obtain ⟨rf0, rf1, rf2⟩ := own3_read HR3.out (.int .i64 0) (.bool false) (.int .i64 0)
  have BF := Lib.hid (own3_put HR3.out (below_next HB0.out hb3 (Nat.le_refl _)) (Nat.le_succ _) (.int .i64 0) (.bool false) (.int .i64 0))
  refine bodyPost_ret (v := .tuple #[.int .i64 (-1), .agg #[.int .i64 0, .bool false, .int .i64 0]]) (by simp [results, Tryz.results165, go_sem, rf0, rf1, rf2]) rfl ⟨by rw [E.out], BF.out⟩
 ·by_cases h2 : most < bad
  ·have hno : bad < 0 ∨ most < bad := .inr h2
   have E : Hid (T = .tuple #[.int .i64 (-1), .agg #[.int .i64 0, .bool false, .int .i64 0]]) := by show _ = _; rw [CVD.out, LC.out, if_pos hno]; rfl
   clear hno LC CVD BT
   go_enter Tryz.func165, Tryz.ntmps165
   go_wp2_with (go_at_call 184; refine LBD.out.mono ?_; rintro e w3 ⟨rfl, hb3⟩; have R3 := owns_below HRO.out hb3; obtain ⟨r0, r1, r2⟩ := own3 R3; have y0 := World.ownsRow.frozenAt R3 0; have y1 := World.ownsRow.frozenAt R3 1; have y2 := World.ownsRow.frozenAt R3 2; have B3 := owns_below HBO.out hb3; obtain ⟨k0, k1, k2⟩ := own3 B3; have HR3 := Lib.hid R3; clear R3 B3)
   obtain ⟨rf0, rf1, rf2⟩ := own3_read HR3.out (.int .i64 0) (.bool false) (.int .i64 0)
   have BF := Lib.hid (own3_put HR3.out (below_next HB0.out hb3 (Nat.le_refl _)) (Nat.le_succ _) (.int .i64 0) (.bool false) (.int .i64 0))
   refine bodyPost_ret (v := .tuple #[.int .i64 (-1), .agg #[.int .i64 0, .bool false, .int .i64 0]]) (by simp [results, Tryz.results165, go_sem, rf0, rf1, rf2]) rfl ⟨by rw [E.out], BF.out⟩
  ·have LC2 := LC.out
   rw [if_neg (fun h => by rcases h with h | h; exact h1 h; exact h2 h)] at LC2
   have E1 := CVD.out
   rw [LC2] at E1
   simp only at E1
   have lkb := looksV_bd st bad
   have LKA := Lib.hid (fun w => implLooks_any st bad (by omega) w)
   obtain ⟨cm, hcm⟩ : ∃ x, x = (it xs t).mark := ⟨_, rfl⟩
   obtain ⟨cc, hcx⟩ : ∃ x, x = (it xs t).cost := ⟨_, rfl⟩
   rw [← hcx] at E1 hcc hci
   have COA := Lib.hid (fun w => implCost_any bad cc (by omega) hcc w)
   have cvb := costV_bd (b := bad) (c := cc) (by omega) (by omega) hci.1 hci.2
   obtain ⟨lk, hlk⟩ : ∃ x, x = looksV st bad := ⟨_, rfl⟩
   rw [← hlk] at E1 lkb LKA
   obtain ⟨cv, hcv⟩ : ∃ x, x = costV bad cc := ⟨_, rfl⟩
   rw [← hcv] at E1 COA cvb
   have BL := BT.out lk
   rw [← hcm] at E1 BL
   obtain ⟨lkb1, lkb2⟩ := lkb
   obtain ⟨cvb1, cvb2⟩ := cvb
   obtain ⟨bl1, bl2⟩ := hbl
   obtain ⟨hm1, hm2⟩ := hm
   have HM6 := Lib.hid hcm
   have HM5 := Lib.hid hcx
   have EE := Lib.hid E1
   have HBL := Lib.hid BL
   have hbm2 := Lib.hid hbm
   clear LC LC2 CVD E1 BT hcm hcx hlk hcv BL hcc hci hw hbm
   go_enter Tryz.func165, Tryz.ntmps165
   go_wp2_with (go_at_call 184; refine LBD.out.mono ?_; rintro e w3 ⟨rfl, hb3⟩; have R3 := owns_below HRO.out hb3; obtain ⟨r0, r1, r2⟩ := own3 R3; have y0 := World.ownsRow.frozenAt R3 0; have y1 := World.ownsRow.frozenAt R3 1; have y2 := World.ownsRow.frozenAt R3 2; have B3 := owns_below HBO.out hb3; obtain ⟨k0, k1, k2⟩ := own3 B3; have HR3 := Lib.hid R3; clear R3 B3; obtain ⟨i0, i1, i2, i3, i4, i5, i6⟩ := (HC2.out.below hb3).2.2 t htn; rw [← HM5.out] at i5; rw [← HM6.out] at i6)
   have AL4 : Below w3.heap.size w3 (w3.alloc (.cells #[.int .i64 t, .bool cm, .int .i64 lk] 155)) := (Below.refl w3.heap.size w3).alloc (Nat.le_refl _) _
   have R4 := owns_below HR3.out AL4
   obtain ⟨s0, s1, s2⟩ := own3 R4
   have z0 := World.ownsRow.frozenAt R4 0
   have z1 := World.ownsRow.frozenAt R4 1
   have z2 := World.ownsRow.frozenAt R4 2
   obtain ⟨b0, b1, b2⟩ := own3 (owns_below HBO.out (below_next hb3 AL4 (by exact Nat.le_refl _)))
   have j5 := ((HC2.out.below hb3).below AL4).2.2 t htn |>.c5
   rw [← HM5.out] at j5
   have q4 : (w3.alloc (.cells #[.int .i64 t, .bool cm, .int .i64 lk] 155)).cell? ⟨w3.heap.size, 0, none⟩ = some (.int .i64 t) ∧ (w3.alloc (.cells #[.int .i64 t, .bool cm, .int .i64 lk] 155)).cell? ⟨w3.heap.size, 1, none⟩ = some (.bool cm) ∧ (w3.alloc (.cells #[.int .i64 t, .bool cm, .int .i64 lk] 155)).cell? ⟨w3.heap.size, 2, none⟩ = some (.int .i64 lk) := own3 (own3_made w3 (B := w3.heap.size) (Nat.le_refl _) _ _ _ _)
   obtain ⟨q40, q41, q42⟩ := q4
   have d0 : (w3.alloc (.cells #[.int .i64 t, .bool cm, .int .i64 lk] 155)).drew.cell? ⟨w.heap.size + 1, 0, none⟩ = some (.int .i64 0) := s0
   have d1 : (w3.alloc (.cells #[.int .i64 t, .bool cm, .int .i64 lk] 155)).drew.cell? ⟨w.heap.size + 1, 1, none⟩ = some (.bool false) := s1
   have d2 : (w3.alloc (.cells #[.int .i64 t, .bool cm, .int .i64 lk] 155)).drew.cell? ⟨w.heap.size + 1, 2, none⟩ = some (.int .i64 0) := s2
   have d3 : (w3.alloc (.cells #[.int .i64 t, .bool cm, .int .i64 lk] 155)).drew.frozen? ⟨w.heap.size + 1, 0, none⟩ = false := z0
   have d4 : (w3.alloc (.cells #[.int .i64 t, .bool cm, .int .i64 lk] 155)).drew.frozen? ⟨w.heap.size + 1, 1, none⟩ = false := z1
   have d5 : (w3.alloc (.cells #[.int .i64 t, .bool cm, .int .i64 lk] 155)).drew.frozen? ⟨w.heap.size + 1, 2, none⟩ = false := z2
   have d6 : (w3.alloc (.cells #[.int .i64 t, .bool cm, .int .i64 lk] 155)).drew.cell? ⟨w.heap.size, 0, none⟩ = some (.int .i64 A) := b0
   have d7 : (w3.alloc (.cells #[.int .i64 t, .bool cm, .int .i64 lk] 155)).drew.cell? ⟨w.heap.size, 1, none⟩ = some (.bool bm) := b1
   have d8 : (w3.alloc (.cells #[.int .i64 t, .bool cm, .int .i64 lk] 155)).drew.cell? ⟨w.heap.size, 2, none⟩ = some (.int .i64 bl) := b2
   have d9 : (w3.alloc (.cells #[.int .i64 t, .bool cm, .int .i64 lk] 155)).drew.cell? ⟨b, off + t * 7 + 5, none⟩ = some (.int .i64 cc) := j5
   have e0 : (w3.alloc (.cells #[.int .i64 t, .bool cm, .int .i64 lk] 155)).drew.cell? ⟨w3.heap.size, 0, none⟩ = some (.int .i64 t) := q40
   have e1 : (w3.alloc (.cells #[.int .i64 t, .bool cm, .int .i64 lk] 155)).drew.cell? ⟨w3.heap.size, 1, none⟩ = some (.bool cm) := q41
   have e2 : (w3.alloc (.cells #[.int .i64 t, .bool cm, .int .i64 lk] 155)).drew.cell? ⟨w3.heap.size, 2, none⟩ = some (.int .i64 lk) := q42
   have R5 : (w3.alloc (.cells #[.int .i64 t, .bool cm, .int .i64 lk] 155)).drew.ownsRow w.heap.size 155 3 (.slice (some ⟨w.heap.size + 1, 0, none⟩) 1 1) 1 [.int .i64 0, .bool false, .int .i64 0] := R4
   have HR5 := Lib.hid R5
   have B5 := Lib.hid (below_next (below_next HB0.out hb3 (Nat.le_refl _)) AL4 (Nat.le_refl _))
   clear R4 R5 AL4 r0 r1 r2 y0 y1 y2 k0 k1 k2
   go_cut [14] from 34 to 43 (fun v wx => v = .pointer (some ⟨w3.heap.size, 0, none⟩) ∧ wx = (w3.alloc (.cells #[.int .i64 t, .bool cm, .int .i64 lk] 155)).drew)
   case first =>
    have AZ : Below w3.heap.size w3 (w3.alloc (.cells #[.int .i64 0, .bool false, .int .i64 0] 155)) := (Below.refl w3.heap.size w3).alloc (Nat.le_refl _) _
    have g1 := ((HC2.out.below hb3).below AZ).2.2 t htn |>.c6
    rw [← HM6.out] at g1
    have g2 : (w3.alloc (.cells #[.int .i64 0, .bool false, .int .i64 0] 155)).drew.cell? ⟨b, off + t * 7 + 6, none⟩ = some (.bool cm) := g1
    have g3 : w3.drew.cell? ⟨b, off + t * 7 + 6, none⟩ = some (.bool cm) := i6
    clear AZ
    go_region_with (first | (go_at_call 185; refine (LKA.out _).mono ?_; rintro e w' ⟨rfl, rfl⟩))
    all_goals (go_wp2_with fail; go_meet; exact ⟨rfl, rfl⟩)
   case rest =>
     obtain ⟨rfl, rfl⟩ := hcut
     obtain ⟨rf0, rf1, rf2⟩ := own3_read (show (w3.alloc (.cells #[.int .i64 t, .bool cm, .int .i64 lk] 155)).ownsRow _ _ 3 _ 1 _ from HR5.out) (.int .i64 t) (.bool cm) (.int .i64 lk)
     have BF := Lib.hid ((own3_put (show (w3.alloc (.cells #[.int .i64 t, .bool cm, .int .i64 lk] 155)).ownsRow _ _ 3 _ 1 _ from HR5.out) (show Below w.heap.size w (w3.alloc (.cells #[.int .i64 t, .bool cm, .int .i64 lk] 155)) from B5.out) (Nat.le_succ _) (.int .i64 t) (.bool cm) (.int .i64 lk)).drew.drew)
     by_cases ha : a = 0
     ·have hA2 : A = -1 := by have := HA.out; omega
      have BW : Hid (T = .tuple #[.int .i64 cv, endV t cm lk]) := by show _ = _; rw [EE.out, HBL.out, if_neg (by omega), Int.add_zero]
      clear ha HA
      subst hA2
      go_wp2_with (first | (go_at_call 185; refine (LKA.out _).mono ?_; rintro e w' ⟨rfl, rfl⟩) | (go_at_call 186; refine (COA.out _).mono ?_; rintro e w' ⟨rfl, rfl⟩))
      go_region
      go_wp2_with fail
      refine bodyPost_ret (v := .tuple #[.int .i64 (cv), .agg #[.int .i64 t, .bool cm, .int .i64 lk]]) (by simp [results, Tryz.results165, go_sem, rf0, rf1, rf2]) rfl ⟨by rw [BW.out]; rfl, BF.out⟩
     ·have hA2 : 0 ≤ A := by have := HA.out; omega
      have MK : Hid (bm = (it xs (a - 1)).mark) := hbm2.out (by omega)
      have BL2 := HBL.out
      rw [if_pos (by omega), ← MK.out] at BL2
      have E2 := EE.out
      rw [BL2] at E2
      clear ha HA MK BL2
      obtain ⟨D, hD⟩ : ∃ D, D = bl - lk := ⟨_, rfl⟩
      have hD2 : lk - bl = -D := by omega
      rw [← hD, hD2] at E2
      have HE := Lib.hid E2
      clear E2 hD2
      by_cases d1 : 1 < bl - lk
      ·have mx : 1 < max D (-D) := by omega
       clear hD
       cases bm
       ·have BW : Hid (T = .tuple #[.int .i64 (cv + 3000), endV t cm lk]) := by show _ = _; rw [HE.out, if_pos mx]; simp
        go_wp2_with (first | (go_at_call 185; refine (LKA.out _).mono ?_; rintro e w' ⟨rfl, rfl⟩) | (go_at_call 186; refine (COA.out _).mono ?_; rintro e w' ⟨rfl, rfl⟩))
        go_region
        go_wp2_with fail
        refine bodyPost_ret (v := .tuple #[.int .i64 (cv + 3000), .agg #[.int .i64 t, .bool cm, .int .i64 lk]]) (by simp [results, Tryz.results165, go_sem, rf0, rf1, rf2]) rfl ⟨by rw [BW.out]; rfl, BF.out⟩
       ·cases cm
        ·have BW : Hid (T = .tuple #[.int .i64 (cv + 3000), endV t false lk]) := by show _ = _; rw [HE.out, if_pos mx]; simp
         go_wp2_with (first | (go_at_call 185; refine (LKA.out _).mono ?_; rintro e w' ⟨rfl, rfl⟩) | (go_at_call 186; refine (COA.out _).mono ?_; rintro e w' ⟨rfl, rfl⟩))
         go_region
         go_wp2_with fail
         refine bodyPost_ret (v := .tuple #[.int .i64 (cv + 3000), .agg #[.int .i64 t, .bool false, .int .i64 lk]]) (by simp [results, Tryz.results165, go_sem, rf0, rf1, rf2]) rfl ⟨by rw [BW.out]; rfl, BF.out⟩
        ·have BW : Hid (T = .tuple #[.int .i64 (cv + 3000 + 3000), endV t true lk]) := by show _ = _; rw [HE.out, if_pos mx]; simp; omega
         go_wp2_with (first | (go_at_call 185; refine (LKA.out _).mono ?_; rintro e w' ⟨rfl, rfl⟩) | (go_at_call 186; refine (COA.out _).mono ?_; rintro e w' ⟨rfl, rfl⟩))
         go_region
         go_wp2_with fail
         refine bodyPost_ret (v := .tuple #[.int .i64 (cv + 3000 + 3000), .agg #[.int .i64 t, .bool true, .int .i64 lk]]) (by simp [results, Tryz.results165, go_sem, rf0, rf1, rf2]) rfl ⟨by rw [BW.out]; rfl, BF.out⟩
      ·by_cases d2 : bl - lk < -1
       ·have mx : 1 < max D (-D) := by omega
        clear hD
        cases bm
        ·have BW : Hid (T = .tuple #[.int .i64 (cv + 3000), endV t cm lk]) := by show _ = _; rw [HE.out, if_pos mx]; simp
         go_wp2_with (first | (go_at_call 185; refine (LKA.out _).mono ?_; rintro e w' ⟨rfl, rfl⟩) | (go_at_call 186; refine (COA.out _).mono ?_; rintro e w' ⟨rfl, rfl⟩))
         go_region
         go_wp2_with fail
         refine bodyPost_ret (v := .tuple #[.int .i64 (cv + 3000), .agg #[.int .i64 t, .bool cm, .int .i64 lk]]) (by simp [results, Tryz.results165, go_sem, rf0, rf1, rf2]) rfl ⟨by rw [BW.out]; rfl, BF.out⟩
        ·cases cm
         ·have BW : Hid (T = .tuple #[.int .i64 (cv + 3000), endV t false lk]) := by show _ = _; rw [HE.out, if_pos mx]; simp
          go_wp2_with (first | (go_at_call 185; refine (LKA.out _).mono ?_; rintro e w' ⟨rfl, rfl⟩) | (go_at_call 186; refine (COA.out _).mono ?_; rintro e w' ⟨rfl, rfl⟩))
          go_region
          go_wp2_with fail
          refine bodyPost_ret (v := .tuple #[.int .i64 (cv + 3000), .agg #[.int .i64 t, .bool false, .int .i64 lk]]) (by simp [results, Tryz.results165, go_sem, rf0, rf1, rf2]) rfl ⟨by rw [BW.out]; rfl, BF.out⟩
         ·have BW : Hid (T = .tuple #[.int .i64 (cv + 3000 + 3000), endV t true lk]) := by show _ = _; rw [HE.out, if_pos mx]; simp; omega
          go_wp2_with (first | (go_at_call 185; refine (LKA.out _).mono ?_; rintro e w' ⟨rfl, rfl⟩) | (go_at_call 186; refine (COA.out _).mono ?_; rintro e w' ⟨rfl, rfl⟩))
          go_region
          go_wp2_with fail
          refine bodyPost_ret (v := .tuple #[.int .i64 (cv + 3000 + 3000), .agg #[.int .i64 t, .bool true, .int .i64 lk]]) (by simp [results, Tryz.results165, go_sem, rf0, rf1, rf2]) rfl ⟨by rw [BW.out]; rfl, BF.out⟩
       ·have mx : ¬ 1 < max D (-D) := by omega
        clear hD
        cases bm
        ·have BW : Hid (T = .tuple #[.int .i64 (cv), endV t cm lk]) := by show _ = _; rw [HE.out, if_neg mx]; simp
         go_wp2_with (first | (go_at_call 185; refine (LKA.out _).mono ?_; rintro e w' ⟨rfl, rfl⟩) | (go_at_call 186; refine (COA.out _).mono ?_; rintro e w' ⟨rfl, rfl⟩))
         go_region
         go_wp2_with fail
         refine bodyPost_ret (v := .tuple #[.int .i64 (cv), .agg #[.int .i64 t, .bool cm, .int .i64 lk]]) (by simp [results, Tryz.results165, go_sem, rf0, rf1, rf2]) rfl ⟨by rw [BW.out]; rfl, BF.out⟩
        ·cases cm
         ·have BW : Hid (T = .tuple #[.int .i64 (cv), endV t false lk]) := by show _ = _; rw [HE.out, if_neg mx]; simp
          go_wp2_with (first | (go_at_call 185; refine (LKA.out _).mono ?_; rintro e w' ⟨rfl, rfl⟩) | (go_at_call 186; refine (COA.out _).mono ?_; rintro e w' ⟨rfl, rfl⟩))
          go_region
          go_wp2_with fail
          refine bodyPost_ret (v := .tuple #[.int .i64 (cv), .agg #[.int .i64 t, .bool false, .int .i64 lk]]) (by simp [results, Tryz.results165, go_sem, rf0, rf1, rf2]) rfl ⟨by rw [BW.out]; rfl, BF.out⟩
         ·have BW : Hid (T = .tuple #[.int .i64 (cv + 3000), endV t true lk]) := by show _ = _; rw [HE.out, if_neg mx]; simp
          go_wp2_with (first | (go_at_call 185; refine (LKA.out _).mono ?_; rintro e w' ⟨rfl, rfl⟩) | (go_at_call 186; refine (COA.out _).mono ?_; rintro e w' ⟨rfl, rfl⟩))
          go_region
          go_wp2_with fail
          refine bodyPost_ret (v := .tuple #[.int .i64 (cv + 3000), .agg #[.int .i64 t, .bool true, .int .i64 lk]]) (by simp [results, Tryz.results165, go_sem, rf0, rf1, rf2]) rfl ⟨by rw [BW.out]; rfl, BF.out⟩
end Go.Proofs.YtofnchdijanikaaGreatDoor
namespace Go.Proofs.YtofnchdijanikaaGreatDoor
open Go.RowKit Go.Maps Go.ChangeMaps
open Go.WideElems (Fit rd rg pl rd_val elemAt)
theorem pigeon : ∀ (l m : List Value), l.Pairwise (fun x y => x ≠ y) → (∀ x ∈ l, x ∈ m) → l.length ≤ m.length
 | [], m, _, _ => Nat.zero_le _
 | x :: t, m, hp, hm => by
  obtain ⟨p, q, rfl⟩ := List.append_of_mem (hm x (by simp))
  rw [List.pairwise_cons] at hp
  have ih := pigeon t (p ++ q) hp.2 (fun y hy => by
   have h1 := hm y (List.mem_cons_of_mem _ hy)
   have h2 := hp.1 y hy
   rw [List.mem_append, List.mem_cons] at h1
   rw [List.mem_append]
   rcases h1 with h | rfl | h
   ·exact .inl h
   ·exact absurd rfl h2
   ·exact .inr h)
  simp only [List.length_append, List.length_cons] at ih ⊢
  omega
def RR (_ : Value) : Option (DataW Unit × List MemPlace) := some (.lit (.bool true), [])
def Memo (w : World) (B : Nat) (KS : List Value) (Ok : Value → Value → Prop) : Prop :=
 ∃ es clock, w.heap[B]? = some (.map es clock) ∧ Fit Tryz.prog 155 RR es clock ∧ ∀ x ∈ es.toList, x.key ∈ KS ∧ Ok x.key x.val
theorem laidOutP : laidOutB Tryz.prog = true := by kernel_rfl
theorem rowEnd : (155 : TypeId) < Tryz.prog.types.size := of_decide_eq_true (by kernel_rfl)
theorem wideEnd : (match Tryz.prog.underlying 155 with | some (.array _ _) | some (.struct _) => true | _ => false) = true := by rw [Tryz.underlying155]
theorem keyedEnd : Keyed Tryz.prog 155 := Keyed.of_law (deep_law_laid laidOutP (m := 3) (by omega) rowEnd (by kernel_rfl) wideEnd)
theorem keyEnd_ok : Tryz.prog.keyType 155 = true := by kernel_rfl
theorem cellsEnd : Tryz.prog.cellsOf 155 = 3 := by kernel_rfl
theorem formedEnd (x y z : Value) : (Value.agg #[x, y, z]).formed Tryz.prog 155 = true := by
 simp [Value.formed, Tryz.underlying155, cellsEnd]
theorem cellsInt : Tryz.prog.cellsOf 3 = 1 := by kernel_rfl
theorem cellsBool : Tryz.prog.cellsOf 4 = 1 := by kernel_rfl
theorem keyOfEnd (a lk : Int) (m : Bool) (ha : -1 ≤ a ∧ a ≤ 1000) (hl : 0 ≤ lk ∧ lk ≤ 3) : ∃ kl, keyOf Tryz.prog 155 (endV a m lk) = some kl := by
 have h1 : (Lit.int .i64 a).wf = true := WalkArith.wf_i64 ⟨by omega, by omega⟩
 have h2 : (Lit.int .i64 lk).wf = true := WalkArith.wf_i64 ⟨by omega, by omega⟩
 have hs : ∃ d, Tryz.prog.types.size = d + 1 := Nat.exists_eq_succ_of_ne_zero (fun h => by have := rowEnd; rw [h] at this; exact Nat.not_lt_zero _ this)
 obtain ⟨d, hd⟩ := hs
 refine ⟨.string (keyBytes [.int .i64 a, .bool m, .int .i64 lk]), ?_⟩
 unfold keyOf endV
 rw [Tryz.underlying155]
 simp only [keyEnd_ok, formedEnd, Bool.and_self, if_true]
 rw [hd]
 simp [Program.keyLits, Tryz.underlying155, Value.cells, cellsEnd, cellsInt, cellsBool, Tryz.underlying3, Tryz.underlying4, h1, h2]
theorem Memo.made (w : World) (KS : List Value) (Ok : Value → Value → Prop) : Memo (w.alloc (.map #[] 0)) w.heap.size KS Ok :=
 ⟨#[], 0, (MapKept.heap_alloc w _).1, ⟨by simp, MapKept.stamped_empty 0, by simp⟩, by simp⟩
theorem Memo.lt {w : World} {B : Nat} {KS : List Value} {Ok : Value → Value → Prop} (h : Memo w B KS Ok) : B < w.heap.size := by
 obtain ⟨es, clock, hb, _⟩ := h
 exact (Array.getElem?_eq_some_iff.1 hb).1
theorem Memo.kept {w w' : World} {B : Nat} {KS : List Value} {Ok : Value → Value → Prop} {row : Option Nat} (h : Memo w B KS Ok) (hg : w.grownBy w' row) (hne : some B ≠ row) : Memo w' B KS Ok := by
 have hlt := h.lt
 obtain ⟨es, clock, hb, F, hs⟩ := h
 exact ⟨es, clock, (hg.block B hlt hne).trans hb, F, hs⟩
theorem Memo.size {es : Array MapEntry} {clock : Nat} {KS : List Value} {Ok : Value → Value → Prop} (F : Fit Tryz.prog 155 RR es clock) (h : ∀ x ∈ es.toList, x.key ∈ KS ∧ Ok x.key x.val) : es.size ≤ KS.length := by
 have hn : es.toList.Pairwise (fun x y => x.key ≠ y.key) := ((MapKept.stamped_iff es clock).1 F.stamped).2.2
 have := pigeon (es.toList.map (·.key)) KS (by rw [List.pairwise_map]; exact hn) (fun x hx => by
  obtain ⟨y, hy, rfl⟩ := List.mem_map.1 hx
  exact (h y hy).1)
 simpa using this
theorem zeroChoice (w : World) : (zeroValue 157).run Tryz.prog w = .ok (.agg #[.int .i64 0, .int .i64 0, .bool false, .int .i64 0]) w := by kernel_rfl
theorem Memo.look {w : World} {B : Nat} {KS : List Value} {Ok : Value → Value → Prop} (h : Memo w B KS Ok) {key : Value} (hk : ∃ kl, keyOf Tryz.prog 155 key = some kl) :
  (∀ w' : World, w'.heap[B]? = w.heap[B]? → (Instr.lookup 151 (.map (some B)) key true).run Tryz.prog w' = .ok (.tuple #[.agg #[.int .i64 0, .int .i64 0, .bool false, .int .i64 0], .bool false]) w') ∨
  ∃ val, Ok key val ∧ ∀ w' : World, w'.heap[B]? = w.heap[B]? → (Instr.lookup 151 (.map (some B)) key true).run Tryz.prog w' = .ok (.tuple #[val, .bool true]) w' := by
 obtain ⟨es, clock, hb, F, hs⟩ := h
 obtain ⟨kl, hkey⟩ := hk
 have key1 := fun (w' : World) (e : w'.heap[B]? = w.heap[B]?) => fit_look true keyedEnd Tryz.underlying151 (zeroChoice w') (e.trans hb) F hkey
 by_cases hx : ∀ x ∈ es.toList, x.key ≠ key
 ·refine .inl fun w' e => ?_
  rcases key1 w' e with ⟨h1, _⟩ | ⟨e0, y, h1, h2, _⟩
  ·exact h1
  ·exact absurd h2 (hx e0 h1)
 ·obtain ⟨x, hxm, hxk⟩ : ∃ x, x ∈ es.toList ∧ x.key = key := by
   simpa using hx
  refine .inr ⟨x.val, ?_, fun w' e => ?_⟩
  ·rw [← hxk]; exact (hs x hxm).2
  ·rcases key1 w' e with ⟨_, h1, _⟩ | ⟨e0, y, h1, h2, h3, _⟩
   ·exact absurd hxk (h1 x hxm)
   ·have hn : es.toList.Pairwise (fun x y => x.key ≠ y.key) := ((MapKept.stamped_iff es clock).1 F.stamped).2.2
    have : e0 = x := by
     apply Classical.byContradiction
     intro hne
     have key2 : ∀ l : List MapEntry, l.Pairwise (fun x y => x.key ≠ y.key) → e0 ∈ l → x ∈ l → False := by
      intro l
      induction l with
      | nil => intro _ h _; cases h
      | cons a t ih =>
       intro hp ha hb
       rw [List.pairwise_cons] at hp
       rcases List.mem_cons.1 ha with e1 | ha1
       ·rcases List.mem_cons.1 hb with e2 | hb1
        ·exact hne (e1.trans e2.symm)
        ·exact hp.1 x hb1 (by rw [← e1]; exact h2.trans hxk.symm)
       ·rcases List.mem_cons.1 hb with e2 | hb1
        ·exact hp.1 e0 ha1 (by rw [← e2]; exact hxk.trans h2.symm)
        ·exact ih hp.2 ha1 hb1
     exact key2 _ hn h1 hxm
    rw [this] at h3
    exact h3
theorem Memo.put {w : World} {B : Nat} {KS : List Value} {Ok : Value → Value → Prop} (h : Memo w B KS Ok) (hK : KS.length < 1000000) {key val : Value} {kl : Lit} (hkey : keyOf Tryz.prog 155 key = some kl) (hin : key ∈ KS) (hok : Ok key val) :
  ∃ w', (Instr.mapUpdate 151 (.map (some B)) key val).run Tryz.prog w = .ok () w' ∧ Memo w' B KS Ok ∧ w.grownBy w' (some B) := by
 obtain ⟨es, clock, hb, F, hs⟩ := h
 have hsz := Memo.size F hs
 obtain ⟨es', clock', hrun, F', _, _, _, hwho⟩ := fit_store (R' := RR) (yv := (.lit (.bool true), [])) keyedEnd Tryz.underlying151 hb F (by unfold maxLen; omega) (fun _ _ _ _ hz => hz) hkey (val := val) rfl
 refine ⟨_, hrun, ⟨es', clock', heap_setBlock_same hb _, F', fun x hx => ?_⟩, ⟨rfl, rfl, rfl, by simp [setBlock], fun i _ hi => heap_setBlock_other hb _ (fun e => hi (by rw [e]))⟩⟩
 rcases hwho x hx with ⟨h1, _⟩ | ⟨h1, h2⟩
 ·exact hs x h1
 ·rw [h1, h2]
  exact ⟨hin, hok⟩
theorem wpList_memo (w : World) {ops : Array Oper} {rest : List Oper} {o : Oper} {a : Act} {Q : Exit → Act → World → Prop}
  (hg : o.guard = none) (m x v : Operand) (hop : o.op = Op.mapUpdate 151 m x v)
  (B : Nat) (KS : List Value) (Ok : Value → Value → Prop) (hm : a.eval m = .map (some B)) (h : Memo w B KS Ok) (hKS : KS.length < 1000000) (key val : Value) (hx : a.eval x = key) (hv : a.eval v = val)
  (hkey : ∃ kl, keyOf Tryz.prog 155 key = some kl) (hin : key ∈ KS) (hok : Ok key val)
  (hK : ∀ w', Memo w' B KS Ok → w.grownBy w' (some B) → wpList Tryz.prog ops Q rest (a.put o.dst undef) w') :
  wpList Tryz.prog ops Q (o :: rest) a w := by
 refine wpList_plain hg fun K' hK' => ?_
 obtain ⟨kl, hkl⟩ := hkey
 obtain ⟨w', hrun, r1, r2⟩ := h.put hKS hkl hin hok
 unfold Oper.wp
 simp [execOp, hop, hm, hx, hv, hrun, Result.andThen]
 exact hK' _ _ (hK w' r1 r2)
def valV (xs : List DItem) (wd most : Int) (a : Nat) (lk : Int) : Value :=
 if xs.length ≤ a then .agg #[.int .i64 0, .int .i64 0, .bool false, .int .i64 0] else
 match best xs wd most a lk with
 | none => .agg #[.int .i64 (-1), .int .i64 0, .bool false, .int .i64 0]
 | some (m, tz) => .agg #[.int .i64 m, .int .i64 tz, .bool (it xs tz).mark, .int .i64 (looksV (setB (lineG xs a tz) wd).2 (setB (lineG xs a tz) wd).1)]
def markOf (xs : List DItem) (a : Nat) : Bool := decide (0 < a) && (it xs (a - 1)).mark
def KS61 : List Value := (List.range 61).flatMap fun (a : Nat) => (List.range 4).flatMap fun (l : Nat) => [endV ((a : Int) - 1) true (l : Int), endV ((a : Int) - 1) false (l : Int)]
theorem KS61_len : KS61.length < 1000000 := by
 have : KS61.length = 488 := by
  unfold KS61
  rw [List.length_flatMap]
  rfl
 omega
theorem KS61_mem (a : Nat) (ha : a ≤ 60) (m : Bool) (lk : Int) (hl : 0 ≤ lk ∧ lk ≤ 3) : endV ((a : Int) - 1) m lk ∈ KS61 := by
 obtain ⟨l, rfl⟩ := Int.eq_ofNat_of_zero_le hl.1
 unfold KS61
 refine List.mem_flatMap.2 ⟨a, List.mem_range.2 (by omega), List.mem_flatMap.2 ⟨l, List.mem_range.2 (by omega), ?_⟩⟩
 cases m <;> simp
def MOk (xs : List DItem) (wd most : Int) (key val : Value) : Prop := ∃ (a : Nat) (lk : Int), key = endV ((a : Int) - 1) (markOf xs a) lk ∧ val = valV xs wd most a lk
theorem MOk.val {xs : List DItem} {wd most : Int} {a : Nat} {m : Bool} {lk : Int} {v : Value} (h : MOk xs wd most (endV ((a : Int) - 1) m lk) v) : v = valV xs wd most a lk := by
 obtain ⟨a', lk', h1, rfl⟩ := h
 unfold endV at h1
 injection h1 with h1
 have h2 := congrArg Array.toList h1
 simp only [List.cons.injEq, Value.int.injEq, true_and, and_true] at h2
 obtain ⟨h3, _, rfl⟩ := h2
 have : a = a' := by omega
 rw [this]
end Go.Proofs.YtofnchdijanikaaGreatDoor
namespace Go.Proofs.YtofnchdijanikaaGreatDoor
open Go.RowKit
theorem own4 {w : World} {base g : Nat} {E : TypeId} {x y z u : Value} (h : w.ownsRow base E 4 (.slice (some ⟨g, 0, none⟩) 1 1) 1 [x, y, z, u]) : w.cell? ⟨g, 0, none⟩ = some x ∧ w.cell? ⟨g, 1, none⟩ = some y ∧ w.cell? ⟨g, 2, none⟩ = some z ∧ w.cell? ⟨g, 3, none⟩ = some u :=
 ⟨h.cellAt 0 (by omega), h.cellAt 1 (by omega), h.cellAt 2 (by omega), h.cellAt 3 (by omega)⟩
theorem own4_made (w : World) {B : Nat} (hB : B ≤ w.heap.size) (E : TypeId) (x y z u : Value) : (w.alloc (.cells #[x, y, z, u] E)).ownsRow B E 4 (.slice (some ⟨w.heap.size, 0, none⟩) 1 1) 1 [x, y, z, u] :=
 ⟨rfl, .inr ⟨w.heap.size, 1, #[x, y, z, u], rfl, hB, heap_alloc_new w _, Nat.le_refl _, by unfold maxLen; omega, rfl, rfl⟩⟩
theorem own4_set {w : World} {base g : Nat} {E : TypeId} {x y z u : Value} (h : w.ownsRow base E 4 (.slice (some ⟨g, 0, none⟩) 1 1) 1 [x, y, z, u]) (a b c d : Value) :
  ((((w.setCell ⟨g, 0, none⟩ a).setCell ⟨g, 1, none⟩ b).setCell ⟨g, 2, none⟩ c).setCell ⟨g, 3, none⟩ d).ownsRow base E 4 (.slice (some ⟨g, 0, none⟩) 1 1) 1 [a, b, c, d] ∧
  w.grownBy ((((w.setCell ⟨g, 0, none⟩ a).setCell ⟨g, 1, none⟩ b).setCell ⟨g, 2, none⟩ c).setCell ⟨g, 3, none⟩ d) (some g) := by
 have s0 := h.stored 0 a
 have s1 := s0.1.stored 1 b
 have s2 := s1.1.stored 2 c
 have s3 := s2.1.stored 3 d
 exact ⟨s3.1, grownBy_trans (grownBy_trans (grownBy_trans s0.2 s1.2) s2.2) s3.2⟩
theorem own3_set {w : World} {base g : Nat} {E : TypeId} {x y z : Value} (h : w.ownsRow base E 3 (.slice (some ⟨g, 0, none⟩) 1 1) 1 [x, y, z]) (a b c : Value) :
  (((w.setCell ⟨g, 0, none⟩ a).setCell ⟨g, 1, none⟩ b).setCell ⟨g, 2, none⟩ c).ownsRow base E 3 (.slice (some ⟨g, 0, none⟩) 1 1) 1 [a, b, c] ∧
  w.grownBy (((w.setCell ⟨g, 0, none⟩ a).setCell ⟨g, 1, none⟩ b).setCell ⟨g, 2, none⟩ c) (some g) := by
 have s0 := h.stored 0 a
 have s1 := s0.1.stored 1 b
 have s2 := s1.1.stored 2 c
 exact ⟨s2.1, grownBy_trans (grownBy_trans s0.2 s1.2) s2.2⟩
theorem grown_new {a b c : World} {row : Option Nat} {g : Nat} (h : a.grownBy b row) (k : b.grownBy c (some g)) (hg : a.heap.size ≤ g) : a.grownBy c row :=
 ⟨k.os.trans h.os, k.tape.trans h.tape, k.output.trans h.output, Nat.le_trans h.size k.size, fun i hi hne => (k.block i (Nat.lt_of_lt_of_le hi h.size) (fun e => by have := Option.some.inj e; omega)).trans (h.block i hi hne)⟩
theorem Memo.drewN {w : World} {B : Nat} {KS : List Value} {Ok : Value → Value → Prop} (h : Memo w B KS Ok) (q : Nat) : Memo (w.drewN q) B KS Ok := h
theorem Memo.drew {w : World} {B : Nat} {KS : List Value} {Ok : Value → Value → Prop} (h : Memo w B KS Ok) : Memo w.drew B KS Ok := h
theorem grownBy_drew {a b : World} {row : Option Nat} (h : a.grownBy b row) : a.grownBy b.drew row := ⟨h.os, h.tape, h.output, h.size, h.block⟩
theorem ItC.kept {w w' : World} {b off n : Nat} {xs : List DItem} {row : Option Nat} (h : ItC w b off n xs) (hg : w.grownBy w' row) (hne : some b ≠ row) : ItC w' b off n xs := by
 have hb : w'.heap[b]? = w.heap[b]? := hg.block b h.2.1 hne
 have e : ∀ o, w'.cell? ⟨b, o, none⟩ = w.cell? ⟨b, o, none⟩ := fun o => World.cell?_of_block (a := ⟨b, o, none⟩) hb
 refine ⟨h.1, Nat.lt_of_lt_of_le h.2.1 hg.size, fun j hj => ?_⟩
 have := h.2.2 j hj
 exact ⟨(e _).trans this.c0, (e _).trans this.c1, (e _).trans this.c2, (e _).trans this.c3, (e _).trans this.c4, (e _).trans this.c5, (e _).trans this.c6⟩
structure Chs (w : World) (cb b off cap n : Nat) (xs : List DItem) (wd most : Int) (B : Nat) : Prop where
 it : ItC w b off n xs
 bB : b ≠ B
 cB : cb ≠ B
 cl : cb < w.heap.size
 c0 : w.cell? ⟨cb, 0, none⟩ = some (.slice (some ⟨b, off, none⟩) n cap)
 c1 : w.cell? ⟨cb, 1, none⟩ = some (.int .i64 wd)
 c2 : w.cell? ⟨cb, 2, none⟩ = some (.int .i64 most)
 c3 : w.cell? ⟨cb, 3, none⟩ = some (.map (some B))
 mm : Memo w B KS61 (MOk xs wd most)
theorem Chs.kept {w w' : World} {cb b off cap n : Nat} {xs : List DItem} {wd most : Int} {B : Nat} {row : Option Nat} (h : Chs w cb b off cap n xs wd most B) (hg : w.grownBy w' row) (h1 : some b ≠ row) (h2 : some cb ≠ row) (h3 : some B ≠ row) : Chs w' cb b off cap n xs wd most B := by
 have hb : w'.heap[cb]? = w.heap[cb]? := hg.block cb h.cl h2
 have e : ∀ o, w'.cell? ⟨cb, o, none⟩ = w.cell? ⟨cb, o, none⟩ := fun o => World.cell?_of_block (a := ⟨cb, o, none⟩) hb
 exact ⟨h.it.kept hg h1, h.bB, h.cB, Nat.lt_of_lt_of_le h.cl hg.size, (e _).trans h.c0, (e _).trans h.c1, (e _).trans h.c2, (e _).trans h.c3, h.mm.kept hg h3⟩
theorem Chs.below {w w' : World} {cb b off cap n : Nat} {xs : List DItem} {wd most : Int} {B : Nat} (h : Chs w cb b off cap n xs wd most B) (hb : Below w.heap.size w w') : Chs w' cb b off cap n xs wd most B :=
 h.kept (grown_of_below hb none) (by simp) (by simp) (by simp)
theorem Chs.memo {w w' : World} {cb b off cap n : Nat} {xs : List DItem} {wd most : Int} {B : Nat} (h : Chs w cb b off cap n xs wd most B) (hg : w.grownBy w' (some B)) (hm : Memo w' B KS61 (MOk xs wd most)) : Chs w' cb b off cap n xs wd most B := by
 have h2 : some cb ≠ some B := fun e => h.cB (Option.some.inj e)
 have h1 : some b ≠ some B := fun e => h.bB (Option.some.inj e)
 have hb : w'.heap[cb]? = w.heap[cb]? := hg.block cb h.cl h2
 have e : ∀ o, w'.cell? ⟨cb, o, none⟩ = w.cell? ⟨cb, o, none⟩ := fun o => World.cell?_of_block (a := ⟨cb, o, none⟩) hb
 exact ⟨h.it.kept hg h1, h.bB, h.cB, Nat.lt_of_lt_of_le h.cl hg.size, (e _).trans h.c0, (e _).trans h.c1, (e _).trans h.c2, (e _).trans h.c3, hm⟩
theorem Chs.lts {w : World} {cb b off cap n : Nat} {xs : List DItem} {wd most : Int} {B : Nat} (h : Chs w cb b off cap n xs wd most B) : b < w.heap.size ∧ cb < w.heap.size ∧ B < w.heap.size := ⟨h.it.2.1, h.cl, h.mm.lt⟩
theorem Chs.drew {w : World} {cb b off cap n : Nat} {xs : List DItem} {wd most : Int} {B : Nat} (h : Chs w cb b off cap n xs wd most B) : Chs w.drew cb b off cap n xs wd most B := ⟨⟨h.it.1, h.it.2.1, fun j hj => ⟨(h.it.2.2 j hj).c0, (h.it.2.2 j hj).c1, (h.it.2.2 j hj).c2, (h.it.2.2 j hj).c3, (h.it.2.2 j hj).c4, (h.it.2.2 j hj).c5, (h.it.2.2 j hj).c6⟩⟩, h.bB, h.cB, h.cl, h.c0, h.c1, h.c2, h.c3, h.mm.drew⟩
structure Loc (w : World) (N : Nat) (A : Int) (mk : Bool) (lk : Int) (M T : Int) (K : Bool) (L : Int) : Prop where
 r1 : w.ownsRow N 155 3 (.slice (some ⟨N, 0, none⟩) 1 1) 1 [.int .i64 A, .bool mk, .int .i64 lk]
 r2 : w.ownsRow N 157 4 (.slice (some ⟨N + 1, 0, none⟩) 1 1) 1 [.int .i64 0, .int .i64 0, .bool false, .int .i64 0]
 r3 : w.ownsRow N 157 4 (.slice (some ⟨N + 3, 0, none⟩) 1 1) 1 [.int .i64 M, .int .i64 T, .bool K, .int .i64 L]
theorem Loc.kept {w w' : World} {N : Nat} {A : Int} {mk : Bool} {lk M T : Int} {K : Bool} {L : Int} {row : Option Nat} (h : Loc w N A mk lk M T K L) (hg : w.grownBy w' row) (hr : ∀ k, row = some k → k < N ∨ N + 3 < k) : Loc w' N A mk lk M T K L := by
 have ne : ∀ k, N ≤ k → k ≤ N + 3 → some k ≠ row := fun k h1 h2 e => by have := hr k e.symm; omega
 exact ⟨h.r1.kept hg (.inr (ne N (by omega) (by omega))), h.r2.kept hg (.inr (ne (N + 1) (by omega) (by omega))), h.r3.kept hg (.inr (ne (N + 3) (by omega) (by omega)))⟩
theorem Loc.below {w w' : World} {N : Nat} {A : Int} {mk : Bool} {lk M T : Int} {K : Bool} {L : Int} (h : Loc w N A mk lk M T K L) (hb : Below w.heap.size w w') : Loc w' N A mk lk M T K L := h.kept (grown_of_below hb none) (fun k e => by cases e)
theorem Loc.drew {w : World} {N : Nat} {A : Int} {mk : Bool} {lk M T : Int} {K : Bool} {L : Int} (h : Loc w N A mk lk M T K L) : Loc w.drew N A mk lk M T K L := ⟨h.r1, h.r2, h.r3⟩
theorem Loc.lt {w : World} {N : Nat} {A : Int} {mk : Bool} {lk M T : Int} {K : Bool} {L : Int} (h : Loc w N A mk lk M T K L) : N + 3 < w.heap.size := (h.r3.lt (N + 3) rfl).2
theorem Loc.set4 {w w' : World} {N : Nat} {A : Int} {mk : Bool} {lk M T : Int} {K : Bool} {L a b : Int} {c : Bool} {d : Int} (h : Loc w N A mk lk M T K L)
  (F : w'.ownsRow N 157 4 (.slice (some ⟨N + 3, 0, none⟩) 1 1) 1 [.int .i64 a, .int .i64 b, .bool c, .int .i64 d] ∧ w.grownBy w' (some (N + 3))) : Loc w' N A mk lk a b c d :=
 ⟨h.r1.kept F.2 (.inr (show some N ≠ some (N + 3) from fun e => by have := Option.some.inj e; omega)), h.r2.kept F.2 (.inr (show some (N + 1) ≠ some (N + 3) from fun e => by have := Option.some.inj e; omega)), F.1⟩
def accM : Option (Int × Nat) → Int | none => -1 | some (m, _) => m
def accT : Option (Int × Nat) → Int | none => 0 | some (_, t) => t
def accK (xs : List DItem) : Option (Int × Nat) → Bool | none => false | some (_, t) => (it xs t).mark
def accL (xs : List DItem) (wd : Int) (a : Nat) : Option (Int × Nat) → Int | none => 0 | some (_, t) => looksV (setB (lineG xs a t) wd).2 (setB (lineG xs a t) wd).1
theorem valV_at {xs : List DItem} {wd most : Int} {a : Nat} {lk : Int} (h : a < xs.length) : valV xs wd most a lk = .agg #[.int .i64 (accM (best xs wd most a lk)), .int .i64 (accT (best xs wd most a lk)), .bool (accK xs (best xs wd most a lk)), .int .i64 (accL xs wd a (best xs wd most a lk))] := by
 unfold valV
 rw [if_neg (by omega)]
 cases best xs wd most a lk with
 | none => rfl
 | some p => rfl
theorem valV_end {xs : List DItem} {wd most : Int} {a : Nat} {lk : Int} (h : xs.length ≤ a) : valV xs wd most a lk = .agg #[.int .i64 0, .int .i64 0, .bool false, .int .i64 0] := by
 unfold valV
 rw [if_pos h]
theorem valV_form (xs : List DItem) (wd most : Int) (a : Nat) (lk : Int) : ∃ (t : Int) (k : Bool) (l : Int), valV xs wd most a lk = .agg #[.int .i64 (accM (best xs wd most a lk)), .int .i64 t, .bool k, .int .i64 l] := by
 by_cases h : a < xs.length
 ·exact ⟨_, _, _, valV_at h⟩
 ·refine ⟨0, false, 0, ?_⟩
  rw [valV_end (by omega), best_end _ _ _ _ _ (by omega)]
  rfl
end Go.Proofs.YtofnchdijanikaaGreatDoor
namespace Go.Proofs.YtofnchdijanikaaGreatDoor
open Go.RowKit
def BestPost (xs : List DItem) (wd most : Int) (a : Nat) (lk : Int) (B : Nat) (w : World) (e : Ending) (w' : World) : Prop := e = .returned (valV xs wd most a lk) ∧ Memo w' B KS61 (MOk xs wd most) ∧ w.grownBy w' (some B)
set_option maxHeartbeats 16000000 in
theorem best_last (cb b off cap n : Nat) (xs : List DItem) (wd most : Int) (B : Nat) (A lk : Int) (mk : Bool) (w : World) (hA : A = (n : Int) - 1) (hn : n = xs.length) (n60 : n ≤ 60) (hc : Chs w cb b off cap n xs wd most B) :
  Calls Tryz.prog 138 #[.pointer (some ⟨cb, 0, none⟩), .agg #[.int .i64 A, .bool mk, .int .i64 lk]] w (BestPost xs wd most n lk B w) := by
 have AL1 := (Below.refl w.heap.size w).alloc (Nat.le_refl _) (.cells #[.int .i64 A, .bool mk, .int .i64 lk] 155)
 have AL2 := AL1.alloc (by simp) (.cells #[.int .i64 0, .int .i64 0, .bool false, .int .i64 0] 157)
 have R1 := (own3_made w (B := w.heap.size) (Nat.le_refl _) 155 (.int .i64 A) (.bool mk) (.int .i64 lk)).alloc (.cells #[.int .i64 0, .int .i64 0, .bool false, .int .i64 0] 157)
 have R2 := own4_made (w.alloc (.cells #[.int .i64 A, .bool mk, .int .i64 lk] 155)) (B := w.heap.size) (by simp) 157 (.int .i64 0) (.int .i64 0) (.bool false) (.int .i64 0)
 rw [show (w.alloc (.cells #[.int .i64 A, .bool mk, .int .i64 lk] 155)).heap.size = w.heap.size + 1 by simp] at R2
 have C2 := hc.below AL2
 have c0 := C2.c0
 obtain ⟨r0, r1, r2⟩ := own3 R1
 obtain ⟨s0, s1, s2, s3⟩ := own4 R2
 have z0 := World.ownsRow.frozenAt R2 0
 have z1 := World.ownsRow.frozenAt R2 1
 have z2 := World.ownsRow.frozenAt R2 2
 have z3 := World.ownsRow.frozenAt R2 3
 have HV := Lib.hid (valV_end (xs := xs) (wd := wd) (most := most) (a := n) (lk := lk) (by omega))
 have hlt := hc.lts
 have GR := Lib.hid (grown_of_below AL2 (some B))
 have MM := Lib.hid C2.mm
 clear R1 R2 AL1 AL2 hc C2 hlt
 go_enter Tryz.func138, Tryz.ntmps138
 have hAn : (A == (n : Int) - 1) = true := by rw [beq_iff_eq]; exact hA
 clear hA hn
 go_wp2
 go_region
 go_wp2
 refine bodyPost_ret (v := .agg #[.int .i64 0, .int .i64 0, .bool false, .int .i64 0]) (by simp [results, Tryz.results138, go_sem, s0, s1, s2, s3]) rfl ⟨by rw [HV.out], Memo.drew MM.out, grownBy_drew GR.out⟩
end Go.Proofs.YtofnchdijanikaaGreatDoor

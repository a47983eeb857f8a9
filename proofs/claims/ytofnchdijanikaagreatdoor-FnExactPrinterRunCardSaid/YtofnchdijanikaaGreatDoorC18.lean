/-
  PROVED HERE: what the printer's lines need, part C18. Conditions: each theorem's own.
-/
import Derived.Test.YtofnchdijanikaaGreatDoorC17
import Derived.Test.YtofnchdijanikaaGreatDoorC11
import Derived.BigQuiet
import Derived.Test.YtofnchdijanikaaGreatDoorC10
set_option linter.unusedVariables false
set_option linter.unusedSimpArgs false
set_option maxRecDepth 100000
namespace Go.Proofs.YtofnchdijanikaaGreatDoor
open Go.RowKit
theorem info_4i : (Tryz.prog.info? 146).map (fun i => (i.zero, i.size, i.bytes)) = some (some (.agg #[.int .i64 0, .int .i64 0, .int .i64 0, .int .i64 0]), 4, 32) := by kernel_rfl
theorem info_4b : (Tryz.prog.info? 140).map (fun i => (i.zero, i.size, i.bytes)) = some (some (.agg #[.bool false, .bool false, .bool false, .bool false]), 4, 4) := by kernel_rfl
theorem SK_past (xs : List DItem) (wd most : Int) (T : Nat → Int → Option (Int × Nat)) (a k r l : Nat) (h : a < r) : SK xs wd most T a k r l = T r l := by
 unfold SK SD
 rw [if_neg (by omega), if_pos (by omega)]
theorem SQ_at (xs : List DItem) (wd most : Int) (T : Nat → Int → Option (Int × Nat)) (a k q : Nat) : SQ xs wd most T a k q a q = chooseTo xs wd most T a q k := by
 unfold SQ
 rw [if_pos rfl, if_neg (by omega)]
set_option maxHeartbeats 16000000 in
theorem specBreaks_any (b off cap n : Nat) (xs : List DItem) (hx : PIs xs) (w : World) (hc : ItC w b off n xs) (hn0 : 0 < n) (wd most : Int) (hw : 0 ≤ wd ∧ wd ≤ 1000) (hm : 0 ≤ most ∧ most ≤ 10000) :
  Calls Tryz.prog 98 #[.slice (some ⟨b, off, none⟩) n cap, .int .i64 wd, .int .i64 most] w (BrPost xs wd most w) := by
 obtain ⟨i0, hi, hz0, hz1, hz2⟩ := info_parts info_4i
 obtain ⟨i1, hj, hy0, hy1, hy2⟩ := info_parts info_4b
 have hn := hc.1
 have HN := Lib.hid hn
 have HC := Lib.hid hc
 have HX := Lib.hid hx
 have HW := Lib.hid hw
 have HM := Lib.hid hm
 have n60 : n ≤ 60 := by have := hx.len; omega
 have IV := Lib.hid (fun (w' : World) (hb : Below w.heap.size w w') => specItems_any b off cap n xs hx w' (hc.below hb))
 have I1 : Hid (inB wd 0 1000 = true) := inB_yes hw.1 hw.2
 have I2 : Hid (inB most 0 10000 = true) := inB_yes hm.1 hm.2
 have AW := Lib.hid ((Below.refl w.heap.size w).alloc (Nat.le_refl _) (.cells #[] 3))
 have OM := Lib.hid (OwnI.made w (B := w.heap.size) (Nat.le_refl _))
 have SZ : Hid ((w.alloc (.cells #[] 3)).heap.size = w.heap.size + 1) := by show _ = _; simp
 have hne : ((n : Int) == 0) = false := by rw [beq_eq_false_iff_ne]; omega
 clear hc hx hw hm hn
 go_enter Tryz.func98, Tryz.ntmps98
 go_wp2_with (first | (go_at_call 122; refine (IV.out _ AW.out).mono ?_; rintro e w2 ⟨rfl, hb2⟩) | (go_at_call 34; refine (l1In_any _ _ _ _).mono ?_; rintro e w' ⟨rfl, rfl⟩; first | rw [I1.out] | rw [I2.out]) | (at_make; refine wpList_make_full _ rfl _ _ 138 rfl w2.heap.size 146 i0 (.agg #[.int .i64 0, .int .i64 0, .int .i64 0, .int .i64 0]) 4 Tryz.underlying138 hi hz0 hz1 .i64 .i64 _ _ (n + 1) rfl rfl rfl rfl (by rw [hz2]; omega) (by unfold maxLen; omega) (Nat.le_refl _) ?_; intro w3 hown3 hgrow3) | (at_make; refine wpList_make_full _ rfl _ _ 139 rfl w3.heap.size 140 i1 (.agg #[.bool false, .bool false, .bool false, .bool false]) 4 Tryz.underlying139 hj hy0 hy1 .i64 .i64 _ _ (n + 1) rfl rfl rfl rfl (by rw [hy2]; omega) (by unfold maxLen; omega) (Nat.le_refl _) ?_; intro w4 hown4 hgrow4) | (at_make; refine wpList_make_full _ rfl _ _ 138 rfl w4.heap.size 146 i0 (.agg #[.int .i64 0, .int .i64 0, .int .i64 0, .int .i64 0]) 4 Tryz.underlying138 hi hz0 hz1 .i64 .i64 _ _ (n + 1) rfl rfl rfl rfl (by rw [hz2]; omega) (by unfold maxLen; omega) (Nat.le_refl _) ?_; intro w5 hown5 hgrow5))
 have hs2 : w.heap.size + 1 ≤ w2.heap.size := by have := hb2.size; have := SZ.out; omega
 have l3 := (World.ownsRow.lt hown3 w2.heap.size rfl)
 have l4 := (World.ownsRow.lt hown4 w3.heap.size rfl)
 have hs3 := hgrow3.size
 have hs4 := hgrow4.size
 have b2 := below_next AW.out hb2 (Nat.le_refl _)
 have b3 := b2.grown hgrow3 (by omega) (fun k h => by cases h)
 have b4 := b3.grown hgrow4 (by omega) (fun k h => by cases h)
 have b5 := b4.grown hgrow5 (by omega) (fun k h => by cases h)
 have O5 : Hid (OwnI w5 w.heap.size (.slice (some ⟨w.heap.size, 0, none⟩) 0 0) []) := World.ownsRow.kept (World.ownsRow.kept (World.ownsRow.kept (owns_below OM.out hb2) hgrow3 (.inr (by show some _ ≠ none; simp))) hgrow4 (.inr (by show some _ ≠ none; simp))) hgrow5 (.inr (by show some _ ≠ none; simp))
 have T5 : Hid (TT w5 w.heap.size w3.heap.size w2.heap.size w4.heap.size n (S1 n 0)) := by
  refine ⟨?_, ?_, ?_⟩
  ·have h : Tv w4 w3.heap.size w3.heap.size (n + 1) 140 (fun _ => .bool false) := by
    unfold Tv
    rw [← made4]
    simpa [madeCells] using hown4
   refine Tv.congr (World.ownsRow.mono (World.ownsRow.kept h hgrow5 (.inr (by show some _ ≠ none; simp))) (by omega)) (fun j _ => ?_)
   unfold fB S1
   rw [if_neg (fun hh => by omega)]
   rfl
  ·have h : Tv w3 w2.heap.size w2.heap.size (n + 1) 146 (fun _ => .int .i64 0) := by
    unfold Tv
    rw [← made4]
    simpa [madeCells] using hown3
   exact Tv.congr (World.ownsRow.mono (World.ownsRow.kept (World.ownsRow.kept h hgrow4 (.inr (by show some _ ≠ none; simp))) hgrow5 (.inr (by show some _ ≠ none; simp))) (by omega)) (fun j _ => (S1_cst n 0 j).symm)
  ·have h : Tv w5 w4.heap.size w4.heap.size (n + 1) 146 (fun _ => .int .i64 0) := by
    unfold Tv
    rw [← made4]
    simpa [madeCells] using hown5
   exact Tv.congr (World.ownsRow.mono h (by omega)) (fun j _ => (S1_nxt n 0 j).symm)
 obtain ⟨g2, hg2⟩ : ∃ g, g = w2.heap.size := ⟨_, rfl⟩
 obtain ⟨g1, hg1⟩ : ∃ g, g = w3.heap.size := ⟨_, rfl⟩
 obtain ⟨g3, hg3⟩ : ∃ g, g = w4.heap.size := ⟨_, rfl⟩
 rw [← hg1, ← hg2, ← hg3] at T5
 have GN : Hid (g1 ≠ g2 ∧ g1 ≠ g3 ∧ g2 ≠ g3 ∧ w.heap.size < g1 ∧ w.heap.size < g2 ∧ w.heap.size < g3) := ⟨by omega, by omega, by omega, by omega, by omega, by omega⟩
 have B5 := Lib.hid b5
 rw [← hg1, ← hg2, ← hg3]
 clear hs2 l3 l4 hs3 hs4 b2 b3 b4 b5 hb2 hown3 hown4 hown5 hgrow3 hgrow4 hgrow5 hg1 hg2 hg3 hi hz0 hz1 hz2 hj hy0 hy1 hy2
 have TOP : Hid (∀ r l, r ≤ n → l < 4 → S1 n 4 r l = SD xs.length (best xs wd most) n r l) := fun r l hr hl => by
  have := SD_top xs wd most r l (by have := HN.out; omega) hl
  rw [← HN.out] at this ⊢
  exact this
 have OKA : Hid (∀ a l, a < n → best xs wd most a l = chooseTo xs wd most (best xs wd most) a l (n - a)) := fun a l ha => by rw [HN.out]; exact best_at xs wd most a l (by have := HN.out; omega)
 have CTS : Hid (∀ a (l : Int) k, chooseTo xs wd most (best xs wd most) a l (k + 1) = stepB xs wd most (best xs wd most) a l (chooseTo xs wd most (best xs wd most) a l k) (n - 1 - k)) := fun a l k => by rw [HN.out]; rfl
 go_loopw [13] (fun i wr => ∃ q : Nat, q ≤ 4 ∧ i = .int .i64 q ∧ Hid (TT wr w.heap.size g1 g2 g3 n (S1 n q)) ∧ Hid (OwnI wr w.heap.size (.slice (some ⟨w.heap.size, 0, none⟩) 0 0) []) ∧ Hid (Below w.heap.size w wr)) (fun i _ => 4 - (intOf i).toNat)
 case atStart => exact ⟨0, Nat.zero_le _, rfl, T5.out, O5.out, B5.out⟩
 case round =>
  obtain ⟨q, hq, rfl, h1, h2, h3⟩ := hrel
  clear T5 O5 B5
  by_cases hq4 : q < 4
  ·have hq4' : (q : Int) < 4 := by omega
   have x1 := h1.out.t1.at (j := n * 4 + q) (by omega)
   have y1 := h1.out.t1.frozen (n * 4 + q)
   have F := h1.out.first GN.out.1 GN.out.2.1 hq4
   have F1 := Lib.hid F.1
   have F2 := Lib.hid (World.ownsRow.kept h2.out F.2 (.inr (show some w.heap.size ≠ some g1 from fun e => by have := Option.some.inj e; have := GN.out; omega)))
   have F3 := Lib.hid (h3.out.grown F.2 h3.out.size (fun k hk => by cases hk; have := GN.out; omega))
   clear F h1 h2 h3
   go_wp2_with fail
   first
    | exact ⟨⟨q + 1, by omega, by go_num, F1.out, F2.out, F3.out⟩, by (simp [intOf]) <;> omega⟩
    | (go_roundw
       case rel => exact ⟨q + 1, by omega, by go_num, F1.out, F2.out, F3.out⟩
       case measure => (simp [intOf]) <;> omega)
  ·obtain rfl : q = 4 := by omega
   rw [show ((4 : Nat) : Int) = 4 from rfl]
   have T6 := Lib.hid (h1.out.congr TOP.out)
   have O6 := h2
   have B6 := h3
   clear h1 h2 h3 hq hq4
   go_wp2_with fail
   go_loopw [14] (fun i wr => ∃ m : Nat, m ≤ n ∧ i = .int .i64 ((m : Int) - 2) ∧ Hid (TT wr w.heap.size g1 g2 g3 n (SD xs.length (best xs wd most) m)) ∧ Hid (OwnI wr w.heap.size (.slice (some ⟨w.heap.size, 0, none⟩) 0 0) []) ∧ Hid (Below w.heap.size w wr)) (fun i _ => (intOf i + 2).toNat)
   case atStart => exact ⟨n, Nat.le_refl _, by go_num, T6.out, O6.out, B6.out⟩
   case round =>
    obtain ⟨m, hm, rfl, h1, h2, h3⟩ := hrel
    clear T6 O6 B6
    by_cases hm0 : 0 < m
    ·obtain ⟨a, rfl⟩ : ∃ a, m = a + 1 := ⟨m - 1, by omega⟩
     have han : a < n := by omega
     have e1 : ((a + 1 : Nat) : Int) - 2 = (a : Int) - 1 := by omega
     rw [e1]
     have hge : (-1 : Int) ≤ (a : Int) - 1 := by omega
     obtain ⟨dead, hlive⟩ : ∃ l : Bool, l = !(decide (a = 0) || brk xs (a - 1)) := ⟨_, rfl⟩
     have HLV := Lib.hid hlive
     have HE1 := Lib.hid e1
     clear hlive e1 hm0 hm
     go_upto_region 15 with fail
     go_cut [79] from 72 to 79 (fun v79 wx => v79 = .bool dead ∧ wx = wr)
     case first =>
      by_cases ha0 : a = 0
      ·have hn1 : ¬ (0 : Int) ≤ (a : Int) - 1 := by omega
       have LV : dead = false := by rw [HLV.out, decide_eq_true ha0]; rfl
       subst LV
       clear ha0
       go_wp2_with fail
       go_meet
       exact ⟨rfl, rfl⟩
      ·have hn1 : (0 : Int) ≤ (a : Int) - 1 := by omega
       have BR := specBreak_any b off cap n (a - 1) xs HX.out wr (HC.out.below h3.out) (by omega)
       rw [show ((a - 1 : Nat) : Int) = (a : Int) - 1 by omega] at BR
       have LV : brk xs (a - 1) = !dead := by rw [HLV.out, decide_eq_false ha0]; simp
       rw [LV] at BR
       have BRH := Lib.hid BR
       clear LV BR ha0
       go_wp2_with (go_at_call 123; refine BRH.out.mono ?_; rintro e w' ⟨rfl, rfl⟩)
       go_meet
       exact ⟨rfl, rfl⟩
     case rest =>
      obtain ⟨rfl, rfl⟩ := hcut
      cases dead
      rotate_left
      ·have DEAD : ∀ t, lineB xs a t = false := by
        have hh := HLV.out.symm
        rw [Bool.not_eq_true', Bool.or_eq_false_iff] at hh
        exact lineB_dead (by have := of_decide_eq_false hh.1; omega) hh.2
       have TK := Lib.hid (SD_dead xs wd most a (by have := HN.out; omega) DEAD ▸ h1.out)
       clear DEAD h1
       go_wp2_with fail
       first
        | exact ⟨⟨a, by omega, by have := HE1.out; go_num, TK.out, h2.out, h3.out⟩, by (simp [intOf]) <;> (have := HE1.out; omega)⟩
        | (go_roundw
           case rel => exact ⟨a, by omega, by have := HE1.out; go_num, TK.out, h2.out, h3.out⟩
           case measure => (simp [intOf]) <;> (have := HE1.out; omega))
      ·have TK0 := Lib.hid (SK_zero xs wd most (best xs wd most) a ▸ h1.out)
       have LNA := Lib.hid (fun t (hat : a ≤ t) (htn : t < n) (w' : World) (hb : Below w.heap.size w w') => specLine_any b off cap n a t xs HX.out w' (HC.out.below hb) hat htn)
       have STA := Lib.hid (fun t (hat : a ≤ t) (htn : t < n) (hs : start xs a ≤ t) (w' : World) (hb : Below w.heap.size w w') => specSet_any b off cap n a t xs HX.out w' (HC.out.below hb) hat htn hs wd HW.out)
       have BTA := Lib.hid (fun t (htn : t < n) bf lk hb hl (w' : World) (hbw : Below w.heap.size w w') => specBetween_any b off cap n a t xs w' (HC.out.below hbw) (by omega) htn bf lk hb hl)
       clear h1
       go_wp2_with fail
       go_loopw [15] (fun i wr => ∃ k : Nat, k ≤ n - a ∧ i = .int .i64 ((n : Int) - 1 - k) ∧ Hid (TT wr w.heap.size g1 g2 g3 n (SK xs wd most (best xs wd most) a k)) ∧ Hid (OwnI wr w.heap.size (.slice (some ⟨w.heap.size, 0, none⟩) 0 0) []) ∧ Hid (Below w.heap.size w wr)) (fun i _ => (intOf i + 1 - a).toNat)
       case atStart => exact ⟨0, Nat.zero_le _, by go_num, TK0.out, h2.out, h3.out⟩
       case round =>
        obtain ⟨k, hk, rfl, h1, h2, h3⟩ := hrel
        clear TK0
        by_cases hkn : k < n - a
        ·obtain ⟨t, ht⟩ : ∃ t : Nat, (t : Int) = (n : Int) - 1 - k := ⟨n - 1 - k, by omega⟩
         rw [← ht]
         have htk : n - 1 - k = t := by omega
         have hat : a ≤ t := by omega
         have htn : t < n := by omega
         have hgt : (a : Int) - 1 < (t : Int) := by omega
         have CT := Lib.hid (fun l : Int => htk ▸ CTS.out a l k)
         have LN := Lib.hid (LNA.out t hat htn)
         have HT := Lib.hid ht
         clear ht htk
         cases hlb : lineB xs a t with
         | false =>
          rw [hlb] at LN
          have TK := Lib.hid (h1.out.congr (fun r l hr hl => SK_same xs wd most (best xs wd most) a k (fun l _ => by rw [CT.out, stepB_none (lineC_dead hlb)]) r l hl))
          clear hlb h1
          go_wp2_with (go_at_call 124; refine (LN.out _ h3.out).mono ?_; rintro e w6 ⟨rfl, hb6⟩; have K1 := Lib.hid (TK.out.below hb6); have K2 := Lib.hid (owns_below h2.out hb6); have K3 := Lib.hid (below_next h3.out hb6 (Nat.le_refl _)))
          first
           | exact ⟨⟨k + 1, by omega, by have := HT.out; go_num, K1.out, K2.out, K3.out⟩, by (simp [intOf]) <;> (have := HT.out; omega)⟩
           | (go_roundw
              case rel => exact ⟨k + 1, by omega, by have := HT.out; go_num, K1.out, K2.out, K3.out⟩
              case measure => (simp [intOf]) <;> (have := HT.out; omega))
         | true =>
          rw [hlb] at LN
          have hst : start xs a ≤ t := by
           unfold lineB at hlb
           simp only [Bool.and_eq_true, decide_eq_true_eq] at hlb
           exact hlb.1.2.2
          have ST := STA.out t hat htn hst
          have lgb := lineG_bd HX.out.ok a t (by have := HN.out; omega)
          have LC : lineC xs wd most a t = if (setB (lineG xs a t) wd).1 < 0 ∨ most < (setB (lineG xs a t) wd).1 then none else some (costV (setB (lineG xs a t) wd).1 (it xs t).cost, looksV (setB (lineG xs a t) wd).2 (setB (lineG xs a t) wd).1) := by unfold lineC; rw [if_pos hlb]
          obtain ⟨⟨bad, st⟩, hR⟩ : ∃ R, R = setB (lineG xs a t) wd := ⟨_, rfl⟩
          rw [← hR] at ST LC
          unfold BadPost at ST
          simp only at ST LC
          have STH := Lib.hid ST
          clear hst lgb hR hlb ST
          by_cases hbad : bad < 0 ∨ most < bad
          ·rw [if_pos hbad] at LC
           have TK := Lib.hid (h1.out.congr (fun r l hr hl => SK_same xs wd most (best xs wd most) a k (fun l _ => by rw [CT.out, stepB_none LC]) r l hl))
           clear LC h1
           have ARM : Hid (∀ w6 : World, Below wr.heap.size wr w6 → ∀ w7 : World, Below w6.heap.size w6 w7 → TT w7 w.heap.size g1 g2 g3 n (SK xs wd most (best xs wd most) a (k + 1)) ∧ OwnI w7 w.heap.size (.slice (some ⟨w.heap.size, 0, none⟩) 0 0) [] ∧ Below w.heap.size w w7) := fun w6 c6 w7 c7 => ⟨(TK.out.below c6).below c7, owns_below (owns_below h2.out c6) c7, below_next (below_next h3.out c6 (Nat.le_refl _)) c7 (Nat.le_refl _)⟩
           by_cases hneg : bad < 0
           ·clear hbad
            go_wp2_with (first | (go_at_call 124; refine (LN.out _ h3.out).mono ?_; rintro e w6 ⟨rfl, hb6⟩; have K3 := Lib.hid (below_next h3.out hb6 (Nat.le_refl _))) | (go_at_call 125; refine (STH.out _ K3.out).mono ?_; rintro e w7 ⟨rfl, hb7⟩; have AR := Lib.hid (ARM.out w6 hb6 w7 hb7)))
            first
             | exact ⟨⟨k + 1, by omega, by have := HT.out; go_num, AR.out.1, AR.out.2.1, AR.out.2.2⟩, by (simp [intOf]) <;> (have := HT.out; omega)⟩
             | (go_roundw
                case rel => exact ⟨k + 1, by omega, by have := HT.out; go_num, AR.out.1, AR.out.2.1, AR.out.2.2⟩
                case measure => (simp [intOf]) <;> (have := HT.out; omega))
           ·have hmb : most < bad := by omega
            clear hbad
            go_wp2_with (first | (go_at_call 124; refine (LN.out _ h3.out).mono ?_; rintro e w6 ⟨rfl, hb6⟩; have K3 := Lib.hid (below_next h3.out hb6 (Nat.le_refl _))) | (go_at_call 125; refine (STH.out _ K3.out).mono ?_; rintro e w7 ⟨rfl, hb7⟩; have AR := Lib.hid (ARM.out w6 hb6 w7 hb7)))
            first
             | exact ⟨⟨k + 1, by omega, by have := HT.out; go_num, AR.out.1, AR.out.2.1, AR.out.2.2⟩, by (simp [intOf]) <;> (have := HT.out; omega)⟩
             | (go_roundw
                case rel => exact ⟨k + 1, by omega, by have := HT.out; go_num, AR.out.1, AR.out.2.1, AR.out.2.2⟩
                case measure => (simp [intOf]) <;> (have := HT.out; omega))
          ·rw [if_neg hbad] at LC
           obtain ⟨l, hl⟩ : ∃ l : Nat, (l : Int) = looksV st bad := ⟨(looksV st bad).toNat, by have := looksV_bd st bad; omega⟩
           have hl4 : l < 4 := by have := looksV_bd st bad; omega
           have hbad2 : 0 ≤ bad ∧ bad ≤ most := by omega
           have LOA : Hid (∀ w : World, Calls Tryz.prog 126 #[.bool st, .int .i64 bad] w fun e w' => e = .returned (.int .i64 (l : Int)) ∧ w = w') := fun w => by rw [hl]; exact specLooks_any st bad (by have := HM.out; omega) w
           rw [← hl] at LC
           have hn1 : ¬ bad < 0 := by omega
           have hn2 : ¬ most < bad := by omega
           obtain ⟨cx, hcx⟩ : ∃ cx, cx = (it xs t).cost := ⟨_, rfl⟩
           rw [← hcx] at LC
           have hco := (HX.out.at (j := t) (by have := HN.out; omega)).ok
           have hcc : (0 ≤ cx ∧ cx ≤ 10000) ∨ cx = -10000 := by
            rw [hcx]
            rcases hco.2 with h | h | h
            ·obtain ⟨_, _, _, _, h, _⟩ := h; omega
            ·obtain ⟨_, h, _⟩ := h; omega
            ·exact h.2.2.2.2
           have COA := Lib.hid (fun w => (specCost_any bad cx (by have := HM.out; omega) hcc w).mono fun _ _ ⟨he, hw⟩ => (⟨he, hw.symm⟩ : _ ∧ _ = w))
           have cvb := costV_bd (b := bad) (c := cx) (by omega) (by have := HM.out; omega) (by omega) (by omega)
           obtain ⟨c, hcv⟩ : ∃ c, c = costV bad cx := ⟨_, rfl⟩
           rw [← hcv] at LC COA cvb
           obtain ⟨cvb1, cvb2⟩ := cvb
           have HCX := Lib.hid hcx
           clear hbad hbad2 hl hco hcc hcv hcx
           have ARM : Hid (∀ w6 : World, Below wr.heap.size wr w6 → ∀ w7 : World, Below w6.heap.size w6 w7 → TT w7 w.heap.size g1 g2 g3 n (SK xs wd most (best xs wd most) a k) ∧ OwnI w7 w.heap.size (.slice (some ⟨w.heap.size, 0, none⟩) 0 0) [] ∧ Below w.heap.size w w7) := fun w6 c6 w7 c7 => ⟨(h1.out.below c6).below c7, owns_below (owns_below h2.out c6) c7, below_next (below_next h3.out c6 (Nat.le_refl _)) c7 (Nat.le_refl _)⟩
           have et1 : (t : Int) + 1 = ((t + 1 : Nat) : Int) := by omega
           cases hT : best xs wd most (t + 1) l with
           | none =>
            have CK : ∀ l' : Nat, l' < 4 → chooseTo xs wd most (best xs wd most) a l' (k + 1) = chooseTo xs wd most (best xs wd most) a l' k := fun l' _ => by rw [CT.out, stepB_dead LC hT]
            have CKH := Lib.hid CK
            clear CK LC et1
            go_wp2_with (first | (go_at_call 124; refine (LN.out _ h3.out).mono ?_; rintro e w6 ⟨rfl, hb6⟩; have K3 := Lib.hid (below_next h3.out hb6 (Nat.le_refl _))) | (go_at_call 125; refine (STH.out _ K3.out).mono ?_; rintro e w7 ⟨rfl, hb7⟩; have AR := Lib.hid (ARM.out w6 hb6 w7 hb7); have x1 := AR.out.1.t1.at (j := (t + 1) * 4 + l) (by omega); rw [fB_at _ _ _ hl4, SK_past _ _ _ _ _ _ _ _ (Nat.lt_succ_of_le hat), hT] at x1; dsimp only [Option.isSome] at x1) | (go_at_call 126; refine (LOA.out _).mono ?_; rintro e w' ⟨rfl, rfl⟩))
            have TK := Lib.hid (AR.out.1.congr (fun r l hr hl => SK_same xs wd most (best xs wd most) a k CKH.out r l hl))
            first
             | exact ⟨⟨k + 1, by omega, by have := HT.out; go_num, TK.out, AR.out.2.1, AR.out.2.2⟩, by (simp [intOf]) <;> (have := HT.out; omega)⟩
             | (go_roundw
                case rel => exact ⟨k + 1, by omega, by have := HT.out; go_num, TK.out, AR.out.2.1, AR.out.2.2⟩
                case measure => (simp [intOf]) <;> (have := HT.out; omega))
           | some p =>
            obtain ⟨r, ru⟩ := p
            have rb := best_bd HX.out.ok HM.out.2 xs.length (t + 1) l r ru (by omega) hT
            have rb1 : 0 ≤ r := rb.1
            have rb2 : r ≤ 12018000000 := by have := HX.out.len; omega
            obtain ⟨C, hC⟩ : ∃ C, C = c + r := ⟨_, rfl⟩
            have hC' : c + r = C := hC.symm
            have hCb : 0 ≤ C ∧ C ≤ 13000000000 := by omega
            obtain ⟨hCb1, hCb2⟩ := hCb
            have hwr : IntKind.i64.wrap C = C := i64_ok _ (by omega)
            have HLC := Lib.hid LC
            have HTT := Lib.hid hT
            clear hC rb LC et1
            go_wp2_with (first | (go_at_call 124; refine (LN.out _ h3.out).mono ?_; rintro e w6 ⟨rfl, hb6⟩; have K3 := Lib.hid (below_next h3.out hb6 (Nat.le_refl _))) | (go_at_call 125; refine (STH.out _ K3.out).mono ?_; rintro e w7 ⟨rfl, hb7⟩; have AR := Lib.hid (ARM.out w6 hb6 w7 hb7); have x1 := AR.out.1.t1.at (j := (t + 1) * 4 + l) (by omega); rw [fB_at _ _ _ hl4, SK_past _ _ _ _ _ _ _ _ (Nat.lt_succ_of_le hat), hT] at x1; dsimp only [Option.isSome] at x1; have x2 := AR.out.1.t2.at (j := (t + 1) * 4 + l) (by omega); rw [fC_at _ _ _ hl4, SK_past _ _ _ _ _ _ _ _ (Nat.lt_succ_of_le hat), hT] at x2; dsimp only [cst0] at x2; have x3 := ((HC.out.below AR.out.2.2).2.2 t htn).c5; rw [← HCX.out] at x3) | (go_at_call 126; refine (LOA.out _).mono ?_; rintro e w' ⟨rfl, rfl⟩))
            go_quiet (first | (go_at_call 127; refine Calls.quiet_of_same (COA.out _)))
            have TQ := Lib.hid ((SQ_zero xs wd most (best xs wd most) a k ▸ AR.out.1).drewN nq)
            have OQ : Hid (OwnI (w7.drewN nq) w.heap.size (.slice (some ⟨w.heap.size, 0, none⟩) 0 0) []) := AR.out.2.1
            have BQ := Lib.hid (below_drewN AR.out.2.2 nq)
            clear x1 x2 x3 hT
            go_wp2_with fail
            go_loopw [20] (fun i wr => ∃ q : Nat, q ≤ 4 ∧ i = .int .i64 q ∧ Hid (TT wr w.heap.size g1 g2 g3 n (SQ xs wd most (best xs wd most) a k q)) ∧ Hid (OwnI wr w.heap.size (.slice (some ⟨w.heap.size, 0, none⟩) 0 0) []) ∧ Hid (Below w.heap.size w wr)) (fun i _ => 4 - (intOf i).toNat)
            case atStart => exact ⟨0, Nat.zero_le _, rfl, TQ.out, OQ.out, BQ.out⟩
            case round =>
             obtain ⟨q, hq, rfl, h1, h2, h3⟩ := hrel
             clear TQ OQ BQ
             by_cases hq4 : q < 4
             ·have hq4' : (q : Int) < 4 := by omega
              have btb := between_bd xs a t q l
              have BW0 := BTA.out t htn (q : Int) (l : Int) (by omega) (by omega) wr h3.out
              obtain ⟨btw, hbt⟩ : ∃ z, z = between xs a t q l := ⟨_, rfl⟩
              rw [← hbt] at BW0 btb
              have BW := Lib.hid BW0
              have HBW := Lib.hid hbt.symm
              obtain ⟨btb1, btb2⟩ := btb
              have hws : IntKind.i64.wrap (C + btw) = C + btw := i64_ok _ (by omega)
              have CTQ := Lib.hid (CT.out (q : Int))
              have x1 := h1.out.t1.at (j := a * 4 + q) (by omega)
              rw [fB_at _ _ _ hq4, SQ_at] at x1
              have x2 := h1.out.t2.at (j := a * 4 + q) (by omega)
              rw [fC_at _ _ _ hq4, SQ_at] at x2
              clear hbt BW0
              cases hQ : chooseTo xs wd most (best xs wd most) a (q : Int) k with
              | none =>
               rw [hQ] at CTQ x1 x2
               dsimp only [cst0, Option.isSome] at x1 x2
               have CK := stepB_first (bf := (q : Int)) HLC.out HTT.out
               clear hQ
               have UP := Lib.hid (h1.out.put GN.out.1 GN.out.2.1 GN.out.2.2.1 a q hq4 (by omega) (C + btw) t)
               have UE : Hid (upd (SQ xs wd most (best xs wd most) a k q) a q (some (C + btw, t)) = SQ xs wd most (best xs wd most) a k (q + 1)) := by show _ = _; rw [← SQ_upd, CTQ.out, CK, show c + r + between xs a t q l = C + btw by rw [hC', HBW.out]]
               have a1 := h1.out.t1.put (a * 4 + q) (.bool true)
               have v2 := h1.out.t2.kept a1.2 (fun e => GN.out.1 (Option.some.inj e).symm)
               have a2 := v2.put (a * 4 + q) (.int .i64 (C + btw))
               have v3 := (h1.out.t3.kept a1.2 (fun e => GN.out.2.1 (Option.some.inj e).symm)).kept a2.2 (fun e => GN.out.2.2.1 (Option.some.inj e).symm)
               have a3 := v3.put (a * 4 + q) (.int .i64 t)
               have y1 := h1.out.t1.frozen (a * 4 + q)
               have y2 := v2.frozen (a * 4 + q)
               have y3 := v3.frozen (a * 4 + q)
               have z2 := v2.at (j := a * 4 + q) (by omega)
               have z3 := v3.at (j := a * 4 + q) (by omega)
               have UO := Lib.hid (World.ownsRow.kept (World.ownsRow.kept (World.ownsRow.kept h2.out a1.2 (.inr (show some w.heap.size ≠ some g1 from fun e => by have := Option.some.inj e; have := GN.out; omega))) a2.2 (.inr (show some w.heap.size ≠ some g2 from fun e => by have := Option.some.inj e; have := GN.out; omega))) a3.2 (.inr (show some w.heap.size ≠ some g3 from fun e => by have := Option.some.inj e; have := GN.out; omega)))
               have UB := Lib.hid (((h3.out.grown a1.2 h3.out.size (fun k hk => by cases hk; have := GN.out; omega)).grown a2.2 (Nat.le_trans h3.out.size a1.2.size) (fun k hk => by cases hk; have := GN.out; omega)).grown a3.2 (Nat.le_trans (Nat.le_trans h3.out.size a1.2.size) a2.2.size) (fun k hk => by cases hk; have := GN.out; omega))
               have UT := Lib.hid (UE.out ▸ UP.out)
               clear a1 v2 a2 v3 a3 UP h1 h2 h3 CK
               go_wp2_with (go_at_call 128; refine (BW.out).mono ?_; rintro e w' ⟨rfl, rfl⟩)
               first
                | exact ⟨⟨q + 1, by omega, by go_num, UT.out, UO.out, UB.out⟩, by (simp [intOf]) <;> omega⟩
                | (go_roundw
                   case rel => exact ⟨q + 1, by omega, by go_num, UT.out, UO.out, UB.out⟩
                   case measure => (simp [intOf]) <;> omega)
              | some p =>
               obtain ⟨m, mu⟩ := p
               rw [hQ] at CTQ x1 x2
               dsimp only [cst0, Option.isSome] at x1 x2
               by_cases hlt : C + btw < m
               ·have CK := stepB_lt (bf := (q : Int)) (u := mu) HLC.out HTT.out (by rw [hC', HBW.out]; exact hlt)
                clear hQ
                have UP := Lib.hid (h1.out.put GN.out.1 GN.out.2.1 GN.out.2.2.1 a q hq4 (by omega) (C + btw) t)
                have UE : Hid (upd (SQ xs wd most (best xs wd most) a k q) a q (some (C + btw, t)) = SQ xs wd most (best xs wd most) a k (q + 1)) := by show _ = _; rw [← SQ_upd, CTQ.out, CK, show c + r + between xs a t q l = C + btw by rw [hC', HBW.out]]
                have a1 := h1.out.t1.put (a * 4 + q) (.bool true)
                have v2 := h1.out.t2.kept a1.2 (fun e => GN.out.1 (Option.some.inj e).symm)
                have a2 := v2.put (a * 4 + q) (.int .i64 (C + btw))
                have v3 := (h1.out.t3.kept a1.2 (fun e => GN.out.2.1 (Option.some.inj e).symm)).kept a2.2 (fun e => GN.out.2.2.1 (Option.some.inj e).symm)
                have a3 := v3.put (a * 4 + q) (.int .i64 t)
                have y1 := h1.out.t1.frozen (a * 4 + q)
                have y2 := v2.frozen (a * 4 + q)
                have y3 := v3.frozen (a * 4 + q)
                have z2 := v2.at (j := a * 4 + q) (by omega)
                have z3 := v3.at (j := a * 4 + q) (by omega)
                have UO := Lib.hid (World.ownsRow.kept (World.ownsRow.kept (World.ownsRow.kept h2.out a1.2 (.inr (show some w.heap.size ≠ some g1 from fun e => by have := Option.some.inj e; have := GN.out; omega))) a2.2 (.inr (show some w.heap.size ≠ some g2 from fun e => by have := Option.some.inj e; have := GN.out; omega))) a3.2 (.inr (show some w.heap.size ≠ some g3 from fun e => by have := Option.some.inj e; have := GN.out; omega)))
                have UB := Lib.hid (((h3.out.grown a1.2 h3.out.size (fun k hk => by cases hk; have := GN.out; omega)).grown a2.2 (Nat.le_trans h3.out.size a1.2.size) (fun k hk => by cases hk; have := GN.out; omega)).grown a3.2 (Nat.le_trans (Nat.le_trans h3.out.size a1.2.size) a2.2.size) (fun k hk => by cases hk; have := GN.out; omega))
                have UT := Lib.hid (UE.out ▸ UP.out)
                clear a1 v2 a2 v3 a3 UP h1 h2 h3 CK
                go_wp2_with (go_at_call 128; refine (BW.out).mono ?_; rintro e w' ⟨rfl, rfl⟩)
                first
                 | exact ⟨⟨q + 1, by omega, by go_num, UT.out, UO.out, UB.out⟩, by (simp [intOf]) <;> omega⟩
                 | (go_roundw
                    case rel => exact ⟨q + 1, by omega, by go_num, UT.out, UO.out, UB.out⟩
                    case measure => (simp [intOf]) <;> omega)
               ·have CK := stepB_ge (bf := (q : Int)) (u := mu) HLC.out HTT.out (by rw [hC', HBW.out]; exact hlt)
                have TQ := Lib.hid (SQ_same xs wd most (best xs wd most) a k q (by rw [CTQ.out, CK, hQ]) ▸ h1.out)
                clear CK hQ h1
                go_wp2_with (go_at_call 128; refine (BW.out).mono ?_; rintro e w' ⟨rfl, rfl⟩)
                first
                 | exact ⟨⟨q + 1, by omega, by go_num, TQ.out, h2.out, h3.out⟩, by (simp [intOf]) <;> omega⟩
                 | (go_roundw
                    case rel => exact ⟨q + 1, by omega, by go_num, TQ.out, h2.out, h3.out⟩
                    case measure => (simp [intOf]) <;> omega)
             ·obtain rfl : q = 4 := by omega
              rw [show ((4 : Nat) : Int) = 4 from rfl]
              have TK := Lib.hid (h1.out.congr (fun r l _ hl => SQ_four xs wd most (best xs wd most) a k r l hl))
              clear h1
              go_wp2_with fail
              first
               | exact ⟨⟨k + 1, by omega, by have := HT.out; go_num, TK.out, h2.out, h3.out⟩, by (simp [intOf]) <;> (have := HT.out; omega)⟩
               | (go_roundw
                  case rel => exact ⟨k + 1, by omega, by have := HT.out; go_num, TK.out, h2.out, h3.out⟩
                  case measure => (simp [intOf]) <;> (have := HT.out; omega))
        ·obtain rfl : k = n - a := by omega
         have hend : ¬ (a : Int) - 1 < (n : Int) - 1 - ((n - a : Nat) : Int) := by omega
         have TK := Lib.hid (SK_all xs wd most (best xs wd most) a (n - a) (fun l => OKA.out a l han) ▸ h1.out)
         clear h1
         go_wp2_with fail
         first
          | exact ⟨⟨a, by omega, by have := HE1.out; go_num, TK.out, h2.out, h3.out⟩, by (simp [intOf]) <;> (have := HE1.out; omega)⟩
          | (go_roundw
             case rel => exact ⟨a, by omega, by have := HE1.out; go_num, TK.out, h2.out, h3.out⟩
             case measure => (simp [intOf]) <;> (have := HE1.out; omega))
    ·obtain rfl : m = 0 := by omega
     rw [show (((0 : Nat) : Int) - 2) = -2 from rfl]
     have x1 := h1.out.t1.at (j := 1) (by omega)
     rw [show fB (SD xs.length (best xs wd most) 0) 1 = .bool (best xs wd most 0 1).isSome from rfl] at x1
     have bsz : Hid (bestBreaks xs wd most = (best xs wd most 0 1).map fun _ => path xs wd most 0 1) := rfl
     cases hb0 : best xs wd most 0 1 with
     | none =>
      rw [hb0] at x1 bsz
      dsimp only [Option.isSome] at x1
      have E : Hid (bestBreaks xs wd most = none) := bsz.out
      clear hb0 bsz h1
      go_wp2
      go_ret2
      exact ⟨_, by rw [E.out]; rfl, by rw [E.out]; exact h2.out, h3.out⟩
     | some p0 =>
      rw [hb0] at x1 bsz
      dsimp only [Option.isSome] at x1
      have E : Hid (bestBreaks xs wd most = some (path xs wd most 0 1)) := bsz.out
      have Q0 : Hid (∃ q v, best xs wd most 0 1 = some (q, v)) := ⟨p0.1, p0.2, hb0⟩
      have T3 := Lib.hid h1.out.t3
      have NE0 : Hid (some g3 ≠ (Value.slice (some ⟨w.heap.size, 0, none⟩) 0 0).ownBlock) := (show some g3 ≠ some w.heap.size from fun e => by have := Option.some.inj e; have := GN.out; omega)
      have PEN := Lib.hid (fun lk => path_end xs wd most n lk (by have := HN.out; omega))
      have NX := Lib.hid (fun a (lk : Int) m u (ha : a < n) (h : best xs wd most a lk = some (m, u)) => (show a ≤ u ∧ u < n ∧ start xs a ≤ u ∧ (u + 1 < n → ∃ q v, best xs wd most (u + 1) (accL xs wd a (some (m, u))) = some (q, v)) ∧ 0 ≤ (setB (lineG xs a u) wd).1 ∧ (setB (lineG xs a u) wd).1 ≤ 10000 ∧ path xs wd most a lk = u :: path xs wd most (u + 1) (accL xs wd a (some (m, u))) by
       have hl : a < xs.length := by have := HN.out; omega
       obtain ⟨h1, h2, c, l, q, v, h3, h4, h5⟩ := best_next hl h
       have h6 := (lineC_some h3).2.2.2.2
       have h7 := (lineC_some h3).1
       have h8 := (lineC_some h3).2.1
       have h9 := (lineC_some h3).2.2.1
       have hst : start xs a ≤ u := by
        unfold lineB at h7
        simp only [Bool.and_eq_true, decide_eq_true_eq] at h7
        exact h7.1.2.2
       refine ⟨h1, by have := HN.out; omega, hst, fun _ => ⟨q, v, ?_⟩, h8, by have := HM.out; omega, path_at hl h⟩
       rw [h6] at h4
       exact h4))
      have STA := Lib.hid (fun a t (hat : a ≤ t) (htn : t < n) (hs : start xs a ≤ t) (w' : World) (hb : Below w.heap.size w w') => specSet_any b off cap n a t xs HX.out w' (HC.out.below hb) hat htn hs wd HW.out)
      clear hb0 bsz h1
      go_wp2_with fail
      go_loopw [8, 22, 23] (fun v i j wr => ∃ (a l : Nat) (pre : List Nat), a ≤ n ∧ l < 4 ∧ pre.length ≤ a ∧ i = .int .i64 ((a : Int) - 1) ∧ j = .int .i64 l ∧ Hid (path xs wd most 0 1 = pre ++ path xs wd most a l) ∧ Hid (a < n → ∃ q v, best xs wd most a l = some (q, v)) ∧ Hid (OwnI wr w.heap.size v (ints pre)) ∧ Hid (some g3 ≠ v.ownBlock) ∧ Hid (Tv wr w.heap.size g3 (n + 1) 146 (fN n (SD xs.length (best xs wd most) 0))) ∧ Hid (Below w.heap.size w wr)) (fun _ i _ _ => (n - 1 - intOf i).toNat)
      case atStart => exact ⟨0, 1, [], Nat.zero_le _, by omega, Nat.zero_le _, rfl, rfl, rfl, fun _ => Q0.out, h2.out, NE0.out, T3.out, h3.out⟩
      case round =>
       obtain ⟨a, l, pre, ha, hl4, hpl, rfl, rfl, hpp, hst, ho, hne, ht, hb⟩ := hrel
       clear h2 h3 T3 NE0 Q0
       by_cases han : a < n
       ·have hcond : (a : Int) - 1 < (n : Int) - 1 := by omega
        obtain ⟨m, u, hbu⟩ := hst.out han
        obtain ⟨n1, n2, n3, n4, n5, n6, n7⟩ := NX.out a l m u han hbu
        have c1 := ht.out.at (j := a * 4 + l) (by omega)
        have CE : fN n (SD xs.length (best xs wd most) 0) (a * 4 + l) = .int .i64 u := by
         rw [fN_at n _ _ _ hl4 (by omega)]
         show Value.int .i64 (nxt (if 0 ≤ a then best xs wd most a l else none)) = _
         rw [if_pos (Nat.zero_le _), hbu]
         rfl
        rw [CE] at c1
        have SB := STA.out a u n1 n2 n3
        unfold BadPost at SB
        obtain ⟨⟨bad, st⟩, hR⟩ : ∃ R, R = setB (lineG xs a u) wd := ⟨_, rfl⟩
        have hacc : accL xs wd a (some (m, u)) = looksV st bad := by show looksV (setB (lineG xs a u) wd).2 (setB (lineG xs a u) wd).1 = _; rw [← hR]
        rw [← hR] at SB n5 n6
        rw [hacc] at n4 n7
        simp only at SB n5 n6
        obtain ⟨l2, hl2⟩ : ∃ l2 : Nat, (l2 : Int) = looksV st bad := ⟨(looksV st bad).toNat, by have := looksV_bd st bad; omega⟩
        have hl24 : l2 < 4 := by have := looksV_bd st bad; omega
        have LOA : Hid (∀ w : World, Calls Tryz.prog 126 #[.bool st, .int .i64 bad] w fun e w' => e = .returned (.int .i64 (l2 : Int)) ∧ w = w') := fun w => by rw [hl2]; exact specLooks_any st bad ⟨n5, n6⟩ w
        rw [← hl2] at n4 n7
        have N4 := Lib.hid n4
        have N7 := Lib.hid (show path xs wd most 0 1 = (pre ++ [u]) ++ path xs wd most (u + 1) l2 by rw [hpp.out, n7, List.append_assoc]; rfl)
        have SBH := Lib.hid SB
        have XL : (ints pre).length ≤ 4000000 := by show (pre.map _).length ≤ _; rw [List.length_map]; omega
        have SA : Hid (ints pre ++ [(u : Int)] = ints (pre ++ [u])) := by show _ = _; rw [ints_app]; rfl
        obtain ⟨X, hX⟩ : ∃ X, X = ints pre := ⟨_, rfl⟩
        rw [← hX] at ho XL SA
        have HAN := Lib.hid han
        have HPL := Lib.hid hpl
        clear hX CE hbu hR hacc SB n4 n5 n6 n7 hl2 hpp hst han hpl ha
        go_wp2_with (first | (go_at_call 125; refine (SBH.out _ hb.out).mono ?_; rintro e w6 ⟨rfl, hb6⟩; have O6 := Lib.hid (owns_below ho.out hb6); have T6 := Lib.hid (ht.out.below hb6); have B6 := Lib.hid (below_next hb.out hb6 (Nat.le_refl _))) | (go_at_call 126; refine (LOA.out _).mono ?_; rintro e w' ⟨rfl, rfl⟩) | (at_builtin; refine append_num w w6 rfl _ _ rfl w.heap.size u8 X (u : Int) rfl rfl O6.out XL (Nat.le_refl _) B6.out ?_; intro v' w9 hown' hbel hmv hgr))
        have T9 := Lib.hid (T6.out.kept hgr hne.out)
        have NE := Lib.hid (moved_alloc hmv hne.out T6.out.lt.2)
        first
         | exact ⟨⟨u + 1, l2, pre ++ [u], by omega, hl24, by have := HPL.out; rw [List.length_append]; simp; omega, by go_num, rfl, N7.out, N4.out, by rw [← SA.out]; exact hown', NE.out, T9.out, hbel⟩, by (simp [intOf]) <;> (have := HAN.out; omega)⟩
         | (go_roundw
            case rel => exact ⟨u + 1, l2, pre ++ [u], by omega, hl24, by have := HPL.out; rw [List.length_append]; simp; omega, by go_num, rfl, N7.out, N4.out, by rw [← SA.out]; exact hown', NE.out, T9.out, hbel⟩
            case measure => (simp [intOf]) <;> (have := HAN.out; omega))
       ·obtain rfl : a = n := by omega
        have hcond : ¬ (a : Int) - 1 < (a : Int) - 1 := by omega
        have E2 : Hid (bestBreaks xs wd most = some pre) := by
         show _ = _
         rw [E.out, hpp.out, PEN.out l, List.append_nil]
        go_wp2
        go_ret2
        exact ⟨_, by rw [E2.out]; rfl, by rw [E2.out]; exact ho.out, hb.out⟩
end Go.Proofs.YtofnchdijanikaaGreatDoor
namespace Go.Proofs.YtofnchdijanikaaGreatDoor
open Go.RowKit
theorem info_Item : (Tryz.prog.info? 113).map (fun i => (i.zero, i.size, i.bytes)) = some (some (.agg #[.int .i64 0, .int .i64 0, .int .i64 0, .int .i64 0, .int .i64 0, .int .i64 0, .bool false]), 7, 56) := by kernel_rfl
def OwnX (w : World) (B : Nat) (v : Value) (xs : List DItem) : Prop := w.ownsRow B 113 7 v xs.length (xs.flatMap encI)
theorem OwnX.nil (w : World) (B : Nat) : OwnX w B (.slice none 0 0) [] := ⟨rfl, .inl ⟨rfl, rfl⟩⟩
theorem OwnX.made (w : World) {B : Nat} (hB : B ≤ w.heap.size) : OwnX (w.alloc (.cells #[] 113)) B (.slice (some ⟨w.heap.size, 0, none⟩) 0 0) [] := World.ownsRow_made w #[] 0 hB (Nat.zero_le _) rfl
theorem OwnX.row {w : World} {B : Nat} {v : Value} {xs : List DItem} (h : OwnX w B v xs) : SRow 7 encI w v xs := SRow.of_owns encI_len rfl h
theorem OwnX.below {w w' : World} {B : Nat} {v : Value} {xs : List DItem} (h : OwnX w B v xs) (hb : Below w.heap.size w w') : OwnX w' B v xs := owns_below h hb
theorem flat_encI (xs : List DItem) : (xs.flatMap encI).length = xs.length * 7 := flatMap_len encI 7 xs (fun x _ => encI_len x)
theorem append_items (w wr : World) {ops : Array Oper} {rest : List Oper} {o : Oper} {a : Act} {Q : Exit → Act → World → Prop} (hgd : o.guard = none) (s x : Operand)
  (ho : o.op = .call { callee := .builtin .append, args := #[s, x], argTypes := #[107, 107] }) (B : Nat) (v : Value) (xs ys : List DItem) (b off c : Nat)
  (hs : a.eval s = v) (hx : a.eval x = .slice (some ⟨b, off, none⟩) ys.length c) (hown : OwnX wr B v xs) (hy : ∀ j u, (ys.flatMap encI)[j]? = some u → wr.cell? ⟨b, off + j, none⟩ = some u) (hn : xs.length ≤ 10000) (hm : ys.length ≤ 10000) (hB : B ≤ w.heap.size) (hb : Below B w wr)
  (h : ∀ v' w', OwnX w' B v' (xs ++ ys) → Below B w w' → Moved wr v v' → wr.grownBy w' v.ownBlock → wpList Tryz.prog ops Q rest (a.put o.dst v') w') :
  wpList Tryz.prog ops Q (o :: rest) a wr := by
 obtain ⟨i0, hi, hz0, hz1, hz2⟩ := info_parts info_Item
 have hws := hb.size
 refine append_mine _ hgd s x 107 ho B 113 i0 (.agg #[.int .i64 0, .int .i64 0, .int .i64 0, .int .i64 0, .int .i64 0, .int .i64 0, .bool false]) 7 56 Tryz.underlying107 hi hz0 hz1 hz2 rfl (by decide) v xs.length _ hs hown ⟨b, off, none⟩ ys.length c (ys.flatMap encI) hx (flat_encI ys) ?_ ?_ (by unfold maxLen; omega) (by omega) (by omega) ?_
 ·intro j u hu
  have e1 : ((⟨b, off, none⟩ : Addr).add j) = ⟨b, off + j, none⟩ := by unfold Addr.add; split <;> simp_all
  rw [e1]
  exact hy j u hu
 ·intro u hu
  rw [List.mem_flatMap] at hu
  obtain ⟨y, _, hu⟩ := hu
  unfold encI at hu
  simp only [List.mem_cons, List.not_mem_nil, or_false] at hu
  rcases hu with rfl | rfl | rfl | rfl | rfl | rfl | rfl <;> rfl
 ·intro v' w' h1 h2 h3
  refine h v' w' ?_ (below_grown hb h2 hown (Nat.le_refl _) hB) h3 h2
  unfold OwnX
  rw [List.length_append, List.flatMap_append]
  exact h1
theorem append_item (w wr : World) {ops : Array Oper} {rest : List Oper} {o : Oper} {a : Act} {Q : Exit → Act → World → Prop} (hgd : o.guard = none) (s x : Operand)
  (ho : o.op = .call { callee := .builtin .append, args := #[s, x], argTypes := #[107, 107] }) (B : Nat) (v : Value) (xs : List DItem) (y : DItem)
  (hs : a.eval s = v) (hx : a.eval x = .slice (some ⟨wr.heap.size, 0, none⟩) 1 1) (hown : OwnX wr B v xs) (hn : xs.length ≤ 10000) (hB : B ≤ w.heap.size) (hb : Below B w wr)
  (h : ∀ v' w', OwnX w' B v' (xs ++ [y]) → Below B w w' → Moved (wr.alloc (.cells #[.int .i64 y.kind, .int .i64 y.w, .int .i64 y.st, .int .i64 y.sh, .int .i64 y.od, .int .i64 y.cost, .bool y.mark] 113)) v v' → wr.grownBy w' v.ownBlock → wpList Tryz.prog ops Q rest (a.put o.dst v') w') :
  wpList Tryz.prog ops Q (o :: rest) a (wr.alloc (.cells #[.int .i64 y.kind, .int .i64 y.w, .int .i64 y.st, .int .i64 y.sh, .int .i64 y.od, .int .i64 y.cost, .bool y.mark] 113)) := by
 refine append_items w _ hgd s x ho B v xs [y] wr.heap.size 0 1 hs hx (World.ownsRow.alloc hown _) ?_ hn (by simp) hB (hb.alloc (Nat.le_trans hB hb.size) _) ?_
 ·intro j u hu
  have hj : j < 7 := by have := (List.getElem?_eq_some_iff.1 hu).1; rw [flat_encI] at this; simpa using this
  rw [Nat.zero_add, World.cell?_alloc_at _ _ _ _ rfl]
  have e : [y].flatMap encI = encI y := by simp
  rw [e] at hu
  show (encI y).toArray[j]? = some u
  simpa using hu
 ·intro v' w' h1 h2 h3 h4
  exact h v' w' h1 h2 h3 (grownBy_trans (World.grownBy_alloc wr _ _) h4)
def ItsPost (xs : List DItem) (w : World) (e : Ending) (w' : World) : Prop := ∃ v, e = .returned v ∧ OwnX w' w.heap.size v xs ∧ Below w.heap.size w w'
end Go.Proofs.YtofnchdijanikaaGreatDoor
namespace Go.Proofs.YtofnchdijanikaaGreatDoor
open Go.RowKit
theorem apart_kept {w w' : World} {v : Value} {b off m : Nat} {f : Nat → Value} (hg : w.grownBy w' v.ownBlock) (hb : b < w.heap.size) (hne : some b ≠ v.ownBlock) (h : ∀ j, j < m → w.cell? ⟨b, off + j, none⟩ = some (f j)) : ∀ j, j < m → w'.cell? ⟨b, off + j, none⟩ = some (f j) := fun j hj => by
 rw [World.cell?_of_block (hg.block b hb hne)]
 exact h j hj
theorem wordTo_first (ps : List (List UInt8)) : wordTo ps 1 = wordTo ps 0 ++ [boxI (width (ps.getD 0 []))] := rfl
theorem wordTo_more (ps : List (List UInt8)) (k : Nat) (h : 0 < k) : wordTo ps (k + 1) = (wordTo ps k ++ [hyI]) ++ [boxI (width (ps.getD k []))] := by
 rw [wordTo, if_pos h, ← List.append_assoc]
set_option maxHeartbeats 16000000 in
theorem specWordI_any (word : List UInt8) (hv : wordB word = true) (pv : Value) (ps : List (List UInt8)) (hps : patsB ps = true) (w : World) (hr : TxtS w pv ps) :
  Calls Tryz.prog 121 #[.string (bs word), pv] w (ItsPost (wordI (parts word ps)) w) := by
 have O0 : Hid (OwnX (w.alloc (.cells #[] 113)) w.heap.size (.slice (some ⟨w.heap.size, 0, none⟩) 0 0) []) := OwnX.made w (Nat.le_refl _)
 have B0 := Lib.hid ((Below.refl w.heap.size w).alloc (Nat.le_refl _) (.cells #[] 113))
 have HP := Lib.hid (specHParts_any word hv pv ps hps _ (hr.below B0.out))
 have pg := (parts_good ps hv).1
 have pl := parts_len word ps
 have pl2 := places_len word ps
 have wl := (wordB_true hv).2.2
 obtain ⟨P, hP⟩ : ∃ P, P = parts word ps := ⟨_, rfl⟩
 rw [← hP] at HP pg pl ⊢
 obtain ⟨m, hm⟩ : ∃ m, m = P.length := ⟨_, rfl⟩
 have m0 : 0 < m := by omega
 have m40 : m ≤ 40 := by omega
 have HM := Lib.hid hm
 have PG := Lib.hid (fun k (hk : k < m) => (show wordB (P.getD k []) = true by rw [getD_eq P [] k (by omega)]; exact pg _ (List.getElem_mem _)))
 have WL := Lib.hid (fun k => wordTo_len P k)
 have EM : Hid (wordI P = wordTo P m) := by show _ = _; rw [hm]; rfl
 clear hm hP pg pl pl2 wl hv hps hr
 go_enter Tryz.func121, Tryz.ntmps121
 go_wp2_with (go_at_call 99; refine HP.out.mono ?_; rintro e w2 ⟨v, rfl, hlo, hbw⟩; obtain ⟨pb, poff, pcap, rfl, hll, LC⟩ := own_pos HM.out m0 hlo; have hlg := (hlo.lt pb rfl).1)
 have O1 : Hid (OwnX w2 w.heap.size (.slice (some ⟨w.heap.size, 0, none⟩) 0 0) (wordTo P 0)) := O0.out.below hbw
 have B1 : Hid (Below w.heap.size w w2) := below_next B0.out hbw (Nat.le_refl _)
 have AP0 : some pb ≠ Value.ownBlock (.slice (some ⟨w.heap.size, 0, none⟩) 0 0) := by
  have e : w.heap.size < pb := by simp at hlg; omega
  intro h
  have this : pb = w.heap.size := Option.some.inj h
  omega
 have AP := Lib.hid AP0
 have HLL := Lib.hid hll
 clear O0 hbw hlo AP0 hll hlg B0
 go_loopw [5, 7] (fun v i wr => ∃ k : Nat, k ≤ m ∧ i = .int .i64 k ∧ Hid (OwnX wr w.heap.size v (wordTo P k)) ∧ Hid (Below w.heap.size w wr) ∧ Hid (some pb ≠ v.ownBlock) ∧ Hid (pb < wr.heap.size) ∧ Hid (∀ j, j < m → wr.cell? ⟨pb, poff + j, none⟩ = some (.string (bs (P.getD j []))))) (fun _ i _ => m - (intOf i).toNat)
 case atStart => exact ⟨0, Nat.zero_le _, rfl, O1.out, B1.out, AP.out, HLL.out, LC.out⟩
 case round =>
  obtain ⟨k, hk, rfl, ho, hb, hap, hlb, hl⟩ := hrel
  clear O1 B1 AP HLL LC
  have hwr := hb.out.size
  by_cases hlt : k < m
  ·have c1 := hl.out k hlt
   have WW := Lib.hid (fun w => specWidth_any (P.getD k []) (PG.out k hlt) w)
   have XL : (wordTo P k).length ≤ 10000 := by have := WL.out k; omega
   have W1 := Lib.hid (wordTo_first P)
   have WM := Lib.hid (fun h => wordTo_more P k h)
   obtain ⟨p, hp⟩ : ∃ p, p = P.getD k [] := ⟨_, rfl⟩
   obtain ⟨X, hX⟩ : ∃ X, X = wordTo P k := ⟨_, rfl⟩
   have HPK := Lib.hid hp
   have HX := Lib.hid hX
   rw [← hp] at c1 WW WM
   rw [← hX] at XL ho WM
   obtain ⟨W, hW⟩ : ∃ W, W = width p := ⟨_, rfl⟩
   rw [← hW] at WW WM
   have HW := Lib.hid hW
   clear hp hX hW
   by_cases h0 : 0 < k
   ·have h0' : (0 : Int) < (k : Int) := by omega
    have XL2 : (X ++ [hyI]).length ≤ 10000 := by rw [List.length_append]; have := WL.out k; rw [← HX.out] at this; simp; omega
    have S2 := Lib.hid (WM.out h0)
    clear h0 WM W1
    go_wp2_with (first | (at_builtin; refine append_item w wr rfl _ _ rfl w.heap.size u5 X hyI rfl rfl ho.out XL (Nat.le_refl _) hb.out ?_; intro v1 w5 hown1 hbel1 hmv1 hgr1; have K1 := Lib.hid (apart_kept hgr1 hlb.out hap.out hl.out); have c2 := K1.out k hlt; rw [← HPK.out] at c2) | (go_at_call 151; refine (WW.out _).mono ?_; rintro e w6 ⟨rfl, hb6⟩) | (at_builtin; refine append_item w w6 rfl _ _ rfl w.heap.size v1 (X ++ [hyI]) (boxI W) rfl rfl (hown1.below hb6) XL2 (Nat.le_refl _) (below_next hbel1 hb6 (Nat.le_refl _)) ?_; intro v2 w7 hown2 hbel2 hmv2 hgr2))
    have A1 : some pb ≠ v1.ownBlock := moved_alloc hmv1 hap.out hlb.out
    have L5 : pb < w5.heap.size := Nat.lt_of_lt_of_le hlb.out hgr1.size
    have L6 : pb < w6.heap.size := Nat.lt_of_lt_of_le L5 hb6.size
    have K6 : ∀ j, j < m → w6.cell? ⟨pb, poff + j, none⟩ = some (.string (bs (P.getD j []))) := fun j hj => (hb6.cell (p := ⟨pb, poff + j, none⟩) L5).trans (K1.out j hj)
    have K7 := Lib.hid (apart_kept hgr2 L6 A1 K6)
    have A7 := Lib.hid (moved_alloc hmv2 A1 L6)
    have L7 : Hid (pb < w7.heap.size) := Nat.lt_of_lt_of_le L6 hgr2.size
    go_roundw
    case rel => exact ⟨k + 1, by omega, by go_num, by rw [S2.out]; exact hown2, hbel2, A7.out, L7.out, K7.out⟩
    case measure => simp [intOf]; omega
   ·have h0' : ¬ (0 : Int) < (k : Int) := by omega
    have S2 : Hid (wordTo P (k + 1) = X ++ [boxI W]) := by
     show _ = _
     have k0 : k = 0 := by omega
     rw [HX.out, HW.out, HPK.out, k0]
     rfl
    clear h0 WM W1
    go_wp2_with (first | (go_at_call 151; refine (WW.out _).mono ?_; rintro e w6 ⟨rfl, hb6⟩) | (at_builtin; refine append_item w w6 rfl _ _ rfl w.heap.size u5 X (boxI W) rfl rfl (ho.out.below hb6) XL (Nat.le_refl _) (below_next hb.out hb6 (Nat.le_refl _)) ?_; intro v2 w7 hown2 hbel2 hmv2 hgr2))
    have L6 : pb < w6.heap.size := Nat.lt_of_lt_of_le hlb.out hb6.size
    have K6 : ∀ j, j < m → w6.cell? ⟨pb, poff + j, none⟩ = some (.string (bs (P.getD j []))) := fun j hj => (hb6.cell (p := ⟨pb, poff + j, none⟩) hlb.out).trans (hl.out j hj)
    have K7 := Lib.hid (apart_kept hgr2 L6 hap.out K6)
    have A7 := Lib.hid (moved_alloc hmv2 hap.out L6)
    have L7 : Hid (pb < w7.heap.size) := Nat.lt_of_lt_of_le L6 hgr2.size
    go_roundw
    case rel => exact ⟨k + 1, by omega, by go_num, by rw [S2.out]; exact hown2, hbel2, A7.out, L7.out, K7.out⟩
    case measure => simp [intOf]; omega
  ·obtain rfl : k = m := by omega
   go_wp2_with fail
   go_ret
   exact ⟨_, rfl, by rw [EM.out]; exact ho.out, hb.out⟩
end Go.Proofs.YtofnchdijanikaaGreatDoor

/-
  PROVED HERE: what the printer's lines need, part C12. Conditions: each theorem's own.
-/
import Derived.Test.YtofnchdijanikaaGreatDoorC11
set_option linter.unusedVariables false
set_option linter.unusedSimpArgs false
set_option maxRecDepth 100000
namespace Go.Proofs.YtofnchdijanikaaGreatDoor
open Go.RowKit
def ixTo (xs : List DItem) (s : Nat) : Nat → List Nat
 | 0 => []
 | j + 1 => if s ≤ j ∧ (it xs j).kind ≠ 3 then ixTo xs s j ++ [j] else ixTo xs s j
theorem ixTo_glues (xs : List DItem) (s : Nat) : ∀ j, gluesTo xs s j = (ixTo xs s j).map fun k => (it xs k).space
 | 0 => rfl
 | j + 1 => by
  rw [gluesTo, ixTo]
  split
  ·rw [List.map_append, ixTo_glues xs s j]; rfl
  ·exact ixTo_glues xs s j
theorem ixTo_len (xs : List DItem) (s : Nat) : ∀ j, (ixTo xs s j).length ≤ j
 | 0 => Nat.le_refl _
 | j + 1 => by
  have := ixTo_len xs s j
  rw [ixTo]
  split
  ·rw [List.length_append]; simp; omega
  ·omega
theorem ixTo_lt (xs : List DItem) (s : Nat) : ∀ j, ∀ k ∈ ixTo xs s j, k < j
 | 0, k, h => by cases h
 | j + 1, k, h => by
  rw [ixTo] at h
  split at h
  ·rw [List.mem_append, List.mem_singleton] at h
   rcases h with h | rfl
   ·have := ixTo_lt xs s j k h; omega
   ·omega
  ·have := ixTo_lt xs s j k h; omega
theorem ixTo_none (xs : List DItem) (s : Nat) : ∀ k, k ≤ s → ixTo xs s k = []
 | 0, _ => rfl
 | k + 1, h => by
  rw [ixTo, if_neg (fun hh => by omega)]
  exact ixTo_none xs s k (by omega)
theorem ixTo_next (xs : List DItem) (s k : Nat) (h : s ≤ k) : ixTo xs s (k + 1) = if (it xs k).kind ≠ 3 then ixTo xs s k ++ [k] else ixTo xs s k := by
 rw [ixTo]
 by_cases h3 : (it xs k).kind ≠ 3
 ·rw [if_pos ⟨h, h3⟩, if_pos h3]
 ·rw [if_neg (fun hh => h3 hh.2), if_neg h3]
def lineX (xs : List DItem) (a t : Nat) : List Nat := if lineB xs a t = true then ixTo xs (start xs a) t else []
def ItemsPost (xs : List DItem) (a t : Nat) (w : World) (e : Ending) (w' : World) : Prop := ∃ v, e = .returned (.tuple #[v, .bool (lineB xs a t)]) ∧ OwnI w' w.heap.size v (ints (lineX xs a t)) ∧ Below w.heap.size w w'
theorem lineX_no {xs : List DItem} {a t : Nat} (h : lineB xs a t = false) : lineX xs a t = [] := by unfold lineX; rw [h]; rfl
theorem lineX_yes {xs : List DItem} {a t : Nat} (h : lineB xs a t = true) : lineX xs a t = ixTo xs (start xs a) t := by unfold lineX; rw [if_pos h]
set_option maxHeartbeats 16000000 in
theorem implLine_any (b off cap n a t : Nat) (xs : List DItem) (hx : PIs xs) (w : World) (hc : ItC w b off n xs) (hat : a ≤ t) (htn : t < n) : Calls Tryz.prog 139 #[.slice (some ⟨b, off, none⟩) n cap, .int .i64 ((a : Int) - 1), .int .i64 t] w (ItemsPost xs a t w) := by
 have n60 : n ≤ 60 := by rw [hc.1]; exact hx.len
 have LB := Lib.hid (lineB_is xs a t hat)
 have VA := Lib.hid (fun w hc => implItems_any b off cap n xs hx w hc)
 have BA := Lib.hid (fun w hc k (hk : k < n) => implBreak_any b off cap n k xs hx w hc hk)
 have SA := Lib.hid (fun w hc => implStart_any b off cap n a xs hx w hc (by omega))
 have HX := Lib.hid hx
 have HC := Lib.hid hc
 have NB := Lib.hid (fun j (h1 : a ≤ j) (h2 : j < t) h => noForced_bad (xs := xs) h1 h2 h)
 have NG := Lib.hid (fun h => noForced_good (xs := xs) (a := a) (tz := t) h)
 have XN := Lib.hid (fun h => lineX_no (xs := xs) (a := a) (t := t) h)
 have XY := Lib.hid (fun h => lineX_yes (xs := xs) (a := a) (t := t) h)
 have sl := start_le xs a
 obtain ⟨s, hs⟩ : ∃ s, s = start xs a := ⟨_, rfl⟩
 rw [← hs] at LB SA XY sl
 clear hx hc hs
 have tz : ¬ (t : Int) ≤ (a : Int) - 1 := by omega
 by_cases ha : a = 0
 ·have e0 : ((a : Nat) : Int) - 1 = -1 := by omega
  have A0 : Hid ((0 : Int) = (a : Int)) := by show _ = _; omega
  rw [e0] at SA tz ⊢
  rw [decide_eq_true ha, Bool.true_or, Bool.true_and] at LB
  have tzd := decide_eq_false tz
  clear e0 ha tz
  have nm : ((-1 : Int) != -1) = false := rfl
  cases f_bt : brk xs t
  ·skip
   have E : Hid (lineB xs a t = false) := by show _ = _; rw [LB.out]; simp [f_bt]
   have h_bt := Lib.hid f_bt
   clear f_bt
   go_enter Tryz.func139, Tryz.ntmps139
   go_wp2_with (first | (go_at_call 164; refine (VA.out _ HC.out).mono ?_; rintro e w1 ⟨rfl, hb1⟩) | (go_at_call 166; refine (BA.out _ (HC.out.below hb1) _ (by assumption)).mono ?_; rintro e w' ⟨rfl, rfl⟩; first | rw [h_bt.out]))
   go_ret2
   exact ⟨.slice none 0 0, by rw [E.out]; rfl, by rw [XN.out E.out]; exact OwnI.nil _ _, hb1⟩
  ·by_cases f_st : s ≤ t
   ·have st' : ¬ (t : Int) < (s : Int) := by omega
    have st2 : decide (t < s) = false := decide_eq_false (by omega)
    have LF : Hid (lineB xs a t = noForced xs a t) := by show _ = _; rw [LB.out]; simp [f_bt, f_st]
    have h_bt := Lib.hid f_bt
    clear f_bt
    go_enter Tryz.func139, Tryz.ntmps139
    go_wp2_with (first | (go_at_call 164; refine (VA.out _ HC.out).mono ?_; rintro e w1 ⟨rfl, hb1⟩) | (go_at_call 166; refine (BA.out _ (HC.out.below hb1) _ (by assumption)).mono ?_; rintro e w' ⟨rfl, rfl⟩; first | rw [h_bt.out]) | (go_at_call 167; refine (SA.out _ (HC.out.below hb1)).mono ?_; rintro e w2 ⟨rfl, hb2⟩))
    have B2 := Lib.hid (below_next hb1 hb2 (Nat.le_refl _))
    have C2 := Lib.hid ((HC.out.below hb1).below hb2)
    clear hb1 hb2
    go_loopw [8] (fun i wr => ∃ j : Nat, a ≤ j ∧ j ≤ t ∧ i = .int .i64 j ∧ Hid (∀ q, a ≤ q → q < j → isForced (it xs q) = false) ∧ Hid (Below w.heap.size w wr)) (fun i _ => t - (intOf i).toNat)
    case atStart => exact ⟨a, Nat.le_refl _, hat, by rw [← A0.out], fun q h1 h2 => by omega, B2.out⟩
    case round =>
     obtain ⟨j, haj, hj, rfl, hf, hb⟩ := hrel
     by_cases hlt : j < t
     ·have hjn : j < n := by omega
      obtain ⟨c0, c1, c2, c3, c4, c5, c6⟩ := (HC.out.below hb.out).2.2 j hjn
      have hp := HX.out.at (j := j) (by rw [← HC.out.1]; exact hjn)
      have BAD := Lib.hid (fun h => NB.out j haj hlt h)
      have NX := Lib.hid (fun (h : isForced (it xs j) = false) q (h1 : a ≤ q) (h2 : q < j + 1) => (if e : q = j then e ▸ h else hf.out q h1 (by omega) : isForced (it xs q) = false))
      obtain ⟨x, hxx⟩ : ∃ x, x = it xs j := ⟨_, rfl⟩
      rw [← hxx] at c0 c1 c2 c3 c4 c5 c6 hp BAD NX
      have FV := Lib.hid (fun w => forced_any x hp w)
      unfold itV at FV
      clear hxx hp
      cases f_x : isForced x
      ·have NN := Lib.hid (NX.out f_x)
       rw [f_x] at FV
       clear f_x NX BAD hf
       go_wp2_with (go_at_call 168; refine (FV.out _).mono ?_; rintro e w3 ⟨rfl, hb3⟩)
       have B3 := Lib.hid (below_next hb.out hb3 (Nat.le_refl _))
       clear hb3
       first
        | exact ⟨⟨j + 1, by omega, by omega, by go_num, NN.out, B3.out⟩, by simp [intOf]; omega⟩
        | (go_roundw
           case rel => exact ⟨j + 1, by omega, by omega, by go_num, NN.out, B3.out⟩
           case measure => simp [intOf]; omega)
      ·have E : Hid (lineB xs a t = false) := by show _ = _; rw [LF.out]; exact BAD.out f_x
       rw [f_x] at FV
       clear f_x NX BAD hf
       go_wp2_with (go_at_call 168; refine (FV.out _).mono ?_; rintro e w3 ⟨rfl, hb3⟩)
       go_ret2
       exact ⟨.slice none 0 0, by rw [E.out]; rfl, by rw [XN.out E.out]; exact OwnI.nil _ _, below_next hb.out hb3 (Nat.le_refl _)⟩
     ·obtain rfl : j = t := by omega
      have E : Hid (lineB xs a j = true) := by show _ = _; rw [LF.out]; exact NG.out (fun q h1 h2 => hf.out q h1 h2)
      have C3 := Lib.hid (HC.out.below hb.out)
      have X0 : Hid (ints (ixTo xs s s) = []) := by show _ = _; rw [ixTo_none xs s s (Nat.le_refl _)]; rfl
      clear hf LF B2 C2
      go_wp2_with (go_at_call 167; refine (SA.out _ C3.out).mono ?_; rintro e w4 ⟨rfl, hb4⟩)
      have B4 := Lib.hid (below_next hb.out hb4 (Nat.le_refl _))
      have O4 : Hid (OwnI w4 w.heap.size (.slice none 0 0) (ints (ixTo xs s s))) := by show OwnI _ _ _ _; rw [X0.out]; exact OwnI.nil _ _
      clear hb4 hb C3
      go_loopw [9, 10] (fun v i wr => ∃ k : Nat, s ≤ k ∧ k ≤ j ∧ i = .int .i64 k ∧ Hid (OwnI wr w.heap.size v (ints (ixTo xs s k))) ∧ Hid (Below w.heap.size w wr)) (fun _ i _ => j - (intOf i).toNat)
      case atStart => exact ⟨s, Nat.le_refl _, f_st, rfl, O4.out, B4.out⟩
      case round =>
       obtain ⟨k, hsk, hk, rfl, ho, hb⟩ := hrel
       clear O4 B4
       by_cases hlk : k < j
       ·have hkn : k < n := by omega
        obtain ⟨c0, c1, c2, c3, c4, c5, c6⟩ := (HC.out.below hb.out).2.2 k hkn
        have XL : (ints (ixTo xs s k)).length ≤ 4000000 := by have := ixTo_len xs s k; rw [ints_len]; omega
        have NX := Lib.hid (ixTo_next xs s k hsk)
        obtain ⟨x, hxx⟩ : ∃ x, x = it xs k := ⟨_, rfl⟩
        rw [← hxx] at c0 c1 c2 c3 c4 c5 c6 NX
        obtain ⟨X, hX⟩ : ∃ X, X = ints (ixTo xs s k) := ⟨_, rfl⟩
        have HXX := Lib.hid hX
        rw [← hX] at XL ho
        clear hxx hX
        by_cases h3 : x.kind = 3
        ·have q3 : (x.kind != 3) = false := by rw [h3]; rfl
         have S2 : Hid (ints (ixTo xs s (k + 1)) = X) := by show _ = _; rw [NX.out, if_neg (by simp [h3]), HXX.out]
         clear h3 NX
         go_wp2_with fail
         first
          | exact ⟨⟨k + 1, by omega, by omega, by go_num, by rw [S2.out]; exact ho.out, hb.out⟩, by simp [intOf]; omega⟩
          | (go_roundw
             case rel => exact ⟨k + 1, by omega, by omega, by go_num, by rw [S2.out]; exact ho.out, hb.out⟩
             case measure => simp [intOf]; omega)
        ·have q3 : (x.kind != 3) = true := by rw [bne_iff_ne]; exact h3
         have S2 : Hid (ints (ixTo xs s (k + 1)) = X ++ [(k : Int)]) := by show _ = _; rw [NX.out, if_pos h3, ints_app, HXX.out]; rfl
         clear h3 NX
         go_wp2_with (at_builtin; refine append_num w wr rfl _ _ rfl w.heap.size u9 X (k : Int) rfl rfl ho.out XL (Nat.le_refl _) hb.out ?_; intro v' w5 hown' hbel hmv hgr)
         go_roundw
         case rel => exact ⟨k + 1, by omega, by omega, by go_num, by rw [S2.out]; exact hown', hbel⟩
         case measure => simp [intOf]; omega
       ·obtain rfl : k = j := by omega
        go_wp2_with fail
        go_ret2
        exact ⟨u9, by rw [E.out]; rfl, by rw [XY.out E.out]; exact ho.out, hb.out⟩
   ·have st' : (t : Int) < (s : Int) := by omega
    have E : Hid (lineB xs a t = false) := by show _ = _; rw [LB.out]; simp [f_bt, f_st]
    have h_bt := Lib.hid f_bt
    clear f_bt f_st
    go_enter Tryz.func139, Tryz.ntmps139
    go_wp2_with (first | (go_at_call 164; refine (VA.out _ HC.out).mono ?_; rintro e w1 ⟨rfl, hb1⟩) | (go_at_call 166; refine (BA.out _ (HC.out.below hb1) _ (by assumption)).mono ?_; rintro e w' ⟨rfl, rfl⟩; first | rw [h_bt.out]) | (go_at_call 167; refine (SA.out _ (HC.out.below hb1)).mono ?_; rintro e w2 ⟨rfl, hb2⟩))
    go_ret2
    exact ⟨.slice none 0 0, by rw [E.out]; rfl, by rw [XN.out E.out]; exact OwnI.nil _ _, below_next hb1 hb2 (Nat.le_refl _)⟩
 ·obtain ⟨k0, hk0⟩ : ∃ k, a = k + 1 := ⟨a - 1, by omega⟩
  have e0 : ((a : Nat) : Int) - 1 = (k0 : Int) := by omega
  have nm : ((k0 : Int) != -1) = true := by rw [bne_iff_ne]; omega
  have kn : k0 < n := by omega
  have ak : a - 1 = k0 := by omega
  have k1a : (k0 : Int) + 1 = (a : Int) := by omega
  rw [e0] at SA tz ⊢
  rw [ak, decide_eq_false ha, Bool.false_or] at LB
  have tzd := decide_eq_false tz
  have tzn : decide (t ≤ k0) = false := decide_eq_false (by omega)
  clear e0 ak hk0 ha tz
  cases f_ba : brk xs k0
  ·skip
   have E : Hid (lineB xs a t = false) := by show _ = _; rw [LB.out]; simp [f_ba]
   have h_ba := Lib.hid f_ba
   clear f_ba
   go_enter Tryz.func139, Tryz.ntmps139
   go_wp2_with (first | (go_at_call 164; refine (VA.out _ HC.out).mono ?_; rintro e w1 ⟨rfl, hb1⟩) | (go_at_call 166; refine (BA.out _ (HC.out.below hb1) _ (by assumption)).mono ?_; rintro e w' ⟨rfl, rfl⟩; first | rw [h_ba.out]))
   go_ret2
   exact ⟨.slice none 0 0, by rw [E.out]; rfl, by rw [XN.out E.out]; exact OwnI.nil _ _, hb1⟩
  ·cases f_bt : brk xs t
   ·skip
    have E : Hid (lineB xs a t = false) := by show _ = _; rw [LB.out]; simp [f_ba, f_bt]
    have h_ba := Lib.hid f_ba
    have h_bt := Lib.hid f_bt
    clear f_ba f_bt
    go_enter Tryz.func139, Tryz.ntmps139
    go_wp2_with (first | (go_at_call 164; refine (VA.out _ HC.out).mono ?_; rintro e w1 ⟨rfl, hb1⟩) | (go_at_call 166; refine (BA.out _ (HC.out.below hb1) _ (by assumption)).mono ?_; rintro e w' ⟨rfl, rfl⟩; first | rw [h_ba.out] | rw [h_bt.out]))
    go_ret2
    exact ⟨.slice none 0 0, by rw [E.out]; rfl, by rw [XN.out E.out]; exact OwnI.nil _ _, hb1⟩
   ·by_cases f_st : s ≤ t
    ·have st' : ¬ (t : Int) < (s : Int) := by omega
     have st2 : decide (t < s) = false := decide_eq_false (by omega)
     have LF : Hid (lineB xs a t = noForced xs a t) := by show _ = _; rw [LB.out]; simp [f_ba, f_bt, f_st]
     have h_ba := Lib.hid f_ba
     have h_bt := Lib.hid f_bt
     clear f_ba f_bt
     go_enter Tryz.func139, Tryz.ntmps139
     go_wp2_with (first | (go_at_call 164; refine (VA.out _ HC.out).mono ?_; rintro e w1 ⟨rfl, hb1⟩) | (go_at_call 166; refine (BA.out _ (HC.out.below hb1) _ (by assumption)).mono ?_; rintro e w' ⟨rfl, rfl⟩; first | rw [h_ba.out] | rw [h_bt.out]) | (go_at_call 167; refine (SA.out _ (HC.out.below hb1)).mono ?_; rintro e w2 ⟨rfl, hb2⟩))
     have B2 := Lib.hid (below_next hb1 hb2 (Nat.le_refl _))
     have C2 := Lib.hid ((HC.out.below hb1).below hb2)
     clear hb1 hb2
     go_loopw [8] (fun i wr => ∃ j : Nat, a ≤ j ∧ j ≤ t ∧ i = .int .i64 j ∧ Hid (∀ q, a ≤ q → q < j → isForced (it xs q) = false) ∧ Hid (Below w.heap.size w wr)) (fun i _ => t - (intOf i).toNat)
     case atStart => exact ⟨a, Nat.le_refl _, hat, by rfl, fun q h1 h2 => by omega, B2.out⟩
     case round =>
      obtain ⟨j, haj, hj, rfl, hf, hb⟩ := hrel
      by_cases hlt : j < t
      ·have hjn : j < n := by omega
       obtain ⟨c0, c1, c2, c3, c4, c5, c6⟩ := (HC.out.below hb.out).2.2 j hjn
       have hp := HX.out.at (j := j) (by rw [← HC.out.1]; exact hjn)
       have BAD := Lib.hid (fun h => NB.out j haj hlt h)
       have NX := Lib.hid (fun (h : isForced (it xs j) = false) q (h1 : a ≤ q) (h2 : q < j + 1) => (if e : q = j then e ▸ h else hf.out q h1 (by omega) : isForced (it xs q) = false))
       obtain ⟨x, hxx⟩ : ∃ x, x = it xs j := ⟨_, rfl⟩
       rw [← hxx] at c0 c1 c2 c3 c4 c5 c6 hp BAD NX
       have FV := Lib.hid (fun w => forced_any x hp w)
       unfold itV at FV
       clear hxx hp
       cases f_x : isForced x
       ·have NN := Lib.hid (NX.out f_x)
        rw [f_x] at FV
        clear f_x NX BAD hf
        go_wp2_with (go_at_call 168; refine (FV.out _).mono ?_; rintro e w3 ⟨rfl, hb3⟩)
        have B3 := Lib.hid (below_next hb.out hb3 (Nat.le_refl _))
        clear hb3
        first
         | exact ⟨⟨j + 1, by omega, by omega, by go_num, NN.out, B3.out⟩, by simp [intOf]; omega⟩
         | (go_roundw
            case rel => exact ⟨j + 1, by omega, by omega, by go_num, NN.out, B3.out⟩
            case measure => simp [intOf]; omega)
       ·have E : Hid (lineB xs a t = false) := by show _ = _; rw [LF.out]; exact BAD.out f_x
        rw [f_x] at FV
        clear f_x NX BAD hf
        go_wp2_with (go_at_call 168; refine (FV.out _).mono ?_; rintro e w3 ⟨rfl, hb3⟩)
        go_ret2
        exact ⟨.slice none 0 0, by rw [E.out]; rfl, by rw [XN.out E.out]; exact OwnI.nil _ _, below_next hb.out hb3 (Nat.le_refl _)⟩
      ·obtain rfl : j = t := by omega
       have E : Hid (lineB xs a j = true) := by show _ = _; rw [LF.out]; exact NG.out (fun q h1 h2 => hf.out q h1 h2)
       have C3 := Lib.hid (HC.out.below hb.out)
       have X0 : Hid (ints (ixTo xs s s) = []) := by show _ = _; rw [ixTo_none xs s s (Nat.le_refl _)]; rfl
       clear hf LF B2 C2
       go_wp2_with (go_at_call 167; refine (SA.out _ C3.out).mono ?_; rintro e w4 ⟨rfl, hb4⟩)
       have B4 := Lib.hid (below_next hb.out hb4 (Nat.le_refl _))
       have O4 : Hid (OwnI w4 w.heap.size (.slice none 0 0) (ints (ixTo xs s s))) := by show OwnI _ _ _ _; rw [X0.out]; exact OwnI.nil _ _
       clear hb4 hb C3
       go_loopw [9, 10] (fun v i wr => ∃ k : Nat, s ≤ k ∧ k ≤ j ∧ i = .int .i64 k ∧ Hid (OwnI wr w.heap.size v (ints (ixTo xs s k))) ∧ Hid (Below w.heap.size w wr)) (fun _ i _ => j - (intOf i).toNat)
       case atStart => exact ⟨s, Nat.le_refl _, f_st, rfl, O4.out, B4.out⟩
       case round =>
        obtain ⟨k, hsk, hk, rfl, ho, hb⟩ := hrel
        clear O4 B4
        by_cases hlk : k < j
        ·have hkn : k < n := by omega
         obtain ⟨c0, c1, c2, c3, c4, c5, c6⟩ := (HC.out.below hb.out).2.2 k hkn
         have XL : (ints (ixTo xs s k)).length ≤ 4000000 := by have := ixTo_len xs s k; rw [ints_len]; omega
         have NX := Lib.hid (ixTo_next xs s k hsk)
         obtain ⟨x, hxx⟩ : ∃ x, x = it xs k := ⟨_, rfl⟩
         rw [← hxx] at c0 c1 c2 c3 c4 c5 c6 NX
         obtain ⟨X, hX⟩ : ∃ X, X = ints (ixTo xs s k) := ⟨_, rfl⟩
         have HXX := Lib.hid hX
         rw [← hX] at XL ho
         clear hxx hX
         by_cases h3 : x.kind = 3
         ·have q3 : (x.kind != 3) = false := by rw [h3]; rfl
          have S2 : Hid (ints (ixTo xs s (k + 1)) = X) := by show _ = _; rw [NX.out, if_neg (by simp [h3]), HXX.out]
          clear h3 NX
          go_wp2_with fail
          first
           | exact ⟨⟨k + 1, by omega, by omega, by go_num, by rw [S2.out]; exact ho.out, hb.out⟩, by simp [intOf]; omega⟩
           | (go_roundw
              case rel => exact ⟨k + 1, by omega, by omega, by go_num, by rw [S2.out]; exact ho.out, hb.out⟩
              case measure => simp [intOf]; omega)
         ·have q3 : (x.kind != 3) = true := by rw [bne_iff_ne]; exact h3
          have S2 : Hid (ints (ixTo xs s (k + 1)) = X ++ [(k : Int)]) := by show _ = _; rw [NX.out, if_pos h3, ints_app, HXX.out]; rfl
          clear h3 NX
          go_wp2_with (at_builtin; refine append_num w wr rfl _ _ rfl w.heap.size u9 X (k : Int) rfl rfl ho.out XL (Nat.le_refl _) hb.out ?_; intro v' w5 hown' hbel hmv hgr)
          go_roundw
          case rel => exact ⟨k + 1, by omega, by omega, by go_num, by rw [S2.out]; exact hown', hbel⟩
          case measure => simp [intOf]; omega
        ·obtain rfl : k = j := by omega
         go_wp2_with fail
         go_ret2
         exact ⟨u9, by rw [E.out]; rfl, by rw [XY.out E.out]; exact ho.out, hb.out⟩
    ·have st' : (t : Int) < (s : Int) := by omega
     have E : Hid (lineB xs a t = false) := by show _ = _; rw [LB.out]; simp [f_ba, f_bt, f_st]
     have h_ba := Lib.hid f_ba
     have h_bt := Lib.hid f_bt
     clear f_ba f_bt f_st
     go_enter Tryz.func139, Tryz.ntmps139
     go_wp2_with (first | (go_at_call 164; refine (VA.out _ HC.out).mono ?_; rintro e w1 ⟨rfl, hb1⟩) | (go_at_call 166; refine (BA.out _ (HC.out.below hb1) _ (by assumption)).mono ?_; rintro e w' ⟨rfl, rfl⟩; first | rw [h_ba.out] | rw [h_bt.out]) | (go_at_call 167; refine (SA.out _ (HC.out.below hb1)).mono ?_; rintro e w2 ⟨rfl, hb2⟩))
     go_ret2
     exact ⟨.slice none 0 0, by rw [E.out]; rfl, by rw [XN.out E.out]; exact OwnI.nil _ _, below_next hb1 hb2 (Nat.le_refl _)⟩
end Go.Proofs.YtofnchdijanikaaGreatDoor
namespace Go.Proofs.YtofnchdijanikaaGreatDoor
open Go.RowKit
theorem implItemsOf_any (b off cap n a t : Nat) (xs : List DItem) (hx : PIs xs) (w : World) (hc : ItC w b off n xs) (hat : a ≤ t) (htn : t < n) : Calls Tryz.prog 107 #[.slice (some ⟨b, off, none⟩) n cap, .int .i64 ((a : Int) - 1), .int .i64 t] w (NumsPost (ints (lineX xs a t)) w) := by
 have LI := Lib.hid (implLine_any b off cap n a t xs hx w hc hat htn)
 clear hx hc
 go_enter Tryz.func107, Tryz.ntmps107
 go_wp2_with (go_at_call 139; refine LI.out.mono ?_; rintro e w2 ⟨v, rfl, hown, hbel⟩)
 go_ret
 exact ⟨_, rfl, hown, hbel⟩
theorem info_Glue : (Tryz.prog.info? 71).map (fun i => (i.zero, i.size, i.bytes)) = some (some (.agg #[.int .i64 0, .int .i64 0, .int .i64 0, .int .i64 0]), 4, 32) := by kernel_rfl
def OwnG (w : World) (B : Nat) (v : Value) (gs : List DGlue) : Prop := w.ownsRow B 71 4 v gs.length (gs.flatMap encG)
theorem OwnG.nil (w : World) (B : Nat) : OwnG w B (.slice none 0 0) [] := ⟨rfl, .inl ⟨rfl, rfl⟩⟩
theorem OwnG.row {w : World} {B : Nat} {v : Value} {gs : List DGlue} (h : OwnG w B v gs) : SRow 4 encG w v gs := SRow.of_owns encG_len rfl h
theorem append_glue (w wr : World) {ops : Array Oper} {rest : List Oper} {o : Oper} {a : Act} {Q : Exit → Act → World → Prop} (hgd : o.guard = none) (s x : Operand)
  (ho : o.op = .call { callee := .builtin .append, args := #[s, x], argTypes := #[202, 202] }) (B : Nat) (v : Value) (gs : List DGlue) (g : DGlue)
  (hs : a.eval s = v) (hx : a.eval x = .slice (some ⟨wr.heap.size, 0, none⟩) 1 1) (hown : OwnG wr B v gs) (hn : gs.length ≤ 4000000) (hB : B ≤ w.heap.size) (hb : Below B w wr)
  (h : ∀ v' w', OwnG w' B v' (gs ++ [g]) → Below B w w' → Moved (wr.alloc (.cells #[.int .i64 g.w, .int .i64 g.st, .int .i64 g.sh, .int .i64 g.od] 71)) v v' → wr.grownBy w' v.ownBlock → wpList Tryz.prog ops Q rest (a.put o.dst v') w') :
  wpList Tryz.prog ops Q (o :: rest) a (wr.alloc (.cells #[.int .i64 g.w, .int .i64 g.st, .int .i64 g.sh, .int .i64 g.od] 71)) := by
 obtain ⟨i0, hi, hz0, hz1, hz2⟩ := info_parts info_Glue
 have hws := hb.size
 refine append_mine _ hgd s x 202 ho B 71 i0 (.agg #[.int .i64 0, .int .i64 0, .int .i64 0, .int .i64 0]) 4 32 Tryz.underlying202 hi hz0 hz1 hz2 rfl (by decide) v gs.length _ hs (World.ownsRow.alloc hown _) ⟨wr.heap.size, 0, none⟩ 1 1 [.int .i64 g.w, .int .i64 g.st, .int .i64 g.sh, .int .i64 g.od] hx rfl (by simpa using cells_new wr [_, _, _, _] _) (by intro u hu; simp at hu; rcases hu with rfl | rfl | rfl | rfl <;> rfl) (by unfold maxLen; omega) (by omega) (by simp; omega) ?_
 intro v' w' h1 h2 h3
 refine h v' w' ?_ ?_ h3 (grownBy_trans (World.grownBy_alloc wr _ _) h2)
 ·unfold OwnG
  rw [List.length_append, List.flatMap_append]
  exact h1
 ·exact below_append hb hB hown h2
def GlOkPost (xs : List DItem) (a t : Nat) (w : World) (e : Ending) (w' : World) : Prop := e = .returned (.tuple #[glV (if lineB xs a t = true then lineG xs a t else zG), .bool (lineB xs a t)]) ∧ Below w.heap.size w w'
def spc (xs : List DItem) (l : List Nat) : List DGlue := l.map fun k => (it xs k).space
theorem spc_take (xs : List DItem) (l : List Nat) (k : Nat) (h : k < l.length) : spc xs (l.take (k + 1)) = spc xs (l.take k) ++ [(it xs (l.getD k 0)).space] := by
 unfold spc
 rw [List.take_succ_eq_append_getElem h, List.map_append]
 simp [List.getD, h]
set_option maxHeartbeats 16000000 in
theorem implGlueOf_any (b off cap n a t : Nat) (xs : List DItem) (hx : PIs xs) (w : World) (hc : ItC w b off n xs) (hat : a ≤ t) (htn : t < n) : Calls Tryz.prog 191 #[.slice (some ⟨b, off, none⟩) n cap, .int .i64 ((a : Int) - 1), .int .i64 t] w (GlOkPost xs a t w) := by
 have n60 : n ≤ 60 := by rw [hc.1]; exact hx.len
 have HX := Lib.hid hx
 have HC := Lib.hid hc
 have HL := Lib.hid (show lineG xs a t = sumG (gluesTo xs (start xs a) t ++ (if (it xs t).kind = 3 then [(it xs t).space] else [])) from rfl)
 have IG := Lib.hid (ixTo_glues xs (start xs a) t)
 have IL := Lib.hid (ixTo_lt xs (start xs a) t)
 have IN := ixTo_len xs (start xs a) t
 have GO := Lib.hid (gluesTo_ok hx.ok (start xs a) t (by rw [← hc.1]; omega))
 have PT := hx.at (j := t) (by rw [← hc.1]; exact htn)
 have R0 := GlOwn.made w (B := w.heap.size) (Nat.le_refl _) 0 0 0 0
 have B0 := (Below.refl w.heap.size w).alloc (Nat.le_refl _) (.cells #[.int .i64 0, .int .i64 0, .int .i64 0, .int .i64 0] 71)
 have LI := Lib.hid (implLine_any b off cap n a t xs hx (w.alloc (.cells #[.int .i64 0, .int .i64 0, .int .i64 0, .int .i64 0] 71)) (hc.below ((Below.refl w.heap.size w).alloc (Nat.le_refl _) (.cells #[.int .i64 0, .int .i64 0, .int .i64 0, .int .i64 0] 71))) hat htn)
 have XY := Lib.hid (fun h => lineX_yes (xs := xs) (a := a) (t := t) h)
 obtain ⟨s, hs⟩ : ∃ s, s = start xs a := ⟨_, rfl⟩
 rw [← hs] at HL IG IL IN GO XY
 clear hx hs
 have gt := PT.ok.1
 have HR0 := Lib.hid R0
 have HB0 := Lib.hid B0
 clear R0 B0 hc PT
 cases hlb : lineB xs a t
 ·have E : Hid (lineB xs a t = false) := hlb
  go_enter Tryz.func191, Tryz.ntmps191
  go_wp2_with (go_at_call 139; refine LI.out.mono ?_; rintro e w2 ⟨v, rfl, hown, hbel⟩; rw [hlb]; have R2 := HR0.out.keep hbel; obtain ⟨r0, r1, r2, r3⟩ := R2.cells; have y0 := R2.free 0; have y1 := R2.free 1; have y2 := R2.free 2; have y3 := R2.free 3; have HR2 := Lib.hid R2; clear R2)
  obtain ⟨rf0, rf1, rf2, rf3⟩ := gl_read HR2.out 0 0 0 0
  have B2 := below_next HB0.out hbel (Nat.le_refl _)
  have BF := Lib.hid (gl_put HR2.out B2 (Nat.le_refl _) 0 0 0 0)
  refine bodyPost_ret (v := .tuple #[.agg #[.int .i64 0, .int .i64 0, .int .i64 0, .int .i64 0], .bool false]) (by simp [results, Tryz.results191, go_sem, rf0, rf1, rf2, rf3]) rfl ⟨by rw [hlb]; rfl, BF.out⟩
 ·have E : Hid (lineB xs a t = true) := hlb
  have HG := Lib.hid (show (if lineB xs a t = true then lineG xs a t else zG) = lineG xs a t by rw [hlb]; rfl)
  obtain ⟨L, hL⟩ : ∃ L, L = ixTo xs s t := ⟨_, rfl⟩
  have XL : Hid (lineX xs a t = L) := by show _ = _; rw [XY.out hlb, hL]
  have LI2 := LI.out
  unfold ItemsPost at LI2
  rw [XL.out, hlb] at LI2
  have LI3 := Lib.hid LI2
  have IG2 : Hid (gluesTo xs s t = spc xs L) := by show _ = _; rw [IG.out, hL]; rfl
  rw [← hL] at IL IN
  rw [IG2.out] at HL GO
  have gok := GO.out
  clear hL LI2 LI XL hlb IG XY
  by_cases h0 : L.length = 0
  ·obtain rfl : L = [] := List.eq_nil_of_length_eq_zero h0
   go_enter Tryz.func191, Tryz.ntmps191
   go_wp2_with (go_at_call 139; refine LI3.out.mono ?_; rintro e w2 ⟨v, rfl, hown, hbel⟩; obtain ⟨la, lcap, rfl⟩ := (OwnI.row hown).empty)
   have HR2 := Lib.hid (HR0.out.keep hbel)
   have B2 := Lib.hid (below_next HB0.out hbel (Nat.le_refl _))
   obtain ⟨wr, hwr⟩ : ∃ wr, wr = w2 := ⟨_, rfl⟩
   have hog : Hid (OwnG wr w2.heap.size (.slice none 0 0) (spc xs [])) := OwnG.nil _ _
   have hb : Hid (Below w2.heap.size w2 wr) := by show Below _ _ _; rw [hwr]; exact Below.refl _ _
   rw [← hwr]
   clear hown hbel h0 hwr
   refine wp_loop_rounds 1 ?_
   rw [rounds_succ]
   have bw := below_next B2.out hb.out (Nat.le_refl _)
   obtain ⟨c0, c1, c2, c3, c4, c5, c6⟩ := (HC.out.below bw).2.2 t htn
   obtain ⟨x, hxx⟩ : ∃ x, x = it xs t := ⟨_, rfl⟩
   rw [← hxx] at c0 c1 c2 c3 c4 c5 c6 HL gt
   have HSL : (spc xs []).length ≤ 60 := by unfold spc; rw [List.length_map]; omega
   obtain ⟨GS, hGS⟩ : ∃ GS, GS = spc xs [] := ⟨_, rfl⟩
   rw [← hGS] at HSL hog HL gok
   have GL2 : GS.length ≤ 4000000 := by omega
   obtain ⟨gok1, gok2⟩ := gok
   have GOK := Lib.hid gok1
   clear hxx hGS bw gok1 gok2
   by_cases h3 : x.kind = 3
   ·have q3 : (x.kind == 3) = true := by rw [h3]; rfl
    have S2 : Hid (lineG xs a t = sumG (GS ++ [x.space])) := by show _ = _; rw [HL.out, if_pos h3]
    have GA : Hid (∀ g ∈ GS ++ [x.space], GlueOk g) := fun g hg => by
     rw [List.mem_append, List.mem_singleton] at hg
     rcases hg with hg | rfl
     ·exact GOK.out g hg
     ·exact gt
    have GN : (GS ++ [x.space]).length ≤ 61 := by rw [List.length_append]; simp; omega
    obtain ⟨C, hC⟩ : ∃ C, C = sumG (GS ++ [x.space]) := ⟨_, rfl⟩
    have TT := Lib.hid (fun v w (h : SRow 4 encG w v (GS ++ [x.space])) => implTotal_any v (GS ++ [x.space]) w h GA.out GN)
    rw [← hC] at S2 TT
    unfold GluePost glV at TT
    clear h3 hC HL gt
    go_wp2_with (first | (at_builtin; refine append_glue w2 wr rfl _ _ rfl w2.heap.size (.slice none 0 0) GS x.space rfl rfl hog.out GL2 (Nat.le_refl _) hb.out ?_; intro v' w5 hown' hbel hmv hgr) | (go_at_call 194; refine (TT.out _ _ hown'.row).mono ?_; rintro e w6 ⟨rfl, hb6⟩; have R6 := (HR2.out.keep hbel).keep hb6; obtain ⟨r0, r1, r2, r3⟩ := R6.cells; have y0 := R6.free 0; have y1 := R6.free 1; have y2 := R6.free 2; have y3 := R6.free 3; have HR6 := Lib.hid R6; clear R6))
    obtain ⟨rf0, rf1, rf2, rf3⟩ := gl_read HR6.out C.w C.st C.sh C.od
    have BF := Lib.hid (gl_put HR6.out (below_next (below_next B2.out hbel (Nat.le_refl _)) hb6 (Nat.le_refl _)) (Nat.le_refl _) C.w C.st C.sh C.od)
    refine bodyPost_ret (v := .tuple #[.agg #[.int .i64 C.w, .int .i64 C.st, .int .i64 C.sh, .int .i64 C.od], .bool true]) (by simp [results, Tryz.results191, go_sem, rf0, rf1, rf2, rf3]) rfl ⟨by rw [HG.out, E.out, S2.out]; rfl, BF.out⟩
   ·have q3 : (x.kind == 3) = false := by rw [beq_eq_false_iff_ne]; exact h3
    have S2 : Hid (lineG xs a t = sumG GS) := by show _ = _; rw [HL.out, if_neg h3, List.append_nil]
    have GN : GS.length ≤ 61 := by omega
    obtain ⟨C, hC⟩ : ∃ C, C = sumG GS := ⟨_, rfl⟩
    have TT := Lib.hid (fun v w (h : SRow 4 encG w v GS) => implTotal_any v GS w h GOK.out GN)
    rw [← hC] at S2 TT
    unfold GluePost glV at TT
    clear h3 hC HL gt
    go_wp2_with (go_at_call 194; refine (TT.out _ _ hog.out.row).mono ?_; rintro e w6 ⟨rfl, hb6⟩; have R6 := (HR2.out.keep hb.out).keep hb6; obtain ⟨r0, r1, r2, r3⟩ := R6.cells; have y0 := R6.free 0; have y1 := R6.free 1; have y2 := R6.free 2; have y3 := R6.free 3; have HR6 := Lib.hid R6; clear R6)
    obtain ⟨rf0, rf1, rf2, rf3⟩ := gl_read HR6.out C.w C.st C.sh C.od
    have BF := Lib.hid (gl_put HR6.out (below_next (below_next B2.out hb.out (Nat.le_refl _)) hb6 (Nat.le_refl _)) (Nat.le_refl _) C.w C.st C.sh C.od)
    refine bodyPost_ret (v := .tuple #[.agg #[.int .i64 C.w, .int .i64 C.st, .int .i64 C.sh, .int .i64 C.od], .bool true]) (by simp [results, Tryz.results191, go_sem, rf0, rf1, rf2, rf3]) rfl ⟨by rw [HG.out, E.out, S2.out]; rfl, BF.out⟩
  ·obtain ⟨m, hm⟩ : ∃ m, m = L.length := ⟨_, rfl⟩
   have m0 : 0 < m := by omega
   have m60 : m ≤ 60 := by omega
   have HM := Lib.hid hm
   have HML : Hid (m = (ints L).length) := by show _ = _; rw [ints_len, hm]
   have IGD := Lib.hid (fun j (hj : j < m) => ints_getD L j (by rw [← hm]; exact hj))
   have IL2 := Lib.hid (fun j (hj : j < m) => IL.out (L.getD j 0) (by have e : L.getD j 0 = L[j]'(by rw [← hm]; exact hj) := getD_eq L 0 j (by rw [← hm]; exact hj); rw [e]; exact List.getElem_mem _))
   have ST := Lib.hid (fun k (hk : k < m) => spc_take xs L k (by rw [← hm]; exact hk))
   have LF : Hid (L.take m = L) := by show _ = _; rw [hm, List.take_length]
   have GLN : Hid (∀ k, (spc xs (L.take k)).length ≤ 60) := fun k => by unfold spc; rw [List.length_map, List.length_take]; omega
   clear hm h0
   go_enter Tryz.func191, Tryz.ntmps191
   go_wp2_with (go_at_call 139; refine LI3.out.mono ?_; rintro e w2 ⟨v, rfl, hown, hbel⟩; obtain ⟨lb, lcap, rfl, hll, hlg, LC⟩ := nums_pos HML.out m0 hown)
   have HR2 := Lib.hid (HR0.out.keep hbel)
   have B2 := Lib.hid (below_next HB0.out hbel (Nat.le_refl _))
   have O2 : Hid (OwnG w2 w2.heap.size (.slice none 0 0) (spc xs (L.take 0))) := OwnG.nil _ _
   clear hown hbel hlg
   go_loopw [10, 25] (fun v i wr => ∃ k : Nat, k ≤ m ∧ i = .int .i64 k ∧ Hid (OwnG wr w2.heap.size v (spc xs (L.take k))) ∧ Hid (Below w2.heap.size w2 wr)) (fun _ i _ => m - (intOf i).toNat)
   case atStart => exact ⟨0, Nat.zero_le _, rfl, O2.out, Below.refl _ _⟩
   case round =>
    obtain ⟨k, hk, rfl, hog, hb⟩ := hrel
    clear O2
    by_cases hlt : k < m
    ·have l0 : wr.cell? ⟨lb, k, none⟩ = some (.int .i64 ((ints L).getD k 0)) := (hb.out.cell (p := ⟨lb, k, none⟩) hll).trans (LC.out k hlt)
     rw [IGD.out k hlt] at l0
     have pt := IL2.out k hlt
     have GL := GLN.out k
     have SN := Lib.hid (ST.out k hlt)
     obtain ⟨p, hp⟩ : ∃ p, p = L.getD k 0 := ⟨_, rfl⟩
     rw [← hp] at l0 pt SN
     have pn : p < n := by omega
     have bw := below_next B2.out hb.out (Nat.le_refl _)
     obtain ⟨c0, c1, c2, c3, c4, c5, c6⟩ := (HC.out.below bw).2.2 p pn
     obtain ⟨x, hxx⟩ : ∃ x, x = it xs p := ⟨_, rfl⟩
     rw [← hxx] at c0 c1 c2 c3 c4 c5 c6 SN
     obtain ⟨GS, hGS⟩ : ∃ GS, GS = spc xs (L.take k) := ⟨_, rfl⟩
     rw [← hGS] at SN hog GL
     have GL2 : GS.length ≤ 4000000 := by omega
     clear hp hxx hGS bw GL
     go_wp2_with (at_builtin; refine append_glue w2 wr rfl _ _ rfl w2.heap.size u10 GS x.space rfl rfl hog.out GL2 (Nat.le_refl _) hb.out ?_; intro v' w5 hown' hbel hmv hgr)
     go_roundw
     case rel => exact ⟨k + 1, by omega, by go_num, by rw [SN.out]; exact hown', hbel⟩
     case measure => simp [intOf]; omega
    ·obtain rfl : k = m := by omega
     rw [LF.out] at hog
     clear LC hll
     have bw := below_next B2.out hb.out (Nat.le_refl _)
     obtain ⟨c0, c1, c2, c3, c4, c5, c6⟩ := (HC.out.below bw).2.2 t htn
     obtain ⟨x, hxx⟩ : ∃ x, x = it xs t := ⟨_, rfl⟩
     rw [← hxx] at c0 c1 c2 c3 c4 c5 c6 HL gt
     have HSL : (spc xs L).length ≤ 60 := by unfold spc; rw [List.length_map]; omega
     obtain ⟨GS, hGS⟩ : ∃ GS, GS = spc xs L := ⟨_, rfl⟩
     rw [← hGS] at HSL hog HL gok
     have GL2 : GS.length ≤ 4000000 := by omega
     obtain ⟨gok1, gok2⟩ := gok
     have GOK := Lib.hid gok1
     clear hxx hGS bw gok1 gok2
     by_cases h3 : x.kind = 3
     ·have q3 : (x.kind == 3) = true := by rw [h3]; rfl
      have S2 : Hid (lineG xs a t = sumG (GS ++ [x.space])) := by show _ = _; rw [HL.out, if_pos h3]
      have GA : Hid (∀ g ∈ GS ++ [x.space], GlueOk g) := fun g hg => by
       rw [List.mem_append, List.mem_singleton] at hg
       rcases hg with hg | rfl
       ·exact GOK.out g hg
       ·exact gt
      have GN : (GS ++ [x.space]).length ≤ 61 := by rw [List.length_append]; simp; omega
      obtain ⟨C, hC⟩ : ∃ C, C = sumG (GS ++ [x.space]) := ⟨_, rfl⟩
      have TT := Lib.hid (fun v w (h : SRow 4 encG w v (GS ++ [x.space])) => implTotal_any v (GS ++ [x.space]) w h GA.out GN)
      rw [← hC] at S2 TT
      unfold GluePost glV at TT
      clear h3 hC HL gt
      go_wp2_with (first | (at_builtin; refine append_glue w2 wr rfl _ _ rfl w2.heap.size u10 GS x.space rfl rfl hog.out GL2 (Nat.le_refl _) hb.out ?_; intro v' w5 hown' hbel hmv hgr) | (go_at_call 194; refine (TT.out _ _ hown'.row).mono ?_; rintro e w6 ⟨rfl, hb6⟩; have R6 := (HR2.out.keep hbel).keep hb6; obtain ⟨r0, r1, r2, r3⟩ := R6.cells; have y0 := R6.free 0; have y1 := R6.free 1; have y2 := R6.free 2; have y3 := R6.free 3; have HR6 := Lib.hid R6; clear R6))
      obtain ⟨rf0, rf1, rf2, rf3⟩ := gl_read HR6.out C.w C.st C.sh C.od
      have BF := Lib.hid (gl_put HR6.out (below_next (below_next B2.out hbel (Nat.le_refl _)) hb6 (Nat.le_refl _)) (Nat.le_refl _) C.w C.st C.sh C.od)
      refine bodyPost_ret (v := .tuple #[.agg #[.int .i64 C.w, .int .i64 C.st, .int .i64 C.sh, .int .i64 C.od], .bool true]) (by simp [results, Tryz.results191, go_sem, rf0, rf1, rf2, rf3]) rfl ⟨by rw [HG.out, E.out, S2.out]; rfl, BF.out⟩
     ·have q3 : (x.kind == 3) = false := by rw [beq_eq_false_iff_ne]; exact h3
      have S2 : Hid (lineG xs a t = sumG GS) := by show _ = _; rw [HL.out, if_neg h3, List.append_nil]
      have GN : GS.length ≤ 61 := by omega
      obtain ⟨C, hC⟩ : ∃ C, C = sumG GS := ⟨_, rfl⟩
      have TT := Lib.hid (fun v w (h : SRow 4 encG w v GS) => implTotal_any v GS w h GOK.out GN)
      rw [← hC] at S2 TT
      unfold GluePost glV at TT
      clear h3 hC HL gt
      go_wp2_with (go_at_call 194; refine (TT.out _ _ hog.out.row).mono ?_; rintro e w6 ⟨rfl, hb6⟩; have R6 := (HR2.out.keep hb.out).keep hb6; obtain ⟨r0, r1, r2, r3⟩ := R6.cells; have y0 := R6.free 0; have y1 := R6.free 1; have y2 := R6.free 2; have y3 := R6.free 3; have HR6 := Lib.hid R6; clear R6)
      obtain ⟨rf0, rf1, rf2, rf3⟩ := gl_read HR6.out C.w C.st C.sh C.od
      have BF := Lib.hid (gl_put HR6.out (below_next (below_next B2.out hb.out (Nat.le_refl _)) hb6 (Nat.le_refl _)) (Nat.le_refl _) C.w C.st C.sh C.od)
      refine bodyPost_ret (v := .tuple #[.agg #[.int .i64 C.w, .int .i64 C.st, .int .i64 C.sh, .int .i64 C.od], .bool true]) (by simp [results, Tryz.results191, go_sem, rf0, rf1, rf2, rf3]) rfl ⟨by rw [HG.out, E.out, S2.out]; rfl, BF.out⟩
end Go.Proofs.YtofnchdijanikaaGreatDoor
namespace Go.Proofs.YtofnchdijanikaaGreatDoor
open Go.RowKit
def lineBad (xs : List DItem) (a t : Nat) (wd : Int) : Int × Bool := if lineB xs a t = true then setB (lineG xs a t) wd else (-1, false)
set_option maxHeartbeats 8000000 in
theorem implLineBad_any (b off cap n a t : Nat) (xs : List DItem) (hx : PIs xs) (w : World) (hc : ItC w b off n xs) (hat : a ≤ t) (htn : t < n) (wd : Int) (hw : 0 ≤ wd ∧ wd ≤ 1000) : Calls Tryz.prog 184 #[.slice (some ⟨b, off, none⟩) n cap, .int .i64 ((a : Int) - 1), .int .i64 t, .int .i64 wd] w (BadPost (lineBad xs a t wd) w) := by
 have bd := lineG_bd hx.ok a t (by rw [← hc.1]; exact htn)
 have GL := implGlueOf_any b off cap n a t xs hx w hc hat htn
 have IN : Hid (inB wd 0 1000 = true) := inB_yes hw.1 hw.2
 have LD : Hid (lineBad xs a t wd = if lineB xs a t = true then setB (lineG xs a t) wd else (-1, false)) := rfl
 generalize hR : lineBad xs a t wd = R at LD ⊢
 unfold GlOkPost at GL
 obtain ⟨w1, w2⟩ := hw
 clear hR hx hc
 cases hlb : lineB xs a t
 ·have E : Hid (R = (-1, false)) := by show _ = _; rw [LD.out, hlb]; rfl
  rw [hlb] at GL
  unfold glV zG at GL
  simp only [Bool.false_eq_true, if_false] at GL
  have G2 := Lib.hid GL
  clear GL hlb LD bd
  go_enter Tryz.func184, Tryz.ntmps184
  go_wp2_with (go_at_call 191; refine G2.out.mono ?_; rintro e w3 ⟨rfl, hb3⟩)
  go_ret2
  exact ⟨by rw [E.out]; rfl, hb3.alloc (by have := hb3.size; omega) _⟩
 ·have LD2 := LD.out
  rw [hlb, if_pos rfl] at LD2
  rw [hlb] at GL
  simp only [if_true] at GL
  obtain ⟨C, hC⟩ : ∃ C, C = lineG xs a t := ⟨_, rfl⟩
  rw [← hC] at GL LD2 bd
  clear hC hlb LD
  obtain ⟨cw, cst, csh, cod⟩ := C
  unfold GlueSm at bd
  simp only at bd
  obtain ⟨⟨b1, b2, b3, b4, b5, b6, b7⟩, b8, b9, b10⟩ := bd
  unfold glV at GL
  simp only at GL
  have G2 := Lib.hid GL
  have SB : setB ⟨cw, cst, csh, cod⟩ wd = if cw ≤ wd then (if cod = 1 then (0, true) else (badV (wd - cw) cst, true)) else if cw - csh > wd then (-1, false) else (badV (cw - wd) csh, false) := rfl
  rw [SB] at LD2
  have LD3 := Lib.hid LD2
  clear GL LD2 SB
  by_cases h1 : cw ≤ wd
  ·by_cases h2 : cod = 1
   ·have E : Hid (R = (0, true)) := by show _ = _; rw [LD3.out, if_pos h1, if_pos h2]
    have q2 : (cod == 1) = true := by rw [h2]; rfl
    clear h2
    go_enter Tryz.func184, Tryz.ntmps184
    go_wp2_with (first | (go_at_call 191; refine G2.out.mono ?_; rintro e w3 ⟨rfl, hb3⟩) | (go_at_call 57; refine (in_any _ _ _ _).mono ?_; rintro e w' ⟨rfl, rfl⟩; rw [IN.out]))
    go_ret2
    exact ⟨by rw [E.out]; rfl, hb3.alloc (by have := hb3.size; omega) _⟩
   ·have E : Hid (R = (badV (wd - cw) cst, true)) := by show _ = _; rw [LD3.out, if_pos h1, if_neg h2]
    have q2 : (cod == 1) = false := by rw [beq_eq_false_iff_ne]; exact h2
    have BV := Lib.hid (fun w => implBad_any (wd - cw) cst (by omega) (by omega) w)
    clear h2
    go_enter Tryz.func184, Tryz.ntmps184
    go_wp2_with (first | (go_at_call 191; refine G2.out.mono ?_; rintro e w3 ⟨rfl, hb3⟩) | (go_at_call 57; refine (in_any _ _ _ _).mono ?_; rintro e w' ⟨rfl, rfl⟩; rw [IN.out]) | (go_at_call 192; refine (BV.out _).mono ?_; rintro e w' ⟨rfl, rfl⟩))
    go_ret2
    exact ⟨by rw [E.out]; rfl, hb3.alloc (by have := hb3.size; omega) _⟩
  ·by_cases h2 : cw - csh > wd
   ·have E : Hid (R = (-1, false)) := by show _ = _; rw [LD3.out, if_neg h1, if_pos h2]
    have h2' : ¬ cw - wd ≤ csh := by omega
    clear h2
    go_enter Tryz.func184, Tryz.ntmps184
    go_wp2_with (first | (go_at_call 191; refine G2.out.mono ?_; rintro e w3 ⟨rfl, hb3⟩) | (go_at_call 57; refine (in_any _ _ _ _).mono ?_; rintro e w' ⟨rfl, rfl⟩; rw [IN.out]))
    go_ret2
    exact ⟨by rw [E.out]; rfl, hb3.alloc (by have := hb3.size; omega) _⟩
   ·have E : Hid (R = (badV (cw - wd) csh, false)) := by show _ = _; rw [LD3.out, if_neg h1, if_neg h2]
    have h2' : cw - wd ≤ csh := by omega
    have BV := Lib.hid (fun w => implBad_any (cw - wd) csh (by omega) (by omega) w)
    clear h2
    go_enter Tryz.func184, Tryz.ntmps184
    go_wp2_with (first | (go_at_call 191; refine G2.out.mono ?_; rintro e w3 ⟨rfl, hb3⟩) | (go_at_call 57; refine (in_any _ _ _ _).mono ?_; rintro e w' ⟨rfl, rfl⟩; rw [IN.out]) | (go_at_call 192; refine (BV.out _).mono ?_; rintro e w' ⟨rfl, rfl⟩))
    go_ret2
    exact ⟨by rw [E.out]; rfl, hb3.alloc (by have := hb3.size; omega) _⟩
end Go.Proofs.YtofnchdijanikaaGreatDoor

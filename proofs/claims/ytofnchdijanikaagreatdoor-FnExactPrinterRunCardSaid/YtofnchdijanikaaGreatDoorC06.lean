/-
  PROVED HERE: what the printer's lines need, part C06. Conditions: each theorem's own.
-/
import Derived.Test.YtofnchdijanikaaGreatDoorC04
import Derived.Test.YtofnchdijanikaaGreatDoorC05
set_option linter.unusedVariables false
set_option linter.unusedSimpArgs false
set_option maxRecDepth 100000
namespace Go.Proofs.YtofnchdijanikaaGreatDoor
open Go.RowKit
theorem u8_eqs (a b : UInt8) (i : Int) (hi : i = (b.toNat : Int)) : (((a.toNat : Nat) : Int) == i) = (a == b) := by
 subst hi
 rw [Bool.eq_iff_iff, beq_iff_eq, beq_iff_eq]
 exact ⟨fun h => UInt8.toNat_inj.1 (by omega), fun h => by rw [h]⟩
theorem idxByte_has (c : UInt8) : ∀ l : List UInt8, decide (0 ≤ Lib.indexByte l c) = l.contains c
 | [] => rfl
 | b :: l => by
  have ih := idxByte_has c l
  have hg := Lib.indexByte_ge l c
  rw [Lib.indexByte, List.contains_cons]
  by_cases hb : b = c
  ·subst hb
   simp
  ·have h1 : (b == c) = false := by simp [hb]
   have h2 : (c == b) = false := by simp [Ne.symm hb]
   rw [h1, h2, Bool.false_or, ← ih]
   by_cases h3 : Lib.indexByte l c = -1
   ·rw [h3]; decide
   ·have h4 : (Lib.indexByte l c == -1) = false := by simp [h3]
    rw [h4]
    simp only [Bool.false_eq_true, if_false]
    rw [decide_eq_decide]
    omega
theorem among_any (c : UInt8) (s : List UInt8) (w : World) : Calls Tryz.prog 182 #[.int .u8 (c.toNat : Int), .string (bs s)] w fun e w' => e = .returned (.bool (s.contains c)) ∧ w = w' := by
 have SB := Lib.hid (fun w => Tryz.strings_IndexByte (bs s) (c.toNat : Int) w)
 have E := Lib.hid (idxByte_has c s)
 have E2 : Hid (Lib.indexByte (bs s).data.toList ((c.toNat : Int)).toNat.toUInt8 = Lib.indexByte s c) := by
  show _ = _
  congr 1
  show UInt8.ofNat ((c.toNat : Int)).toNat = c
  rw [Int.toNat_natCast]
  exact UInt8.ofNat_toNat
 obtain ⟨r, hr⟩ : ∃ r, r = Lib.indexByte s c := ⟨_, rfl⟩
 rw [← hr] at E E2
 clear hr
 go_enter Tryz.func182, Tryz.ntmps182
 go_wp2_with (go_at_call 189; refine (SB.out _).mono ?_; rintro e w' ⟨rfl, rfl⟩; rw [E2.out])
 go_ret
 exact ⟨by rw [← E.out]; rfl, rfl⟩
theorem joinB_has (a b : UInt8) : joinB a b = ((a == 102) && ([105, 106, 108, 102] : List UInt8).contains b) := by
 unfold joinB
 simp only [List.contains_cons, List.contains_nil, Bool.or_false, Bool.or_assoc]
theorem nearV_has (a b : UInt8) : nearV a b = if ((([118, 119, 121] : List UInt8).contains a && ([97, 101, 111] : List UInt8).contains b) || ((a == 114) && ([110, 109] : List UInt8).contains b)) = true then 1 else 0 := by
 unfold nearV
 simp [List.contains_cons, or_assoc]
theorem letW_has (c : UInt8) : letW c = if smB c = true then (if ([105, 106, 108] : List UInt8).contains c = true then 3 else if ([102, 114, 116] : List UInt8).contains c = true then 4 else if ([109, 119] : List UInt8).contains c = true then 8 else 5) else 0 := by
 unfold letW
 simp [List.contains_cons, or_assoc]
set_option maxHeartbeats 2000000 in
theorem implJoins_any (a b : UInt8) (w : World) : Calls Tryz.prog 181 #[.int .u8 (a.toNat : Int), .int .u8 (b.toNat : Int)] w fun e w' => e = .returned (.bool (joinB a b)) ∧ w = w' := by
 cases h_f : (a == 102)
 ·have i_f : (((a.toNat : Nat) : Int) == 102) = false := by rw [u8_eqs a 102 102 rfl, h_f]
  have E : Hid (joinB a b = false) := by show _ = _; rw [joinB_has]; simp only [h_f]; rfl
  have H_f := Lib.hid h_f
  clear h_f
  go_enter Tryz.func181, Tryz.ntmps181
  go_wp2
  go_ret
  exact ⟨by rw [E.out]; rfl, rfl⟩
 ·cases h_l : ([105, 106, 108, 102] : List UInt8).contains b
  ·have i_f : (((a.toNat : Nat) : Int) == 102) = true := by rw [u8_eqs a 102 102 rfl, h_f]
   have E : Hid (joinB a b = false) := by show _ = _; rw [joinB_has]; simp only [h_f, h_l]; rfl
   have H_f := Lib.hid h_f
   have H_l := Lib.hid h_l
   clear h_f h_l
   go_enter Tryz.func181, Tryz.ntmps181
   go_wp2_with (first | (go_at_call 182; refine (among_any _ _ _).mono ?_; rintro e w' ⟨rfl, rfl⟩; first | rw [H_l.out]))
   go_ret
   exact ⟨by rw [E.out]; rfl, rfl⟩
  ·have i_f : (((a.toNat : Nat) : Int) == 102) = true := by rw [u8_eqs a 102 102 rfl, h_f]
   have E : Hid (joinB a b = true) := by show _ = _; rw [joinB_has]; simp only [h_f, h_l]; rfl
   have H_f := Lib.hid h_f
   have H_l := Lib.hid h_l
   clear h_f h_l
   go_enter Tryz.func181, Tryz.ntmps181
   go_wp2_with (first | (go_at_call 182; refine (among_any _ _ _).mono ?_; rintro e w' ⟨rfl, rfl⟩; first | rw [H_l.out]))
   go_ret
   exact ⟨by rw [E.out]; rfl, rfl⟩
set_option maxHeartbeats 2000000 in
theorem specJoins_any (a b : UInt8) (w : World) : Calls Tryz.prog 187 #[.int .u8 (a.toNat : Int), .int .u8 (b.toNat : Int)] w fun e w' => e = .returned (.bool (joinB a b)) ∧ w = w' := by
 cases h_f : (a == 102)
 ·have i_f : (((a.toNat : Nat) : Int) == 102) = false := by rw [u8_eqs a 102 102 rfl, h_f]
  have E : Hid (joinB a b = false) := by show _ = _; unfold joinB; simp [h_f]
  have H_f := Lib.hid h_f
  clear h_f
  go_enter Tryz.func187, Tryz.ntmps187
  go_wp2
  go_ret
  exact ⟨by rw [E.out]; rfl, rfl⟩
 ·cases h_i : (b == 105)
  ·cases h_j : (b == 106)
   ·cases h_l : (b == 108)
    ·cases h_g : (b == 102)
     ·have i_f : (((a.toNat : Nat) : Int) == 102) = true := by rw [u8_eqs a 102 102 rfl, h_f]
      have i_i : (((b.toNat : Nat) : Int) == 105) = false := by rw [u8_eqs b 105 105 rfl, h_i]
      have i_j : (((b.toNat : Nat) : Int) == 106) = false := by rw [u8_eqs b 106 106 rfl, h_j]
      have i_l : (((b.toNat : Nat) : Int) == 108) = false := by rw [u8_eqs b 108 108 rfl, h_l]
      have i_g : (((b.toNat : Nat) : Int) == 102) = false := by rw [u8_eqs b 102 102 rfl, h_g]
      have E : Hid (joinB a b = false) := by show _ = _; unfold joinB; simp [h_f, h_i, h_j, h_l, h_g]
      have H_f := Lib.hid h_f
      have H_i := Lib.hid h_i
      have H_j := Lib.hid h_j
      have H_l := Lib.hid h_l
      have H_g := Lib.hid h_g
      clear h_f h_i h_j h_l h_g
      go_enter Tryz.func187, Tryz.ntmps187
      go_wp2
      go_ret
      exact ⟨by rw [E.out]; rfl, rfl⟩
     ·have i_f : (((a.toNat : Nat) : Int) == 102) = true := by rw [u8_eqs a 102 102 rfl, h_f]
      have i_i : (((b.toNat : Nat) : Int) == 105) = false := by rw [u8_eqs b 105 105 rfl, h_i]
      have i_j : (((b.toNat : Nat) : Int) == 106) = false := by rw [u8_eqs b 106 106 rfl, h_j]
      have i_l : (((b.toNat : Nat) : Int) == 108) = false := by rw [u8_eqs b 108 108 rfl, h_l]
      have i_g : (((b.toNat : Nat) : Int) == 102) = true := by rw [u8_eqs b 102 102 rfl, h_g]
      have E : Hid (joinB a b = true) := by show _ = _; unfold joinB; simp [h_f, h_i, h_j, h_l, h_g]
      have H_f := Lib.hid h_f
      have H_i := Lib.hid h_i
      have H_j := Lib.hid h_j
      have H_l := Lib.hid h_l
      have H_g := Lib.hid h_g
      clear h_f h_i h_j h_l h_g
      go_enter Tryz.func187, Tryz.ntmps187
      go_wp2
      go_ret
      exact ⟨by rw [E.out]; rfl, rfl⟩
    ·have i_f : (((a.toNat : Nat) : Int) == 102) = true := by rw [u8_eqs a 102 102 rfl, h_f]
     have i_i : (((b.toNat : Nat) : Int) == 105) = false := by rw [u8_eqs b 105 105 rfl, h_i]
     have i_j : (((b.toNat : Nat) : Int) == 106) = false := by rw [u8_eqs b 106 106 rfl, h_j]
     have i_l : (((b.toNat : Nat) : Int) == 108) = true := by rw [u8_eqs b 108 108 rfl, h_l]
     have E : Hid (joinB a b = true) := by show _ = _; unfold joinB; simp [h_f, h_i, h_j, h_l]
     have H_f := Lib.hid h_f
     have H_i := Lib.hid h_i
     have H_j := Lib.hid h_j
     have H_l := Lib.hid h_l
     clear h_f h_i h_j h_l
     go_enter Tryz.func187, Tryz.ntmps187
     go_wp2
     go_ret
     exact ⟨by rw [E.out]; rfl, rfl⟩
   ·have i_f : (((a.toNat : Nat) : Int) == 102) = true := by rw [u8_eqs a 102 102 rfl, h_f]
    have i_i : (((b.toNat : Nat) : Int) == 105) = false := by rw [u8_eqs b 105 105 rfl, h_i]
    have i_j : (((b.toNat : Nat) : Int) == 106) = true := by rw [u8_eqs b 106 106 rfl, h_j]
    have E : Hid (joinB a b = true) := by show _ = _; unfold joinB; simp [h_f, h_i, h_j]
    have H_f := Lib.hid h_f
    have H_i := Lib.hid h_i
    have H_j := Lib.hid h_j
    clear h_f h_i h_j
    go_enter Tryz.func187, Tryz.ntmps187
    go_wp2
    go_ret
    exact ⟨by rw [E.out]; rfl, rfl⟩
  ·have i_f : (((a.toNat : Nat) : Int) == 102) = true := by rw [u8_eqs a 102 102 rfl, h_f]
   have i_i : (((b.toNat : Nat) : Int) == 105) = true := by rw [u8_eqs b 105 105 rfl, h_i]
   have E : Hid (joinB a b = true) := by show _ = _; unfold joinB; simp [h_f, h_i]
   have H_f := Lib.hid h_f
   have H_i := Lib.hid h_i
   clear h_f h_i
   go_enter Tryz.func187, Tryz.ntmps187
   go_wp2
   go_ret
   exact ⟨by rw [E.out]; rfl, rfl⟩
set_option maxHeartbeats 2000000 in
theorem implNear_any (a b : UInt8) (w : World) : Calls Tryz.prog 163 #[.int .u8 (a.toNat : Int), .int .u8 (b.toNat : Int)] w fun e w' => e = .returned (.int .i64 (nearV a b)) ∧ w = w' := by
 cases h_v : ([118, 119, 121] : List UInt8).contains a
 ·cases h_r : (a == 114)
  ·have i_r : (((a.toNat : Nat) : Int) == 114) = false := by rw [u8_eqs a 114 114 rfl, h_r]
   have E : Hid (nearV a b = 0) := by show _ = _; rw [nearV_has]; simp only [h_v, h_r]; rfl
   have H_v := Lib.hid h_v
   have H_r := Lib.hid h_r
   clear h_v h_r
   go_enter Tryz.func163, Tryz.ntmps163
   go_wp2_with (first | (go_at_call 182; refine (among_any _ _ _).mono ?_; rintro e w' ⟨rfl, rfl⟩; first | rw [H_v.out]))
   go_ret
   exact ⟨by rw [E.out]; rfl, rfl⟩
  ·cases h_n : ([110, 109] : List UInt8).contains b
   ·have i_r : (((a.toNat : Nat) : Int) == 114) = true := by rw [u8_eqs a 114 114 rfl, h_r]
    have E : Hid (nearV a b = 0) := by show _ = _; rw [nearV_has]; simp only [h_v, h_r, h_n]; rfl
    have H_v := Lib.hid h_v
    have H_r := Lib.hid h_r
    have H_n := Lib.hid h_n
    clear h_v h_r h_n
    go_enter Tryz.func163, Tryz.ntmps163
    go_wp2_with (first | (go_at_call 182; refine (among_any _ _ _).mono ?_; rintro e w' ⟨rfl, rfl⟩; first | rw [H_v.out] | rw [H_n.out]))
    go_ret
    exact ⟨by rw [E.out]; rfl, rfl⟩
   ·have i_r : (((a.toNat : Nat) : Int) == 114) = true := by rw [u8_eqs a 114 114 rfl, h_r]
    have E : Hid (nearV a b = 1) := by show _ = _; rw [nearV_has]; simp only [h_v, h_r, h_n]; rfl
    have H_v := Lib.hid h_v
    have H_r := Lib.hid h_r
    have H_n := Lib.hid h_n
    clear h_v h_r h_n
    go_enter Tryz.func163, Tryz.ntmps163
    go_wp2_with (first | (go_at_call 182; refine (among_any _ _ _).mono ?_; rintro e w' ⟨rfl, rfl⟩; first | rw [H_v.out] | rw [H_n.out]))
    go_ret
    exact ⟨by rw [E.out]; rfl, rfl⟩
 ·cases h_e : ([97, 101, 111] : List UInt8).contains b
  ·cases h_r : (a == 114)
   ·have i_r : (((a.toNat : Nat) : Int) == 114) = false := by rw [u8_eqs a 114 114 rfl, h_r]
    have E : Hid (nearV a b = 0) := by show _ = _; rw [nearV_has]; simp only [h_v, h_e, h_r]; rfl
    have H_v := Lib.hid h_v
    have H_e := Lib.hid h_e
    have H_r := Lib.hid h_r
    clear h_v h_e h_r
    go_enter Tryz.func163, Tryz.ntmps163
    go_wp2_with (first | (go_at_call 182; refine (among_any _ _ _).mono ?_; rintro e w' ⟨rfl, rfl⟩; first | rw [H_v.out] | rw [H_e.out]))
    go_ret
    exact ⟨by rw [E.out]; rfl, rfl⟩
   ·cases h_n : ([110, 109] : List UInt8).contains b
    ·have i_r : (((a.toNat : Nat) : Int) == 114) = true := by rw [u8_eqs a 114 114 rfl, h_r]
     have E : Hid (nearV a b = 0) := by show _ = _; rw [nearV_has]; simp only [h_v, h_e, h_r, h_n]; rfl
     have H_v := Lib.hid h_v
     have H_e := Lib.hid h_e
     have H_r := Lib.hid h_r
     have H_n := Lib.hid h_n
     clear h_v h_e h_r h_n
     go_enter Tryz.func163, Tryz.ntmps163
     go_wp2_with (first | (go_at_call 182; refine (among_any _ _ _).mono ?_; rintro e w' ⟨rfl, rfl⟩; first | rw [H_v.out] | rw [H_e.out] | rw [H_n.out]))
     go_ret
     exact ⟨by rw [E.out]; rfl, rfl⟩
    ·have i_r : (((a.toNat : Nat) : Int) == 114) = true := by rw [u8_eqs a 114 114 rfl, h_r]
     have E : Hid (nearV a b = 1) := by show _ = _; rw [nearV_has]; simp only [h_v, h_e, h_r, h_n]; rfl
     have H_v := Lib.hid h_v
     have H_e := Lib.hid h_e
     have H_r := Lib.hid h_r
     have H_n := Lib.hid h_n
     clear h_v h_e h_r h_n
     go_enter Tryz.func163, Tryz.ntmps163
     go_wp2_with (first | (go_at_call 182; refine (among_any _ _ _).mono ?_; rintro e w' ⟨rfl, rfl⟩; first | rw [H_v.out] | rw [H_e.out] | rw [H_n.out]))
     go_ret
     exact ⟨by rw [E.out]; rfl, rfl⟩
  ·have E : Hid (nearV a b = 1) := by show _ = _; rw [nearV_has]; simp only [h_v, h_e]; rfl
   have H_v := Lib.hid h_v
   have H_e := Lib.hid h_e
   clear h_v h_e
   go_enter Tryz.func163, Tryz.ntmps163
   go_wp2_with (first | (go_at_call 182; refine (among_any _ _ _).mono ?_; rintro e w' ⟨rfl, rfl⟩; first | rw [H_v.out] | rw [H_e.out]))
   go_ret
   exact ⟨by rw [E.out]; rfl, rfl⟩
set_option maxHeartbeats 2000000 in
theorem specNear_any (a b : UInt8) (w : World) : Calls Tryz.prog 175 #[.int .u8 (a.toNat : Int), .int .u8 (b.toNat : Int)] w fun e w' => e = .returned (.int .i64 (nearV a b)) ∧ w = w' := by
 cases h_v : (a == 118)
 ·cases h_w : (a == 119)
  ·cases h_y : (a == 121)
   ·cases h_a : (b == 97)
    ·cases h_e : (b == 101)
     ·cases h_o : (b == 111)
      ·cases h_r : (a == 114)
       ·have i_v : (((a.toNat : Nat) : Int) == 118) = false := by rw [u8_eqs a 118 118 rfl, h_v]
        have i_w : (((a.toNat : Nat) : Int) == 119) = false := by rw [u8_eqs a 119 119 rfl, h_w]
        have i_y : (((a.toNat : Nat) : Int) == 121) = false := by rw [u8_eqs a 121 121 rfl, h_y]
        have i_a : (((b.toNat : Nat) : Int) == 97) = false := by rw [u8_eqs b 97 97 rfl, h_a]
        have i_e : (((b.toNat : Nat) : Int) == 101) = false := by rw [u8_eqs b 101 101 rfl, h_e]
        have i_o : (((b.toNat : Nat) : Int) == 111) = false := by rw [u8_eqs b 111 111 rfl, h_o]
        have i_r : (((a.toNat : Nat) : Int) == 114) = false := by rw [u8_eqs a 114 114 rfl, h_r]
        have E : Hid (nearV a b = 0) := by show _ = _; unfold nearV; simp [h_v, h_w, h_y, h_a, h_e, h_o, h_r]
        have H_v := Lib.hid h_v
        have H_w := Lib.hid h_w
        have H_y := Lib.hid h_y
        have H_a := Lib.hid h_a
        have H_e := Lib.hid h_e
        have H_o := Lib.hid h_o
        have H_r := Lib.hid h_r
        clear h_v h_w h_y h_a h_e h_o h_r
        go_enter Tryz.func175, Tryz.ntmps175
        go_wp2
        go_ret
        exact ⟨by rw [E.out]; rfl, rfl⟩
       ·cases h_n : (b == 110)
        ·cases h_m : (b == 109)
         ·have i_v : (((a.toNat : Nat) : Int) == 118) = false := by rw [u8_eqs a 118 118 rfl, h_v]
          have i_w : (((a.toNat : Nat) : Int) == 119) = false := by rw [u8_eqs a 119 119 rfl, h_w]
          have i_y : (((a.toNat : Nat) : Int) == 121) = false := by rw [u8_eqs a 121 121 rfl, h_y]
          have i_a : (((b.toNat : Nat) : Int) == 97) = false := by rw [u8_eqs b 97 97 rfl, h_a]
          have i_e : (((b.toNat : Nat) : Int) == 101) = false := by rw [u8_eqs b 101 101 rfl, h_e]
          have i_o : (((b.toNat : Nat) : Int) == 111) = false := by rw [u8_eqs b 111 111 rfl, h_o]
          have i_r : (((a.toNat : Nat) : Int) == 114) = true := by rw [u8_eqs a 114 114 rfl, h_r]
          have i_n : (((b.toNat : Nat) : Int) == 110) = false := by rw [u8_eqs b 110 110 rfl, h_n]
          have i_m : (((b.toNat : Nat) : Int) == 109) = false := by rw [u8_eqs b 109 109 rfl, h_m]
          have E : Hid (nearV a b = 0) := by show _ = _; unfold nearV; simp [h_v, h_w, h_y, h_a, h_e, h_o, h_r, h_n, h_m]
          have H_v := Lib.hid h_v
          have H_w := Lib.hid h_w
          have H_y := Lib.hid h_y
          have H_a := Lib.hid h_a
          have H_e := Lib.hid h_e
          have H_o := Lib.hid h_o
          have H_r := Lib.hid h_r
          have H_n := Lib.hid h_n
          have H_m := Lib.hid h_m
          clear h_v h_w h_y h_a h_e h_o h_r h_n h_m
          go_enter Tryz.func175, Tryz.ntmps175
          go_wp2
          go_ret
          exact ⟨by rw [E.out]; rfl, rfl⟩
         ·have i_v : (((a.toNat : Nat) : Int) == 118) = false := by rw [u8_eqs a 118 118 rfl, h_v]
          have i_w : (((a.toNat : Nat) : Int) == 119) = false := by rw [u8_eqs a 119 119 rfl, h_w]
          have i_y : (((a.toNat : Nat) : Int) == 121) = false := by rw [u8_eqs a 121 121 rfl, h_y]
          have i_a : (((b.toNat : Nat) : Int) == 97) = false := by rw [u8_eqs b 97 97 rfl, h_a]
          have i_e : (((b.toNat : Nat) : Int) == 101) = false := by rw [u8_eqs b 101 101 rfl, h_e]
          have i_o : (((b.toNat : Nat) : Int) == 111) = false := by rw [u8_eqs b 111 111 rfl, h_o]
          have i_r : (((a.toNat : Nat) : Int) == 114) = true := by rw [u8_eqs a 114 114 rfl, h_r]
          have i_n : (((b.toNat : Nat) : Int) == 110) = false := by rw [u8_eqs b 110 110 rfl, h_n]
          have i_m : (((b.toNat : Nat) : Int) == 109) = true := by rw [u8_eqs b 109 109 rfl, h_m]
          have E : Hid (nearV a b = 1) := by show _ = _; unfold nearV; simp [h_v, h_w, h_y, h_a, h_e, h_o, h_r, h_n, h_m]
          have H_v := Lib.hid h_v
          have H_w := Lib.hid h_w
          have H_y := Lib.hid h_y
          have H_a := Lib.hid h_a
          have H_e := Lib.hid h_e
          have H_o := Lib.hid h_o
          have H_r := Lib.hid h_r
          have H_n := Lib.hid h_n
          have H_m := Lib.hid h_m
          clear h_v h_w h_y h_a h_e h_o h_r h_n h_m
          go_enter Tryz.func175, Tryz.ntmps175
          go_wp2
          go_ret
          exact ⟨by rw [E.out]; rfl, rfl⟩
        ·have i_v : (((a.toNat : Nat) : Int) == 118) = false := by rw [u8_eqs a 118 118 rfl, h_v]
         have i_w : (((a.toNat : Nat) : Int) == 119) = false := by rw [u8_eqs a 119 119 rfl, h_w]
         have i_y : (((a.toNat : Nat) : Int) == 121) = false := by rw [u8_eqs a 121 121 rfl, h_y]
         have i_a : (((b.toNat : Nat) : Int) == 97) = false := by rw [u8_eqs b 97 97 rfl, h_a]
         have i_e : (((b.toNat : Nat) : Int) == 101) = false := by rw [u8_eqs b 101 101 rfl, h_e]
         have i_o : (((b.toNat : Nat) : Int) == 111) = false := by rw [u8_eqs b 111 111 rfl, h_o]
         have i_r : (((a.toNat : Nat) : Int) == 114) = true := by rw [u8_eqs a 114 114 rfl, h_r]
         have i_n : (((b.toNat : Nat) : Int) == 110) = true := by rw [u8_eqs b 110 110 rfl, h_n]
         have E : Hid (nearV a b = 1) := by show _ = _; unfold nearV; simp [h_v, h_w, h_y, h_a, h_e, h_o, h_r, h_n]
         have H_v := Lib.hid h_v
         have H_w := Lib.hid h_w
         have H_y := Lib.hid h_y
         have H_a := Lib.hid h_a
         have H_e := Lib.hid h_e
         have H_o := Lib.hid h_o
         have H_r := Lib.hid h_r
         have H_n := Lib.hid h_n
         clear h_v h_w h_y h_a h_e h_o h_r h_n
         go_enter Tryz.func175, Tryz.ntmps175
         go_wp2
         go_ret
         exact ⟨by rw [E.out]; rfl, rfl⟩
      ·cases h_r : (a == 114)
       ·have i_v : (((a.toNat : Nat) : Int) == 118) = false := by rw [u8_eqs a 118 118 rfl, h_v]
        have i_w : (((a.toNat : Nat) : Int) == 119) = false := by rw [u8_eqs a 119 119 rfl, h_w]
        have i_y : (((a.toNat : Nat) : Int) == 121) = false := by rw [u8_eqs a 121 121 rfl, h_y]
        have i_a : (((b.toNat : Nat) : Int) == 97) = false := by rw [u8_eqs b 97 97 rfl, h_a]
        have i_e : (((b.toNat : Nat) : Int) == 101) = false := by rw [u8_eqs b 101 101 rfl, h_e]
        have i_o : (((b.toNat : Nat) : Int) == 111) = true := by rw [u8_eqs b 111 111 rfl, h_o]
        have i_r : (((a.toNat : Nat) : Int) == 114) = false := by rw [u8_eqs a 114 114 rfl, h_r]
        have E : Hid (nearV a b = 0) := by show _ = _; unfold nearV; simp [h_v, h_w, h_y, h_a, h_e, h_o, h_r]
        have H_v := Lib.hid h_v
        have H_w := Lib.hid h_w
        have H_y := Lib.hid h_y
        have H_a := Lib.hid h_a
        have H_e := Lib.hid h_e
        have H_o := Lib.hid h_o
        have H_r := Lib.hid h_r
        clear h_v h_w h_y h_a h_e h_o h_r
        go_enter Tryz.func175, Tryz.ntmps175
        go_wp2
        go_ret
        exact ⟨by rw [E.out]; rfl, rfl⟩
       ·have h_n : (b == 110) = false := by rw [beq_iff_eq] at h_o; rw [h_o]; decide
        have h_m : (b == 109) = false := by rw [beq_iff_eq] at h_o; rw [h_o]; decide
        have i_v : (((a.toNat : Nat) : Int) == 118) = false := by rw [u8_eqs a 118 118 rfl, h_v]
        have i_w : (((a.toNat : Nat) : Int) == 119) = false := by rw [u8_eqs a 119 119 rfl, h_w]
        have i_y : (((a.toNat : Nat) : Int) == 121) = false := by rw [u8_eqs a 121 121 rfl, h_y]
        have i_a : (((b.toNat : Nat) : Int) == 97) = false := by rw [u8_eqs b 97 97 rfl, h_a]
        have i_e : (((b.toNat : Nat) : Int) == 101) = false := by rw [u8_eqs b 101 101 rfl, h_e]
        have i_o : (((b.toNat : Nat) : Int) == 111) = true := by rw [u8_eqs b 111 111 rfl, h_o]
        have i_r : (((a.toNat : Nat) : Int) == 114) = true := by rw [u8_eqs a 114 114 rfl, h_r]
        have i_n : (((b.toNat : Nat) : Int) == 110) = false := by rw [u8_eqs b 110 110 rfl, h_n]
        have i_m : (((b.toNat : Nat) : Int) == 109) = false := by rw [u8_eqs b 109 109 rfl, h_m]
        have E : Hid (nearV a b = 0) := by show _ = _; unfold nearV; simp [h_v, h_w, h_y, h_a, h_e, h_o, h_r, h_n, h_m]
        have H_v := Lib.hid h_v
        have H_w := Lib.hid h_w
        have H_y := Lib.hid h_y
        have H_a := Lib.hid h_a
        have H_e := Lib.hid h_e
        have H_o := Lib.hid h_o
        have H_r := Lib.hid h_r
        have H_n := Lib.hid h_n
        have H_m := Lib.hid h_m
        clear h_v h_w h_y h_a h_e h_o h_r h_n h_m
        go_enter Tryz.func175, Tryz.ntmps175
        go_wp2
        go_ret
        exact ⟨by rw [E.out]; rfl, rfl⟩
     ·cases h_r : (a == 114)
      ·have i_v : (((a.toNat : Nat) : Int) == 118) = false := by rw [u8_eqs a 118 118 rfl, h_v]
       have i_w : (((a.toNat : Nat) : Int) == 119) = false := by rw [u8_eqs a 119 119 rfl, h_w]
       have i_y : (((a.toNat : Nat) : Int) == 121) = false := by rw [u8_eqs a 121 121 rfl, h_y]
       have i_a : (((b.toNat : Nat) : Int) == 97) = false := by rw [u8_eqs b 97 97 rfl, h_a]
       have i_e : (((b.toNat : Nat) : Int) == 101) = true := by rw [u8_eqs b 101 101 rfl, h_e]
       have i_r : (((a.toNat : Nat) : Int) == 114) = false := by rw [u8_eqs a 114 114 rfl, h_r]
       have E : Hid (nearV a b = 0) := by show _ = _; unfold nearV; simp [h_v, h_w, h_y, h_a, h_e, h_r]
       have H_v := Lib.hid h_v
       have H_w := Lib.hid h_w
       have H_y := Lib.hid h_y
       have H_a := Lib.hid h_a
       have H_e := Lib.hid h_e
       have H_r := Lib.hid h_r
       clear h_v h_w h_y h_a h_e h_r
       go_enter Tryz.func175, Tryz.ntmps175
       go_wp2
       go_ret
       exact ⟨by rw [E.out]; rfl, rfl⟩
      ·have h_n : (b == 110) = false := by rw [beq_iff_eq] at h_e; rw [h_e]; decide
       have h_m : (b == 109) = false := by rw [beq_iff_eq] at h_e; rw [h_e]; decide
       have i_v : (((a.toNat : Nat) : Int) == 118) = false := by rw [u8_eqs a 118 118 rfl, h_v]
       have i_w : (((a.toNat : Nat) : Int) == 119) = false := by rw [u8_eqs a 119 119 rfl, h_w]
       have i_y : (((a.toNat : Nat) : Int) == 121) = false := by rw [u8_eqs a 121 121 rfl, h_y]
       have i_a : (((b.toNat : Nat) : Int) == 97) = false := by rw [u8_eqs b 97 97 rfl, h_a]
       have i_e : (((b.toNat : Nat) : Int) == 101) = true := by rw [u8_eqs b 101 101 rfl, h_e]
       have i_r : (((a.toNat : Nat) : Int) == 114) = true := by rw [u8_eqs a 114 114 rfl, h_r]
       have i_n : (((b.toNat : Nat) : Int) == 110) = false := by rw [u8_eqs b 110 110 rfl, h_n]
       have i_m : (((b.toNat : Nat) : Int) == 109) = false := by rw [u8_eqs b 109 109 rfl, h_m]
       have E : Hid (nearV a b = 0) := by show _ = _; unfold nearV; simp [h_v, h_w, h_y, h_a, h_e, h_r, h_n, h_m]
       have H_v := Lib.hid h_v
       have H_w := Lib.hid h_w
       have H_y := Lib.hid h_y
       have H_a := Lib.hid h_a
       have H_e := Lib.hid h_e
       have H_r := Lib.hid h_r
       have H_n := Lib.hid h_n
       have H_m := Lib.hid h_m
       clear h_v h_w h_y h_a h_e h_r h_n h_m
       go_enter Tryz.func175, Tryz.ntmps175
       go_wp2
       go_ret
       exact ⟨by rw [E.out]; rfl, rfl⟩
    ·cases h_r : (a == 114)
     ·have i_v : (((a.toNat : Nat) : Int) == 118) = false := by rw [u8_eqs a 118 118 rfl, h_v]
      have i_w : (((a.toNat : Nat) : Int) == 119) = false := by rw [u8_eqs a 119 119 rfl, h_w]
      have i_y : (((a.toNat : Nat) : Int) == 121) = false := by rw [u8_eqs a 121 121 rfl, h_y]
      have i_a : (((b.toNat : Nat) : Int) == 97) = true := by rw [u8_eqs b 97 97 rfl, h_a]
      have i_r : (((a.toNat : Nat) : Int) == 114) = false := by rw [u8_eqs a 114 114 rfl, h_r]
      have E : Hid (nearV a b = 0) := by show _ = _; unfold nearV; simp [h_v, h_w, h_y, h_a, h_r]
      have H_v := Lib.hid h_v
      have H_w := Lib.hid h_w
      have H_y := Lib.hid h_y
      have H_a := Lib.hid h_a
      have H_r := Lib.hid h_r
      clear h_v h_w h_y h_a h_r
      go_enter Tryz.func175, Tryz.ntmps175
      go_wp2
      go_ret
      exact ⟨by rw [E.out]; rfl, rfl⟩
     ·have h_n : (b == 110) = false := by rw [beq_iff_eq] at h_a; rw [h_a]; decide
      have h_m : (b == 109) = false := by rw [beq_iff_eq] at h_a; rw [h_a]; decide
      have i_v : (((a.toNat : Nat) : Int) == 118) = false := by rw [u8_eqs a 118 118 rfl, h_v]
      have i_w : (((a.toNat : Nat) : Int) == 119) = false := by rw [u8_eqs a 119 119 rfl, h_w]
      have i_y : (((a.toNat : Nat) : Int) == 121) = false := by rw [u8_eqs a 121 121 rfl, h_y]
      have i_a : (((b.toNat : Nat) : Int) == 97) = true := by rw [u8_eqs b 97 97 rfl, h_a]
      have i_r : (((a.toNat : Nat) : Int) == 114) = true := by rw [u8_eqs a 114 114 rfl, h_r]
      have i_n : (((b.toNat : Nat) : Int) == 110) = false := by rw [u8_eqs b 110 110 rfl, h_n]
      have i_m : (((b.toNat : Nat) : Int) == 109) = false := by rw [u8_eqs b 109 109 rfl, h_m]
      have E : Hid (nearV a b = 0) := by show _ = _; unfold nearV; simp [h_v, h_w, h_y, h_a, h_r, h_n, h_m]
      have H_v := Lib.hid h_v
      have H_w := Lib.hid h_w
      have H_y := Lib.hid h_y
      have H_a := Lib.hid h_a
      have H_r := Lib.hid h_r
      have H_n := Lib.hid h_n
      have H_m := Lib.hid h_m
      clear h_v h_w h_y h_a h_r h_n h_m
      go_enter Tryz.func175, Tryz.ntmps175
      go_wp2
      go_ret
      exact ⟨by rw [E.out]; rfl, rfl⟩
   ·cases h_a : (b == 97)
    ·cases h_e : (b == 101)
     ·cases h_o : (b == 111)
      ·have h_r : (a == 114) = false := by rw [beq_iff_eq] at h_y; rw [h_y]; decide
       have i_v : (((a.toNat : Nat) : Int) == 118) = false := by rw [u8_eqs a 118 118 rfl, h_v]
       have i_w : (((a.toNat : Nat) : Int) == 119) = false := by rw [u8_eqs a 119 119 rfl, h_w]
       have i_y : (((a.toNat : Nat) : Int) == 121) = true := by rw [u8_eqs a 121 121 rfl, h_y]
       have i_a : (((b.toNat : Nat) : Int) == 97) = false := by rw [u8_eqs b 97 97 rfl, h_a]
       have i_e : (((b.toNat : Nat) : Int) == 101) = false := by rw [u8_eqs b 101 101 rfl, h_e]
       have i_o : (((b.toNat : Nat) : Int) == 111) = false := by rw [u8_eqs b 111 111 rfl, h_o]
       have i_r : (((a.toNat : Nat) : Int) == 114) = false := by rw [u8_eqs a 114 114 rfl, h_r]
       have E : Hid (nearV a b = 0) := by show _ = _; unfold nearV; simp [h_v, h_w, h_y, h_a, h_e, h_o, h_r]
       have H_v := Lib.hid h_v
       have H_w := Lib.hid h_w
       have H_y := Lib.hid h_y
       have H_a := Lib.hid h_a
       have H_e := Lib.hid h_e
       have H_o := Lib.hid h_o
       have H_r := Lib.hid h_r
       clear h_v h_w h_y h_a h_e h_o h_r
       go_enter Tryz.func175, Tryz.ntmps175
       go_wp2
       go_ret
       exact ⟨by rw [E.out]; rfl, rfl⟩
      ·have i_v : (((a.toNat : Nat) : Int) == 118) = false := by rw [u8_eqs a 118 118 rfl, h_v]
       have i_w : (((a.toNat : Nat) : Int) == 119) = false := by rw [u8_eqs a 119 119 rfl, h_w]
       have i_y : (((a.toNat : Nat) : Int) == 121) = true := by rw [u8_eqs a 121 121 rfl, h_y]
       have i_a : (((b.toNat : Nat) : Int) == 97) = false := by rw [u8_eqs b 97 97 rfl, h_a]
       have i_e : (((b.toNat : Nat) : Int) == 101) = false := by rw [u8_eqs b 101 101 rfl, h_e]
       have i_o : (((b.toNat : Nat) : Int) == 111) = true := by rw [u8_eqs b 111 111 rfl, h_o]
       have E : Hid (nearV a b = 1) := by show _ = _; unfold nearV; simp [h_v, h_w, h_y, h_a, h_e, h_o]
       have H_v := Lib.hid h_v
       have H_w := Lib.hid h_w
       have H_y := Lib.hid h_y
       have H_a := Lib.hid h_a
       have H_e := Lib.hid h_e
       have H_o := Lib.hid h_o
       clear h_v h_w h_y h_a h_e h_o
       go_enter Tryz.func175, Tryz.ntmps175
       go_wp2
       go_ret
       exact ⟨by rw [E.out]; rfl, rfl⟩
     ·have i_v : (((a.toNat : Nat) : Int) == 118) = false := by rw [u8_eqs a 118 118 rfl, h_v]
      have i_w : (((a.toNat : Nat) : Int) == 119) = false := by rw [u8_eqs a 119 119 rfl, h_w]
      have i_y : (((a.toNat : Nat) : Int) == 121) = true := by rw [u8_eqs a 121 121 rfl, h_y]
      have i_a : (((b.toNat : Nat) : Int) == 97) = false := by rw [u8_eqs b 97 97 rfl, h_a]
      have i_e : (((b.toNat : Nat) : Int) == 101) = true := by rw [u8_eqs b 101 101 rfl, h_e]
      have E : Hid (nearV a b = 1) := by show _ = _; unfold nearV; simp [h_v, h_w, h_y, h_a, h_e]
      have H_v := Lib.hid h_v
      have H_w := Lib.hid h_w
      have H_y := Lib.hid h_y
      have H_a := Lib.hid h_a
      have H_e := Lib.hid h_e
      clear h_v h_w h_y h_a h_e
      go_enter Tryz.func175, Tryz.ntmps175
      go_wp2
      go_ret
      exact ⟨by rw [E.out]; rfl, rfl⟩
    ·have i_v : (((a.toNat : Nat) : Int) == 118) = false := by rw [u8_eqs a 118 118 rfl, h_v]
     have i_w : (((a.toNat : Nat) : Int) == 119) = false := by rw [u8_eqs a 119 119 rfl, h_w]
     have i_y : (((a.toNat : Nat) : Int) == 121) = true := by rw [u8_eqs a 121 121 rfl, h_y]
     have i_a : (((b.toNat : Nat) : Int) == 97) = true := by rw [u8_eqs b 97 97 rfl, h_a]
     have E : Hid (nearV a b = 1) := by show _ = _; unfold nearV; simp [h_v, h_w, h_y, h_a]
     have H_v := Lib.hid h_v
     have H_w := Lib.hid h_w
     have H_y := Lib.hid h_y
     have H_a := Lib.hid h_a
     clear h_v h_w h_y h_a
     go_enter Tryz.func175, Tryz.ntmps175
     go_wp2
     go_ret
     exact ⟨by rw [E.out]; rfl, rfl⟩
  ·cases h_a : (b == 97)
   ·cases h_e : (b == 101)
    ·cases h_o : (b == 111)
     ·have h_r : (a == 114) = false := by rw [beq_iff_eq] at h_w; rw [h_w]; decide
      have i_v : (((a.toNat : Nat) : Int) == 118) = false := by rw [u8_eqs a 118 118 rfl, h_v]
      have i_w : (((a.toNat : Nat) : Int) == 119) = true := by rw [u8_eqs a 119 119 rfl, h_w]
      have i_a : (((b.toNat : Nat) : Int) == 97) = false := by rw [u8_eqs b 97 97 rfl, h_a]
      have i_e : (((b.toNat : Nat) : Int) == 101) = false := by rw [u8_eqs b 101 101 rfl, h_e]
      have i_o : (((b.toNat : Nat) : Int) == 111) = false := by rw [u8_eqs b 111 111 rfl, h_o]
      have i_r : (((a.toNat : Nat) : Int) == 114) = false := by rw [u8_eqs a 114 114 rfl, h_r]
      have E : Hid (nearV a b = 0) := by show _ = _; unfold nearV; simp [h_v, h_w, h_a, h_e, h_o, h_r]
      have H_v := Lib.hid h_v
      have H_w := Lib.hid h_w
      have H_a := Lib.hid h_a
      have H_e := Lib.hid h_e
      have H_o := Lib.hid h_o
      have H_r := Lib.hid h_r
      clear h_v h_w h_a h_e h_o h_r
      go_enter Tryz.func175, Tryz.ntmps175
      go_wp2
      go_ret
      exact ⟨by rw [E.out]; rfl, rfl⟩
     ·have i_v : (((a.toNat : Nat) : Int) == 118) = false := by rw [u8_eqs a 118 118 rfl, h_v]
      have i_w : (((a.toNat : Nat) : Int) == 119) = true := by rw [u8_eqs a 119 119 rfl, h_w]
      have i_a : (((b.toNat : Nat) : Int) == 97) = false := by rw [u8_eqs b 97 97 rfl, h_a]
      have i_e : (((b.toNat : Nat) : Int) == 101) = false := by rw [u8_eqs b 101 101 rfl, h_e]
      have i_o : (((b.toNat : Nat) : Int) == 111) = true := by rw [u8_eqs b 111 111 rfl, h_o]
      have E : Hid (nearV a b = 1) := by show _ = _; unfold nearV; simp [h_v, h_w, h_a, h_e, h_o]
      have H_v := Lib.hid h_v
      have H_w := Lib.hid h_w
      have H_a := Lib.hid h_a
      have H_e := Lib.hid h_e
      have H_o := Lib.hid h_o
      clear h_v h_w h_a h_e h_o
      go_enter Tryz.func175, Tryz.ntmps175
      go_wp2
      go_ret
      exact ⟨by rw [E.out]; rfl, rfl⟩
    ·have i_v : (((a.toNat : Nat) : Int) == 118) = false := by rw [u8_eqs a 118 118 rfl, h_v]
     have i_w : (((a.toNat : Nat) : Int) == 119) = true := by rw [u8_eqs a 119 119 rfl, h_w]
     have i_a : (((b.toNat : Nat) : Int) == 97) = false := by rw [u8_eqs b 97 97 rfl, h_a]
     have i_e : (((b.toNat : Nat) : Int) == 101) = true := by rw [u8_eqs b 101 101 rfl, h_e]
     have E : Hid (nearV a b = 1) := by show _ = _; unfold nearV; simp [h_v, h_w, h_a, h_e]
     have H_v := Lib.hid h_v
     have H_w := Lib.hid h_w
     have H_a := Lib.hid h_a
     have H_e := Lib.hid h_e
     clear h_v h_w h_a h_e
     go_enter Tryz.func175, Tryz.ntmps175
     go_wp2
     go_ret
     exact ⟨by rw [E.out]; rfl, rfl⟩
   ·have i_v : (((a.toNat : Nat) : Int) == 118) = false := by rw [u8_eqs a 118 118 rfl, h_v]
    have i_w : (((a.toNat : Nat) : Int) == 119) = true := by rw [u8_eqs a 119 119 rfl, h_w]
    have i_a : (((b.toNat : Nat) : Int) == 97) = true := by rw [u8_eqs b 97 97 rfl, h_a]
    have E : Hid (nearV a b = 1) := by show _ = _; unfold nearV; simp [h_v, h_w, h_a]
    have H_v := Lib.hid h_v
    have H_w := Lib.hid h_w
    have H_a := Lib.hid h_a
    clear h_v h_w h_a
    go_enter Tryz.func175, Tryz.ntmps175
    go_wp2
    go_ret
    exact ⟨by rw [E.out]; rfl, rfl⟩
 ·cases h_a : (b == 97)
  ·cases h_e : (b == 101)
   ·cases h_o : (b == 111)
    ·have h_r : (a == 114) = false := by rw [beq_iff_eq] at h_v; rw [h_v]; decide
     have i_v : (((a.toNat : Nat) : Int) == 118) = true := by rw [u8_eqs a 118 118 rfl, h_v]
     have i_a : (((b.toNat : Nat) : Int) == 97) = false := by rw [u8_eqs b 97 97 rfl, h_a]
     have i_e : (((b.toNat : Nat) : Int) == 101) = false := by rw [u8_eqs b 101 101 rfl, h_e]
     have i_o : (((b.toNat : Nat) : Int) == 111) = false := by rw [u8_eqs b 111 111 rfl, h_o]
     have i_r : (((a.toNat : Nat) : Int) == 114) = false := by rw [u8_eqs a 114 114 rfl, h_r]
     have E : Hid (nearV a b = 0) := by show _ = _; unfold nearV; simp [h_v, h_a, h_e, h_o, h_r]
     have H_v := Lib.hid h_v
     have H_a := Lib.hid h_a
     have H_e := Lib.hid h_e
     have H_o := Lib.hid h_o
     have H_r := Lib.hid h_r
     clear h_v h_a h_e h_o h_r
     go_enter Tryz.func175, Tryz.ntmps175
     go_wp2
     go_ret
     exact ⟨by rw [E.out]; rfl, rfl⟩
    ·have i_v : (((a.toNat : Nat) : Int) == 118) = true := by rw [u8_eqs a 118 118 rfl, h_v]
     have i_a : (((b.toNat : Nat) : Int) == 97) = false := by rw [u8_eqs b 97 97 rfl, h_a]
     have i_e : (((b.toNat : Nat) : Int) == 101) = false := by rw [u8_eqs b 101 101 rfl, h_e]
     have i_o : (((b.toNat : Nat) : Int) == 111) = true := by rw [u8_eqs b 111 111 rfl, h_o]
     have E : Hid (nearV a b = 1) := by show _ = _; unfold nearV; simp [h_v, h_a, h_e, h_o]
     have H_v := Lib.hid h_v
     have H_a := Lib.hid h_a
     have H_e := Lib.hid h_e
     have H_o := Lib.hid h_o
     clear h_v h_a h_e h_o
     go_enter Tryz.func175, Tryz.ntmps175
     go_wp2
     go_ret
     exact ⟨by rw [E.out]; rfl, rfl⟩
   ·have i_v : (((a.toNat : Nat) : Int) == 118) = true := by rw [u8_eqs a 118 118 rfl, h_v]
    have i_a : (((b.toNat : Nat) : Int) == 97) = false := by rw [u8_eqs b 97 97 rfl, h_a]
    have i_e : (((b.toNat : Nat) : Int) == 101) = true := by rw [u8_eqs b 101 101 rfl, h_e]
    have E : Hid (nearV a b = 1) := by show _ = _; unfold nearV; simp [h_v, h_a, h_e]
    have H_v := Lib.hid h_v
    have H_a := Lib.hid h_a
    have H_e := Lib.hid h_e
    clear h_v h_a h_e
    go_enter Tryz.func175, Tryz.ntmps175
    go_wp2
    go_ret
    exact ⟨by rw [E.out]; rfl, rfl⟩
  ·have i_v : (((a.toNat : Nat) : Int) == 118) = true := by rw [u8_eqs a 118 118 rfl, h_v]
   have i_a : (((b.toNat : Nat) : Int) == 97) = true := by rw [u8_eqs b 97 97 rfl, h_a]
   have E : Hid (nearV a b = 1) := by show _ = _; unfold nearV; simp [h_v, h_a]
   have H_v := Lib.hid h_v
   have H_a := Lib.hid h_a
   clear h_v h_a
   go_enter Tryz.func175, Tryz.ntmps175
   go_wp2
   go_ret
   exact ⟨by rw [E.out]; rfl, rfl⟩
set_option maxHeartbeats 2000000 in
theorem implLet_any (c : UInt8) (w : World) : Calls Tryz.prog 162 #[.int .u8 (c.toNat : Int)] w fun e w' => e = .returned (.int .i64 (letW c)) ∧ w = w' := by
 cases h_s : smB c
 ·have E : Hid (letW c = 0) := by show _ = _; rw [letW_has]; simp only [h_s]; rfl
  have H_s := Lib.hid h_s
  clear h_s
  go_enter Tryz.func162, Tryz.ntmps162
  go_wp2_with (first | (go_at_call 95; refine (small_any c _).mono ?_; rintro e w' ⟨rfl, rfl⟩; rw [H_s.out]))
  go_ret
  exact ⟨by rw [E.out]; rfl, rfl⟩
 ·cases h_i : ([105, 106, 108] : List UInt8).contains c
  ·cases h_f : ([102, 114, 116] : List UInt8).contains c
   ·cases h_m : ([109, 119] : List UInt8).contains c
    ·have E : Hid (letW c = 5) := by show _ = _; rw [letW_has]; simp only [h_s, h_i, h_f, h_m]; rfl
     have H_s := Lib.hid h_s
     have H_i := Lib.hid h_i
     have H_f := Lib.hid h_f
     have H_m := Lib.hid h_m
     clear h_s h_i h_f h_m
     go_enter Tryz.func162, Tryz.ntmps162
     go_wp2_with (first | (go_at_call 95; refine (small_any c _).mono ?_; rintro e w' ⟨rfl, rfl⟩; rw [H_s.out]) | (go_at_call 182; refine (among_any _ _ _).mono ?_; rintro e w' ⟨rfl, rfl⟩; first | rw [H_i.out] | rw [H_f.out] | rw [H_m.out]))
     go_ret
     exact ⟨by rw [E.out]; rfl, rfl⟩
    ·have E : Hid (letW c = 8) := by show _ = _; rw [letW_has]; simp only [h_s, h_i, h_f, h_m]; rfl
     have H_s := Lib.hid h_s
     have H_i := Lib.hid h_i
     have H_f := Lib.hid h_f
     have H_m := Lib.hid h_m
     clear h_s h_i h_f h_m
     go_enter Tryz.func162, Tryz.ntmps162
     go_wp2_with (first | (go_at_call 95; refine (small_any c _).mono ?_; rintro e w' ⟨rfl, rfl⟩; rw [H_s.out]) | (go_at_call 182; refine (among_any _ _ _).mono ?_; rintro e w' ⟨rfl, rfl⟩; first | rw [H_i.out] | rw [H_f.out] | rw [H_m.out]))
     go_ret
     exact ⟨by rw [E.out]; rfl, rfl⟩
   ·have E : Hid (letW c = 4) := by show _ = _; rw [letW_has]; simp only [h_s, h_i, h_f]; rfl
    have H_s := Lib.hid h_s
    have H_i := Lib.hid h_i
    have H_f := Lib.hid h_f
    clear h_s h_i h_f
    go_enter Tryz.func162, Tryz.ntmps162
    go_wp2_with (first | (go_at_call 95; refine (small_any c _).mono ?_; rintro e w' ⟨rfl, rfl⟩; rw [H_s.out]) | (go_at_call 182; refine (among_any _ _ _).mono ?_; rintro e w' ⟨rfl, rfl⟩; first | rw [H_i.out] | rw [H_f.out]))
    go_ret
    exact ⟨by rw [E.out]; rfl, rfl⟩
  ·have E : Hid (letW c = 3) := by show _ = _; rw [letW_has]; simp only [h_s, h_i]; rfl
   have H_s := Lib.hid h_s
   have H_i := Lib.hid h_i
   clear h_s h_i
   go_enter Tryz.func162, Tryz.ntmps162
   go_wp2_with (first | (go_at_call 95; refine (small_any c _).mono ?_; rintro e w' ⟨rfl, rfl⟩; rw [H_s.out]) | (go_at_call 182; refine (among_any _ _ _).mono ?_; rintro e w' ⟨rfl, rfl⟩; first | rw [H_i.out]))
   go_ret
   exact ⟨by rw [E.out]; rfl, rfl⟩
set_option maxHeartbeats 2000000 in
theorem specLet_any (c : UInt8) (w : World) : Calls Tryz.prog 174 #[.int .u8 (c.toNat : Int)] w fun e w' => e = .returned (.int .i64 (letW c)) ∧ w = w' := by
 cases h_lo : decide (97 ≤ c.toNat)
 ·have i_lo : ((c.toNat : Nat) : Int) < 97 := by have := of_decide_eq_false h_lo; omega
  have E : Hid (letW c = 0) := by show _ = _; unfold letW smB; simp [h_lo]
  have H_lo := Lib.hid h_lo
  clear h_lo
  go_enter Tryz.func174, Tryz.ntmps174
  go_wp2
  go_ret
  exact ⟨by rw [E.out]; rfl, rfl⟩
 ·cases h_hi : decide (c.toNat ≤ 122)
  ·have i_lo : ¬ ((c.toNat : Nat) : Int) < 97 := by have := of_decide_eq_true h_lo; omega
   have i_hi : 122 < ((c.toNat : Nat) : Int) := by have := of_decide_eq_false h_hi; omega
   have E : Hid (letW c = 0) := by show _ = _; unfold letW smB; simp [h_lo, h_hi]
   have H_lo := Lib.hid h_lo
   have H_hi := Lib.hid h_hi
   clear h_lo h_hi
   go_enter Tryz.func174, Tryz.ntmps174
   go_wp2
   go_ret
   exact ⟨by rw [E.out]; rfl, rfl⟩
  ·cases h_i : (c == 105)
   ·cases h_j : (c == 106)
    ·cases h_l : (c == 108)
     ·cases h_f : (c == 102)
      ·cases h_r : (c == 114)
       ·cases h_t : (c == 116)
        ·cases h_m : (c == 109)
         ·cases h_w : (c == 119)
          ·have i_lo : ¬ ((c.toNat : Nat) : Int) < 97 := by have := of_decide_eq_true h_lo; omega
           have i_hi : ¬ 122 < ((c.toNat : Nat) : Int) := by have := of_decide_eq_true h_hi; omega
           have i_i : (((c.toNat : Nat) : Int) == 105) = false := by rw [u8_eqs c 105 105 rfl, h_i]
           have i_j : (((c.toNat : Nat) : Int) == 106) = false := by rw [u8_eqs c 106 106 rfl, h_j]
           have i_l : (((c.toNat : Nat) : Int) == 108) = false := by rw [u8_eqs c 108 108 rfl, h_l]
           have i_f : (((c.toNat : Nat) : Int) == 102) = false := by rw [u8_eqs c 102 102 rfl, h_f]
           have i_r : (((c.toNat : Nat) : Int) == 114) = false := by rw [u8_eqs c 114 114 rfl, h_r]
           have i_t : (((c.toNat : Nat) : Int) == 116) = false := by rw [u8_eqs c 116 116 rfl, h_t]
           have i_m : (((c.toNat : Nat) : Int) == 109) = false := by rw [u8_eqs c 109 109 rfl, h_m]
           have i_w : (((c.toNat : Nat) : Int) == 119) = false := by rw [u8_eqs c 119 119 rfl, h_w]
           have E : Hid (letW c = 5) := by show _ = _; unfold letW smB; simp [h_lo, h_hi, h_i, h_j, h_l, h_f, h_r, h_t, h_m, h_w]
           have H_lo := Lib.hid h_lo
           have H_hi := Lib.hid h_hi
           have H_i := Lib.hid h_i
           have H_j := Lib.hid h_j
           have H_l := Lib.hid h_l
           have H_f := Lib.hid h_f
           have H_r := Lib.hid h_r
           have H_t := Lib.hid h_t
           have H_m := Lib.hid h_m
           have H_w := Lib.hid h_w
           clear h_lo h_hi h_i h_j h_l h_f h_r h_t h_m h_w
           go_enter Tryz.func174, Tryz.ntmps174
           go_wp2
           go_ret
           exact ⟨by rw [E.out]; rfl, rfl⟩
          ·have i_lo : ¬ ((c.toNat : Nat) : Int) < 97 := by have := of_decide_eq_true h_lo; omega
           have i_hi : ¬ 122 < ((c.toNat : Nat) : Int) := by have := of_decide_eq_true h_hi; omega
           have i_i : (((c.toNat : Nat) : Int) == 105) = false := by rw [u8_eqs c 105 105 rfl, h_i]
           have i_j : (((c.toNat : Nat) : Int) == 106) = false := by rw [u8_eqs c 106 106 rfl, h_j]
           have i_l : (((c.toNat : Nat) : Int) == 108) = false := by rw [u8_eqs c 108 108 rfl, h_l]
           have i_f : (((c.toNat : Nat) : Int) == 102) = false := by rw [u8_eqs c 102 102 rfl, h_f]
           have i_r : (((c.toNat : Nat) : Int) == 114) = false := by rw [u8_eqs c 114 114 rfl, h_r]
           have i_t : (((c.toNat : Nat) : Int) == 116) = false := by rw [u8_eqs c 116 116 rfl, h_t]
           have i_m : (((c.toNat : Nat) : Int) == 109) = false := by rw [u8_eqs c 109 109 rfl, h_m]
           have i_w : (((c.toNat : Nat) : Int) == 119) = true := by rw [u8_eqs c 119 119 rfl, h_w]
           have E : Hid (letW c = 8) := by show _ = _; unfold letW smB; simp [h_lo, h_hi, h_i, h_j, h_l, h_f, h_r, h_t, h_m, h_w]
           have H_lo := Lib.hid h_lo
           have H_hi := Lib.hid h_hi
           have H_i := Lib.hid h_i
           have H_j := Lib.hid h_j
           have H_l := Lib.hid h_l
           have H_f := Lib.hid h_f
           have H_r := Lib.hid h_r
           have H_t := Lib.hid h_t
           have H_m := Lib.hid h_m
           have H_w := Lib.hid h_w
           clear h_lo h_hi h_i h_j h_l h_f h_r h_t h_m h_w
           go_enter Tryz.func174, Tryz.ntmps174
           go_wp2
           go_ret
           exact ⟨by rw [E.out]; rfl, rfl⟩
         ·have i_lo : ¬ ((c.toNat : Nat) : Int) < 97 := by have := of_decide_eq_true h_lo; omega
          have i_hi : ¬ 122 < ((c.toNat : Nat) : Int) := by have := of_decide_eq_true h_hi; omega
          have i_i : (((c.toNat : Nat) : Int) == 105) = false := by rw [u8_eqs c 105 105 rfl, h_i]
          have i_j : (((c.toNat : Nat) : Int) == 106) = false := by rw [u8_eqs c 106 106 rfl, h_j]
          have i_l : (((c.toNat : Nat) : Int) == 108) = false := by rw [u8_eqs c 108 108 rfl, h_l]
          have i_f : (((c.toNat : Nat) : Int) == 102) = false := by rw [u8_eqs c 102 102 rfl, h_f]
          have i_r : (((c.toNat : Nat) : Int) == 114) = false := by rw [u8_eqs c 114 114 rfl, h_r]
          have i_t : (((c.toNat : Nat) : Int) == 116) = false := by rw [u8_eqs c 116 116 rfl, h_t]
          have i_m : (((c.toNat : Nat) : Int) == 109) = true := by rw [u8_eqs c 109 109 rfl, h_m]
          have E : Hid (letW c = 8) := by show _ = _; unfold letW smB; simp [h_lo, h_hi, h_i, h_j, h_l, h_f, h_r, h_t, h_m]
          have H_lo := Lib.hid h_lo
          have H_hi := Lib.hid h_hi
          have H_i := Lib.hid h_i
          have H_j := Lib.hid h_j
          have H_l := Lib.hid h_l
          have H_f := Lib.hid h_f
          have H_r := Lib.hid h_r
          have H_t := Lib.hid h_t
          have H_m := Lib.hid h_m
          clear h_lo h_hi h_i h_j h_l h_f h_r h_t h_m
          go_enter Tryz.func174, Tryz.ntmps174
          go_wp2
          go_ret
          exact ⟨by rw [E.out]; rfl, rfl⟩
        ·have i_lo : ¬ ((c.toNat : Nat) : Int) < 97 := by have := of_decide_eq_true h_lo; omega
         have i_hi : ¬ 122 < ((c.toNat : Nat) : Int) := by have := of_decide_eq_true h_hi; omega
         have i_i : (((c.toNat : Nat) : Int) == 105) = false := by rw [u8_eqs c 105 105 rfl, h_i]
         have i_j : (((c.toNat : Nat) : Int) == 106) = false := by rw [u8_eqs c 106 106 rfl, h_j]
         have i_l : (((c.toNat : Nat) : Int) == 108) = false := by rw [u8_eqs c 108 108 rfl, h_l]
         have i_f : (((c.toNat : Nat) : Int) == 102) = false := by rw [u8_eqs c 102 102 rfl, h_f]
         have i_r : (((c.toNat : Nat) : Int) == 114) = false := by rw [u8_eqs c 114 114 rfl, h_r]
         have i_t : (((c.toNat : Nat) : Int) == 116) = true := by rw [u8_eqs c 116 116 rfl, h_t]
         have E : Hid (letW c = 4) := by show _ = _; unfold letW smB; simp [h_lo, h_hi, h_i, h_j, h_l, h_f, h_r, h_t]
         have H_lo := Lib.hid h_lo
         have H_hi := Lib.hid h_hi
         have H_i := Lib.hid h_i
         have H_j := Lib.hid h_j
         have H_l := Lib.hid h_l
         have H_f := Lib.hid h_f
         have H_r := Lib.hid h_r
         have H_t := Lib.hid h_t
         clear h_lo h_hi h_i h_j h_l h_f h_r h_t
         go_enter Tryz.func174, Tryz.ntmps174
         go_wp2
         go_ret
         exact ⟨by rw [E.out]; rfl, rfl⟩
       ·have i_lo : ¬ ((c.toNat : Nat) : Int) < 97 := by have := of_decide_eq_true h_lo; omega
        have i_hi : ¬ 122 < ((c.toNat : Nat) : Int) := by have := of_decide_eq_true h_hi; omega
        have i_i : (((c.toNat : Nat) : Int) == 105) = false := by rw [u8_eqs c 105 105 rfl, h_i]
        have i_j : (((c.toNat : Nat) : Int) == 106) = false := by rw [u8_eqs c 106 106 rfl, h_j]
        have i_l : (((c.toNat : Nat) : Int) == 108) = false := by rw [u8_eqs c 108 108 rfl, h_l]
        have i_f : (((c.toNat : Nat) : Int) == 102) = false := by rw [u8_eqs c 102 102 rfl, h_f]
        have i_r : (((c.toNat : Nat) : Int) == 114) = true := by rw [u8_eqs c 114 114 rfl, h_r]
        have E : Hid (letW c = 4) := by show _ = _; unfold letW smB; simp [h_lo, h_hi, h_i, h_j, h_l, h_f, h_r]
        have H_lo := Lib.hid h_lo
        have H_hi := Lib.hid h_hi
        have H_i := Lib.hid h_i
        have H_j := Lib.hid h_j
        have H_l := Lib.hid h_l
        have H_f := Lib.hid h_f
        have H_r := Lib.hid h_r
        clear h_lo h_hi h_i h_j h_l h_f h_r
        go_enter Tryz.func174, Tryz.ntmps174
        go_wp2
        go_ret
        exact ⟨by rw [E.out]; rfl, rfl⟩
      ·have i_lo : ¬ ((c.toNat : Nat) : Int) < 97 := by have := of_decide_eq_true h_lo; omega
       have i_hi : ¬ 122 < ((c.toNat : Nat) : Int) := by have := of_decide_eq_true h_hi; omega
       have i_i : (((c.toNat : Nat) : Int) == 105) = false := by rw [u8_eqs c 105 105 rfl, h_i]
       have i_j : (((c.toNat : Nat) : Int) == 106) = false := by rw [u8_eqs c 106 106 rfl, h_j]
       have i_l : (((c.toNat : Nat) : Int) == 108) = false := by rw [u8_eqs c 108 108 rfl, h_l]
       have i_f : (((c.toNat : Nat) : Int) == 102) = true := by rw [u8_eqs c 102 102 rfl, h_f]
       have E : Hid (letW c = 4) := by show _ = _; unfold letW smB; simp [h_lo, h_hi, h_i, h_j, h_l, h_f]
       have H_lo := Lib.hid h_lo
       have H_hi := Lib.hid h_hi
       have H_i := Lib.hid h_i
       have H_j := Lib.hid h_j
       have H_l := Lib.hid h_l
       have H_f := Lib.hid h_f
       clear h_lo h_hi h_i h_j h_l h_f
       go_enter Tryz.func174, Tryz.ntmps174
       go_wp2
       go_ret
       exact ⟨by rw [E.out]; rfl, rfl⟩
     ·have i_lo : ¬ ((c.toNat : Nat) : Int) < 97 := by have := of_decide_eq_true h_lo; omega
      have i_hi : ¬ 122 < ((c.toNat : Nat) : Int) := by have := of_decide_eq_true h_hi; omega
      have i_i : (((c.toNat : Nat) : Int) == 105) = false := by rw [u8_eqs c 105 105 rfl, h_i]
      have i_j : (((c.toNat : Nat) : Int) == 106) = false := by rw [u8_eqs c 106 106 rfl, h_j]
      have i_l : (((c.toNat : Nat) : Int) == 108) = true := by rw [u8_eqs c 108 108 rfl, h_l]
      have E : Hid (letW c = 3) := by show _ = _; unfold letW smB; simp [h_lo, h_hi, h_i, h_j, h_l]
      have H_lo := Lib.hid h_lo
      have H_hi := Lib.hid h_hi
      have H_i := Lib.hid h_i
      have H_j := Lib.hid h_j
      have H_l := Lib.hid h_l
      clear h_lo h_hi h_i h_j h_l
      go_enter Tryz.func174, Tryz.ntmps174
      go_wp2
      go_ret
      exact ⟨by rw [E.out]; rfl, rfl⟩
    ·have i_lo : ¬ ((c.toNat : Nat) : Int) < 97 := by have := of_decide_eq_true h_lo; omega
     have i_hi : ¬ 122 < ((c.toNat : Nat) : Int) := by have := of_decide_eq_true h_hi; omega
     have i_i : (((c.toNat : Nat) : Int) == 105) = false := by rw [u8_eqs c 105 105 rfl, h_i]
     have i_j : (((c.toNat : Nat) : Int) == 106) = true := by rw [u8_eqs c 106 106 rfl, h_j]
     have E : Hid (letW c = 3) := by show _ = _; unfold letW smB; simp [h_lo, h_hi, h_i, h_j]
     have H_lo := Lib.hid h_lo
     have H_hi := Lib.hid h_hi
     have H_i := Lib.hid h_i
     have H_j := Lib.hid h_j
     clear h_lo h_hi h_i h_j
     go_enter Tryz.func174, Tryz.ntmps174
     go_wp2
     go_ret
     exact ⟨by rw [E.out]; rfl, rfl⟩
   ·have i_lo : ¬ ((c.toNat : Nat) : Int) < 97 := by have := of_decide_eq_true h_lo; omega
    have i_hi : ¬ 122 < ((c.toNat : Nat) : Int) := by have := of_decide_eq_true h_hi; omega
    have i_i : (((c.toNat : Nat) : Int) == 105) = true := by rw [u8_eqs c 105 105 rfl, h_i]
    have E : Hid (letW c = 3) := by show _ = _; unfold letW smB; simp [h_lo, h_hi, h_i]
    have H_lo := Lib.hid h_lo
    have H_hi := Lib.hid h_hi
    have H_i := Lib.hid h_i
    clear h_lo h_hi h_i
    go_enter Tryz.func174, Tryz.ntmps174
    go_wp2
    go_ret
    exact ⟨by rw [E.out]; rfl, rfl⟩
end Go.Proofs.YtofnchdijanikaaGreatDoor

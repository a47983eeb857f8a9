/-
  PROVED HERE: what the printer's lines need, part C11. Conditions: each theorem's own.
-/
import Derived.Test.YtofnchdijanikaaGreatDoorC10
set_option linter.unusedVariables false
set_option linter.unusedSimpArgs false
set_option maxRecDepth 100000
namespace Go.Proofs.YtofnchdijanikaaGreatDoor
open Go.RowKit
set_option maxHeartbeats 4000000 in
theorem implBreak_any (b off cap n k : Nat) (xs : List DItem) (hx : PIs xs) (w : World) (hc : ItC w b off n xs) (hk : k < n) : Calls Tryz.prog 166 #[.slice (some ⟨b, off, none⟩) n cap, .int .i64 k] w fun e w' => e = .returned (.bool (brk xs k)) ∧ w = w' := by
 have n60 : n ≤ 60 := by rw [hc.1]; exact hx.len
 have q := hc.2.2 k hk
 have c0 := q.c0
 have c5 := q.c5
 have hp := pit_kind (hx.at (j := k) (by rw [← hc.1]; exact hk))
 have hbl := hc.2.1
 have BR : Hid (brk xs k = if (it xs k).kind = 2 then decide (0 < k) && decide ((it xs (k - 1)).kind = 1) else decide ((it xs k).kind = 3) && decide ((it xs k).cost < 10000)) := rfl
 obtain ⟨x, hxx⟩ : ∃ x, x = it xs k := ⟨_, rfl⟩
 rw [← hxx] at c0 c5 hp BR
 clear hxx q
 have IN : Hid (inB (k : Int) 0 ((n : Int) - 1) = true) := inB_yes (by omega) (by omega)
 rcases hp with ⟨h1, -⟩ | ⟨h1, -⟩ | ⟨h1, h2⟩ | ⟨h1, h2⟩
 ·rw [h1] at c0 BR
  have E : Hid (brk xs k = false) := by show _ = _; rw [BR.out]; rfl
  clear BR h1 hc hx
  go_enter Tryz.func166, Tryz.ntmps166
  go_wp2_with (go_at_call 57; refine (in_any _ _ _ _).mono ?_; rintro e w' ⟨rfl, rfl⟩; rw [IN.out])
  go_ret
  exact ⟨by rw [E.out]; rfl, rfl⟩
 ·rw [h1] at c0 BR
  by_cases hk0 : 0 < k
  ·have hk0' : (0 : Int) < (k : Int) := by omega
   have q1 := (hc.2.2 (k - 1) (by omega)).c0
   obtain ⟨j, hj⟩ : ∃ j, k = j + 1 := ⟨k - 1, by omega⟩
   have hkj : ((k : Nat) : Int) - 1 = (j : Int) := by omega
   rw [show k - 1 = j by omega] at q1 BR
   have hjn : j < n := by omega
   obtain ⟨y, hy⟩ : ∃ y, y = (it xs j).kind := ⟨_, rfl⟩
   rw [← hy] at q1 BR
   have cb : (y == 1) = decide (y = 1) := rfl
   have E : Hid (brk xs k = decide (y = 1)) := by show _ = _; rw [BR.out, if_pos rfl, decide_eq_true hk0, Bool.true_and]
   clear BR h1 hc hx hy hj cb
   by_cases hy1 : y = 1
   ·have cb : (y == 1) = true := by rw [hy1]; rfl
    have E2 : Hid (brk xs k = true) := by show _ = _; rw [E.out, hy1]; rfl
    clear E hy1
    go_enter Tryz.func166, Tryz.ntmps166
    go_wp2_with (go_at_call 57; refine (in_any _ _ _ _).mono ?_; rintro e w' ⟨rfl, rfl⟩; rw [IN.out])
    go_ret
    exact ⟨by rw [E2.out]; rfl, rfl⟩
   ·have cb : (y == 1) = false := by rw [beq_eq_false_iff_ne]; exact hy1
    have E2 : Hid (brk xs k = false) := by show _ = _; rw [E.out, decide_eq_false hy1]
    clear E hy1
    go_enter Tryz.func166, Tryz.ntmps166
    go_wp2_with (go_at_call 57; refine (in_any _ _ _ _).mono ?_; rintro e w' ⟨rfl, rfl⟩; rw [IN.out])
    go_ret
    exact ⟨by rw [E2.out]; rfl, rfl⟩
  ·have hk0' : ¬ (0 : Int) < (k : Int) := by omega
   have E : Hid (brk xs k = false) := by show _ = _; rw [BR.out, if_pos rfl, decide_eq_false hk0]; rfl
   clear BR h1 hc hx
   go_enter Tryz.func166, Tryz.ntmps166
   go_wp2_with (go_at_call 57; refine (in_any _ _ _ _).mono ?_; rintro e w' ⟨rfl, rfl⟩; rw [IN.out])
   go_ret
   exact ⟨by rw [E.out]; rfl, rfl⟩
 ·rw [h1] at c0 BR
  by_cases hlc : x.cost < 10000
  ·have E : Hid (brk xs k = true) := by show _ = _; rw [BR.out, if_neg (by decide), decide_eq_true hlc]; rfl
   clear BR h1 hc hx
   go_enter Tryz.func166, Tryz.ntmps166
   go_wp2_with (go_at_call 57; refine (in_any _ _ _ _).mono ?_; rintro e w' ⟨rfl, rfl⟩; rw [IN.out])
   go_ret
   exact ⟨by rw [E.out]; rfl, rfl⟩
  ·have cb : decide (x.cost < 10000) = false := decide_eq_false hlc
   have E : Hid (brk xs k = false) := by show _ = _; rw [BR.out, if_neg (by decide), decide_eq_false hlc]; rfl
   clear BR h1 hc hx
   go_enter Tryz.func166, Tryz.ntmps166
   go_wp2_with (go_at_call 57; refine (in_any _ _ _ _).mono ?_; rintro e w' ⟨rfl, rfl⟩; rw [IN.out])
   go_ret
   exact ⟨by rw [E.out]; rfl, rfl⟩
 ·rw [h1] at c0 BR
  rw [h2] at c5 BR
  have E : Hid (brk xs k = true) := by show _ = _; rw [BR.out]; rfl
  clear BR h1 hc hx
  go_enter Tryz.func166, Tryz.ntmps166
  go_wp2_with (go_at_call 57; refine (in_any _ _ _ _).mono ?_; rintro e w' ⟨rfl, rfl⟩; rw [IN.out])
  go_ret
  exact ⟨by rw [E.out]; rfl, rfl⟩
set_option maxHeartbeats 4000000 in
theorem specBreak_any (b off cap n k : Nat) (xs : List DItem) (hx : PIs xs) (w : World) (hc : ItC w b off n xs) (hk : k < n) : Calls Tryz.prog 123 #[.slice (some ⟨b, off, none⟩) n cap, .int .i64 k] w fun e w' => e = .returned (.bool (brk xs k)) ∧ w = w' := by
 have n60 : n ≤ 60 := by rw [hc.1]; exact hx.len
 have q := hc.2.2 k hk
 have c0 := q.c0
 have c5 := q.c5
 have hp := pit_kind (hx.at (j := k) (by rw [← hc.1]; exact hk))
 have hbl := hc.2.1
 have BR : Hid (brk xs k = if (it xs k).kind = 2 then decide (0 < k) && decide ((it xs (k - 1)).kind = 1) else decide ((it xs k).kind = 3) && decide ((it xs k).cost < 10000)) := rfl
 obtain ⟨x, hxx⟩ : ∃ x, x = it xs k := ⟨_, rfl⟩
 rw [← hxx] at c0 c5 hp BR
 clear hxx q
 rcases hp with ⟨h1, -⟩ | ⟨h1, -⟩ | ⟨h1, h2⟩ | ⟨h1, h2⟩
 ·rw [h1] at c0 BR
  have E : Hid (brk xs k = false) := by show _ = _; rw [BR.out]; rfl
  clear BR h1 hc hx
  go_enter Tryz.func123, Tryz.ntmps123
  go_wp2_with fail
  go_ret
  exact ⟨by rw [E.out]; rfl, rfl⟩
 ·rw [h1] at c0 BR
  by_cases hk0 : 0 < k
  ·have hk0' : (0 : Int) < (k : Int) := by omega
   have q1 := (hc.2.2 (k - 1) (by omega)).c0
   obtain ⟨j, hj⟩ : ∃ j, k = j + 1 := ⟨k - 1, by omega⟩
   have hkj : ((k : Nat) : Int) - 1 = (j : Int) := by omega
   rw [show k - 1 = j by omega] at q1 BR
   have hjn : j < n := by omega
   obtain ⟨y, hy⟩ : ∃ y, y = (it xs j).kind := ⟨_, rfl⟩
   rw [← hy] at q1 BR
   have cb : (y == 1) = decide (y = 1) := rfl
   have E : Hid (brk xs k = decide (y = 1)) := by show _ = _; rw [BR.out, if_pos rfl, decide_eq_true hk0, Bool.true_and]
   clear BR h1 hc hx hy hj cb
   by_cases hy1 : y = 1
   ·have cb : (y == 1) = true := by rw [hy1]; rfl
    have E2 : Hid (brk xs k = true) := by show _ = _; rw [E.out, hy1]; rfl
    clear E hy1
    go_enter Tryz.func123, Tryz.ntmps123
    go_wp2_with fail
    go_ret
    exact ⟨by rw [E2.out]; rfl, rfl⟩
   ·have cb : (y == 1) = false := by rw [beq_eq_false_iff_ne]; exact hy1
    have E2 : Hid (brk xs k = false) := by show _ = _; rw [E.out, decide_eq_false hy1]
    clear E hy1
    go_enter Tryz.func123, Tryz.ntmps123
    go_wp2_with fail
    go_ret
    exact ⟨by rw [E2.out]; rfl, rfl⟩
  ·have hk0' : ¬ (0 : Int) < (k : Int) := by omega
   have E : Hid (brk xs k = false) := by show _ = _; rw [BR.out, if_pos rfl, decide_eq_false hk0]; rfl
   clear BR h1 hc hx
   go_enter Tryz.func123, Tryz.ntmps123
   go_wp2_with fail
   go_ret
   exact ⟨by rw [E.out]; rfl, rfl⟩
 ·rw [h1] at c0 BR
  by_cases hlc : x.cost < 10000
  ·have E : Hid (brk xs k = true) := by show _ = _; rw [BR.out, if_neg (by decide), decide_eq_true hlc]; rfl
   clear BR h1 hc hx
   go_enter Tryz.func123, Tryz.ntmps123
   go_wp2_with fail
   go_ret
   exact ⟨by rw [E.out]; rfl, rfl⟩
  ·have cb : decide (x.cost < 10000) = false := decide_eq_false hlc
   have E : Hid (brk xs k = false) := by show _ = _; rw [BR.out, if_neg (by decide), decide_eq_false hlc]; rfl
   clear BR h1 hc hx
   go_enter Tryz.func123, Tryz.ntmps123
   go_wp2_with fail
   go_ret
   exact ⟨by rw [E.out]; rfl, rfl⟩
 ·rw [h1] at c0 BR
  rw [h2] at c5 BR
  have E : Hid (brk xs k = true) := by show _ = _; rw [BR.out]; rfl
  clear BR h1 hc hx
  go_enter Tryz.func123, Tryz.ntmps123
  go_wp2_with fail
  go_ret
  exact ⟨by rw [E.out]; rfl, rfl⟩
end Go.Proofs.YtofnchdijanikaaGreatDoor
namespace Go.Proofs.YtofnchdijanikaaGreatDoor
open Go.RowKit
theorem forced_any (x : DItem) (h : PIt x) (w : World) : Calls Tryz.prog 168 #[itV x] w (Ret (.bool (isForced x)) w) := by
 have B0 := Lib.hid ((Below.refl w.heap.size w).alloc (Nat.le_refl _) (.cells #[.int .i64 x.kind, .int .i64 x.w, .int .i64 x.st, .int .i64 x.sh, .int .i64 x.od, .int .i64 x.cost, .bool x.mark] 113))
 have hp := pit_kind h
 unfold itV
 have BR : Hid (isForced x = (decide (x.kind = 3) && decide (x.cost = -10000))) := rfl
 rcases hp with ⟨h1, -⟩ | ⟨h1, -⟩ | ⟨h1, h2, h3⟩ | ⟨h1, h2⟩
 ·rw [h1] at B0 BR ⊢
  have E : Hid (isForced x = false) := by show _ = _; rw [BR.out]; rfl
  clear BR h1 h
  go_enter Tryz.func168, Tryz.ntmps168
  go_wp2
  go_ret
  exact ⟨by rw [E.out]; rfl, B0.out⟩
 ·rw [h1] at B0 BR ⊢
  have E : Hid (isForced x = false) := by show _ = _; rw [BR.out]; rfl
  clear BR h1 h
  go_enter Tryz.func168, Tryz.ntmps168
  go_wp2
  go_ret
  exact ⟨by rw [E.out]; rfl, B0.out⟩
 ·rw [h1] at B0 BR ⊢
  have cb : (x.cost == -10000) = false := by rw [beq_eq_false_iff_ne]; omega
  have E : Hid (isForced x = false) := by show _ = _; rw [BR.out, decide_eq_false (show ¬ x.cost = -10000 by omega)]; rfl
  clear BR h1 h
  go_enter Tryz.func168, Tryz.ntmps168
  go_wp2
  go_ret
  exact ⟨by rw [E.out]; rfl, B0.out⟩
 ·rw [h1, h2] at B0 BR ⊢
  have E : Hid (isForced x = true) := by show _ = _; rw [BR.out]; rfl
  clear BR h1 h h2
  go_enter Tryz.func168, Tryz.ntmps168
  go_wp2
  go_ret
  exact ⟨by rw [E.out]; rfl, B0.out⟩
set_option maxHeartbeats 4000000 in
theorem implStart_any (b off cap n a : Nat) (xs : List DItem) (hx : PIs xs) (w : World) (hc : ItC w b off n xs) (ha : a ≤ n) : Calls Tryz.prog 167 #[.slice (some ⟨b, off, none⟩) n cap, .int .i64 ((a : Int) - 1)] w (NumPost (start xs a : Nat) w) := by
 have hn := hc.1
 have n60 : n ≤ 60 := by rw [hn]; exact hx.len
 have HX := Lib.hid hx
 have HC := Lib.hid hc
 have HN := Lib.hid hn
 clear hc hx hn
 have sub : (a : Int) - 1 + 1 = (a : Int) := by omega
 go_enter Tryz.func167, Tryz.ntmps167
 go_wp2
 clear sub
 go_loopw [5] (fun i wr => ∃ k : Nat, k ≤ n ∧ i = .int .i64 k ∧ Hid (start xs k = start xs a) ∧ Hid (Below w.heap.size w wr)) (fun i _ => n - (intOf i).toNat)
 case atStart => exact ⟨a, ha, rfl, rfl, Below.refl _ _⟩
 case round =>
  obtain ⟨k, hk, rfl, hs, hb⟩ := hrel
  by_cases hlt : k < n
  ·obtain ⟨c0, c1, c2, c3, c4, c5, c6⟩ := (HC.out.below hb.out).2.2 k hlt
   have hp := HX.out.at (j := k) (by rw [← HN.out]; exact hlt)
   have hpk := pit_kind hp
   have ST := Lib.hid (fun h => start_stop xs k (fun hh => absurd hh.2 h))
   have SK := Lib.hid (fun h => start_skip xs k (by rw [← HN.out]; exact hlt) h)
   obtain ⟨x, hxx⟩ : ∃ x, x = it xs k := ⟨_, rfl⟩
   rw [← hxx] at c0 c1 c2 c3 c4 c5 c6 hp hpk ST SK
   have FV := Lib.hid (fun w => forced_any x hp w)
   unfold itV at FV
   clear hxx hp
   have SI : Hid (skipI x = (!decide (x.kind = 1) && !isForced x)) := rfl
   have FI : Hid (isForced x = (decide (x.kind = 3) && decide (x.cost = -10000))) := rfl
   rcases hpk with ⟨h1, -⟩ | ⟨h1, -⟩ | ⟨h1, h2, h3⟩ | ⟨h1, h2⟩
   ·have SS := Lib.hid (ST.out (by rw [SI.out, h1]; simp))
    rw [h1] at c0
    clear h1 ST SK
    go_wp2
    go_ret
    exact ⟨by rw [← hs.out, SS.out]; rfl, hb.out⟩
   ·have FF : Hid (isForced x = false) := by show _ = _; rw [FI.out, h1]; rfl
    have SS := Lib.hid (SK.out (by rw [SI.out, FF.out, h1]; decide))
    rw [h1] at c0 FV
    clear h1 ST SK
    go_wp2_with (go_at_call 168; refine (FV.out _).mono ?_; rintro e w2 ⟨rfl, hb2⟩; rw [FF.out])
    have B2 := Lib.hid (below_next hb.out hb2 (Nat.le_refl _))
    clear hb2
    first
     | exact ⟨⟨k + 1, by omega, by go_num, by rw [← SS.out]; exact hs.out, B2.out⟩, by simp [intOf]; omega⟩
     | (go_roundw
        case rel => exact ⟨k + 1, by omega, by go_num, by rw [← SS.out]; exact hs.out, B2.out⟩
        case measure => simp [intOf]; omega)
   ·have nf : ¬ x.cost = -10000 := by omega
    have FF : Hid (isForced x = false) := by show _ = _; rw [FI.out, decide_eq_false nf, Bool.and_false]
    have SS := Lib.hid (SK.out (by rw [SI.out, FF.out, h1]; decide))
    rw [h1] at c0 FV
    clear h1 ST SK nf
    go_wp2_with (go_at_call 168; refine (FV.out _).mono ?_; rintro e w2 ⟨rfl, hb2⟩; rw [FF.out])
    have B2 := Lib.hid (below_next hb.out hb2 (Nat.le_refl _))
    clear hb2
    first
     | exact ⟨⟨k + 1, by omega, by go_num, by rw [← SS.out]; exact hs.out, B2.out⟩, by simp [intOf]; omega⟩
     | (go_roundw
        case rel => exact ⟨k + 1, by omega, by go_num, by rw [← SS.out]; exact hs.out, B2.out⟩
        case measure => simp [intOf]; omega)
   ·have FF : Hid (isForced x = true) := by show _ = _; rw [FI.out, h1, h2]; rfl
    have SS := Lib.hid (ST.out (by rw [SI.out, FF.out, h1]; decide))
    rw [h1] at c0 FV
    rw [h2] at c5 FV
    clear h1 h2 ST SK
    go_wp2_with (go_at_call 168; refine (FV.out _).mono ?_; rintro e w2 ⟨rfl, hb2⟩; rw [FF.out])
    have B2 := Lib.hid (below_next hb.out hb2 (Nat.le_refl _))
    clear hb2
    go_ret
    exact ⟨by rw [← hs.out, SS.out]; rfl, B2.out⟩
  ·obtain rfl : k = n := by omega
   have SS := Lib.hid (start_stop xs k (fun hh => by have := HN.out; omega))
   go_wp2
   go_ret
   exact ⟨by rw [← hs.out, SS.out]; rfl, hb.out⟩
set_option maxHeartbeats 4000000 in
theorem specStart_any (b off cap n a : Nat) (xs : List DItem) (hx : PIs xs) (w : World) (hc : ItC w b off n xs) (ha : a ≤ n) : Calls Tryz.prog 153 #[.slice (some ⟨b, off, none⟩) n cap, .int .i64 ((a : Int) - 1)] w (NumPost (start xs a : Nat) w) := by
 have hn := hc.1
 have n60 : n ≤ 60 := by rw [hn]; exact hx.len
 have HX := Lib.hid hx
 have HC := Lib.hid hc
 have HN := Lib.hid hn
 clear hc hx hn
 have sub : (a : Int) - 1 + 1 = (a : Int) := by omega
 go_enter Tryz.func153, Tryz.ntmps153
 go_wp2
 clear sub
 go_loopw [5] (fun i wr => ∃ k : Nat, k ≤ n ∧ i = .int .i64 k ∧ Hid (start xs k = start xs a) ∧ Hid (Below w.heap.size w wr)) (fun i _ => n - (intOf i).toNat)
 case atStart => exact ⟨a, ha, rfl, rfl, Below.refl _ _⟩
 case round =>
  obtain ⟨k, hk, rfl, hs, hb⟩ := hrel
  by_cases hlt : k < n
  ·obtain ⟨c0, c1, c2, c3, c4, c5, c6⟩ := (HC.out.below hb.out).2.2 k hlt
   have hp := HX.out.at (j := k) (by rw [← HN.out]; exact hlt)
   have hpk := pit_kind hp
   have ST := Lib.hid (fun h => start_stop xs k (fun hh => absurd hh.2 h))
   have SK := Lib.hid (fun h => start_skip xs k (by rw [← HN.out]; exact hlt) h)
   obtain ⟨x, hxx⟩ : ∃ x, x = it xs k := ⟨_, rfl⟩
   rw [← hxx] at c0 c1 c2 c3 c4 c5 c6 hp hpk ST SK
   clear hxx hp
   have SI : Hid (skipI x = (!decide (x.kind = 1) && !isForced x)) := rfl
   have FI : Hid (isForced x = (decide (x.kind = 3) && decide (x.cost = -10000))) := rfl
   rcases hpk with ⟨h1, -⟩ | ⟨h1, -⟩ | ⟨h1, h2, h3⟩ | ⟨h1, h2⟩
   ·have SS := Lib.hid (ST.out (by rw [SI.out, h1]; simp))
    rw [h1] at c0
    clear h1 ST SK
    go_wp2
    go_ret
    exact ⟨by rw [← hs.out, SS.out]; rfl, hb.out⟩
   ·have FF : Hid (isForced x = false) := by show _ = _; rw [FI.out, h1]; rfl
    have SS := Lib.hid (SK.out (by rw [SI.out, FF.out, h1]; decide))
    rw [h1] at c0
    clear h1 ST SK
    go_wp2_with fail
    first
     | exact ⟨⟨k + 1, by omega, by go_num, by rw [← SS.out]; exact hs.out, hb.out⟩, by simp [intOf]; omega⟩
     | (go_roundw
        case rel => exact ⟨k + 1, by omega, by go_num, by rw [← SS.out]; exact hs.out, hb.out⟩
        case measure => simp [intOf]; omega)
   ·have nf : ¬ x.cost = -10000 := by omega
    have FF : Hid (isForced x = false) := by show _ = _; rw [FI.out, decide_eq_false nf, Bool.and_false]
    have SS := Lib.hid (SK.out (by rw [SI.out, FF.out, h1]; decide))
    rw [h1] at c0
    clear h1 ST SK nf
    go_wp2_with fail
    first
     | exact ⟨⟨k + 1, by omega, by go_num, by rw [← SS.out]; exact hs.out, hb.out⟩, by simp [intOf]; omega⟩
     | (go_roundw
        case rel => exact ⟨k + 1, by omega, by go_num, by rw [← SS.out]; exact hs.out, hb.out⟩
        case measure => simp [intOf]; omega)
   ·have FF : Hid (isForced x = true) := by show _ = _; rw [FI.out, h1, h2]; rfl
    have SS := Lib.hid (ST.out (by rw [SI.out, FF.out, h1]; decide))
    rw [h1] at c0
    rw [h2] at c5
    clear h1 h2 ST SK
    go_wp2_with fail
    go_ret
    exact ⟨by rw [← hs.out, SS.out]; rfl, hb.out⟩
  ·obtain rfl : k = n := by omega
   have SS := Lib.hid (start_stop xs k (fun hh => by have := HN.out; omega))
   go_wp2
   go_ret
   exact ⟨by rw [← hs.out, SS.out]; rfl, hb.out⟩
end Go.Proofs.YtofnchdijanikaaGreatDoor
namespace Go.Proofs.YtofnchdijanikaaGreatDoor
open Go.RowKit
set_option maxHeartbeats 4000000 in
theorem specForced_any (b off cap n a tz : Nat) (xs : List DItem) (hx : PIs xs) (w : World) (hc : ItC w b off n xs) (ht : tz ≤ n) (hat : a ≤ tz) : Calls Tryz.prog 154 #[.slice (some ⟨b, off, none⟩) n cap, .int .i64 ((a : Int) - 1), .int .i64 tz] w fun e w' => e = .returned (.bool (noForced xs a tz)) ∧ w = w' := by
 have hn := hc.1
 have n60 : n ≤ 60 := by rw [hn]; exact hx.len
 have HX := Lib.hid hx
 have HC := Lib.hid hc
 have HN := Lib.hid hn
 clear hc hx hn
 have sub : (a : Int) - 1 + 1 = (a : Int) := by omega
 go_enter Tryz.func154, Tryz.ntmps154
 go_wp2
 clear sub
 go_loop [7] (fun i => ∃ k : Nat, k ≤ tz ∧ a ≤ k ∧ i = .int .i64 k ∧ Hid (∀ j, a ≤ j → j < k → isForced (it xs j) = false)) (fun i => tz - (intOf i).toNat)
 case atStart => exact ⟨a, hat, Nat.le_refl _, rfl, fun j h1 h2 => absurd h2 (by omega)⟩
 case round =>
  obtain ⟨k, hk, hka, rfl, hs⟩ := hrel
  by_cases hlt : k < tz
  ·have hkn : k < n := by omega
   have q := HC.out.2.2 k hkn
   have c0 := q.c0
   have c5 := q.c5
   have hp := HX.out.at (j := k) (by rw [← HN.out]; exact hkn)
   have hpk := pit_kind hp
   have BAD := Lib.hid (fun h => noForced_bad (xs := xs) hka hlt h)
   have NX := Lib.hid (fun (h : isForced (it xs k) = false) j (h1 : a ≤ j) (h2 : j < k + 1) => (if e : j = k then e ▸ h else hs.out j h1 (by omega) : isForced (it xs j) = false))
   obtain ⟨x, hxx⟩ : ∃ x, x = it xs k := ⟨_, rfl⟩
   rw [← hxx] at c0 c5 hp hpk BAD NX
   clear hxx hp q
   have FI : Hid (isForced x = (decide (x.kind = 3) && decide (x.cost = -10000))) := rfl
   rcases hpk with ⟨h1, -⟩ | ⟨h1, -⟩ | ⟨h1, h2, h3⟩ | ⟨h1, h2⟩
   ·have NN := Lib.hid (NX.out (by rw [FI.out, h1]; rfl))
    rw [h1] at c0
    clear h1 NX BAD FI
    go_wp2
    exact ⟨⟨k + 1, by omega, by omega, by go_num, NN.out⟩, by simp [intOf]; omega⟩
   ·have NN := Lib.hid (NX.out (by rw [FI.out, h1]; rfl))
    rw [h1] at c0
    clear h1 NX BAD FI
    go_wp2
    exact ⟨⟨k + 1, by omega, by omega, by go_num, NN.out⟩, by simp [intOf]; omega⟩
   ·have cb : (x.cost == -10000) = false := by rw [beq_eq_false_iff_ne]; omega
    have NN := Lib.hid (NX.out (by rw [FI.out, decide_eq_false (show ¬ x.cost = -10000 by omega), Bool.and_false]))
    rw [h1] at c0
    clear h1 NX BAD FI
    go_wp2
    exact ⟨⟨k + 1, by omega, by omega, by go_num, NN.out⟩, by simp [intOf]; omega⟩
   ·have NN := Lib.hid (BAD.out (by rw [FI.out, h1, h2]; rfl))
    rw [h1] at c0
    rw [h2] at c5
    clear h1 h2 NX BAD FI
    go_wp2
    go_ret
    exact ⟨by rw [NN.out]; rfl, rfl⟩
  ·obtain rfl : k = tz := by omega
   have NN := Lib.hid (noForced_good hs.out)
   go_wp2
   go_ret
   exact ⟨by rw [NN.out]; rfl, rfl⟩
end Go.Proofs.YtofnchdijanikaaGreatDoor
namespace Go.Proofs.YtofnchdijanikaaGreatDoor
open Go.RowKit
theorem lineB_is (xs : List DItem) (a t : Nat) (h : a ≤ t) : lineB xs a t = ((decide (a = 0) || brk xs (a - 1)) && brk xs t && decide (start xs a ≤ t) && noForced xs a t) := by
 unfold lineB
 rw [decide_eq_true h, Bool.true_and]
set_option maxHeartbeats 4000000 in
theorem specLine_any (b off cap n a t : Nat) (xs : List DItem) (hx : PIs xs) (w : World) (hc : ItC w b off n xs) (hat : a ≤ t) (htn : t < n) : Calls Tryz.prog 124 #[.slice (some ⟨b, off, none⟩) n cap, .int .i64 ((a : Int) - 1), .int .i64 t] w (Ret (.bool (lineB xs a t)) w) := by
 have n60 : n ≤ 60 := by rw [hc.1]; exact hx.len
 have LB := Lib.hid (lineB_is xs a t hat)
 have BT := Lib.hid (fun w hc => specBreak_any b off cap n t xs hx w hc htn)
 have BA := Lib.hid (fun w hc k (hk : k < n) => specBreak_any b off cap n k xs hx w hc hk)
 have SA := Lib.hid (fun w hc => specStart_any b off cap n a xs hx w hc (by omega))
 have FA := Lib.hid (fun w hc => specForced_any b off cap n a t xs hx w hc (by omega) hat)
 have I1 : Hid (inB ((a : Int) - 1) (-1) ((t : Int) - 1) = true) := inB_yes (by omega) (by omega)
 have I2 : Hid (inB (t : Int) 0 ((n : Int) - 1) = true) := inB_yes (by omega) (by omega)
 have HC := Lib.hid hc
 have sl := start_le xs a
 obtain ⟨s, hs⟩ : ∃ s, s = start xs a := ⟨_, rfl⟩
 rw [← hs] at LB SA sl
 clear hx hc hs
 have s60 : Hid (s ≤ n → s ≤ 60) := fun h => by omega
 generalize hL : lineB xs a t = L at LB ⊢
 obtain ⟨F, hF⟩ : ∃ F, F = noForced xs a t := ⟨_, rfl⟩
 rw [← hF] at LB FA
 clear hL hF
 cases f_bt : brk xs t
 ·have E : Hid (L = false) := by show _ = _; rw [LB.out]; simp [f_bt]
  have h_bt := Lib.hid f_bt
  clear f_bt
  go_enter Tryz.func124, Tryz.ntmps124
  go_wp2_with (first | (go_at_call 34; refine (l1In_any _ _ _ _).mono ?_; rintro e w' ⟨rfl, rfl⟩; first | rw [I1.out] | rw [I2.out]) | (go_at_call 123; refine (BA.out _ HC.out _ (by assumption)).mono ?_; rintro e w' ⟨rfl, rfl⟩; first | rw [h_bt.out]))
  go_ret
  exact ⟨by rw [E.out]; rfl, Below.refl _ _⟩
 ·by_cases ha : a = 0
  ·subst ha
   have e0 : ((0 : Nat) : Int) - 1 = -1 := rfl
   rw [e0] at SA FA I1 ⊢
   clear e0
   by_cases f_st : s ≤ t
   ·have st' : (s : Int) ≤ (t : Int) := by omega
    cases f_fo : F
    ·have E : Hid (L = false) := by show _ = _; rw [LB.out]; simp [f_bt, f_st, f_fo]
     have h_bt := Lib.hid f_bt
     have h_fo := Lib.hid f_fo
     clear f_bt f_fo
     clear f_st
     go_enter Tryz.func124, Tryz.ntmps124
     go_wp2_with (first | (go_at_call 34; refine (l1In_any _ _ _ _).mono ?_; rintro e w' ⟨rfl, rfl⟩; first | rw [I1.out] | rw [I2.out]) | (go_at_call 123; refine (BA.out _ HC.out _ (by assumption)).mono ?_; rintro e w' ⟨rfl, rfl⟩; first | rw [h_bt.out]) | (go_at_call 153; refine (SA.out _ HC.out).mono ?_; rintro e w2 ⟨rfl, hb2⟩) | (go_at_call 154; refine (FA.out _ (HC.out.below hb2)).mono ?_; rintro e w' ⟨rfl, rfl⟩; rw [h_fo.out]))
     go_ret
     exact ⟨by rw [E.out]; rfl, hb2⟩
    ·have E : Hid (L = true) := by show _ = _; rw [LB.out]; simp [f_bt, f_st, f_fo]
     have h_bt := Lib.hid f_bt
     have h_fo := Lib.hid f_fo
     clear f_bt f_fo
     clear f_st
     go_enter Tryz.func124, Tryz.ntmps124
     go_wp2_with (first | (go_at_call 34; refine (l1In_any _ _ _ _).mono ?_; rintro e w' ⟨rfl, rfl⟩; first | rw [I1.out] | rw [I2.out]) | (go_at_call 123; refine (BA.out _ HC.out _ (by assumption)).mono ?_; rintro e w' ⟨rfl, rfl⟩; first | rw [h_bt.out]) | (go_at_call 153; refine (SA.out _ HC.out).mono ?_; rintro e w2 ⟨rfl, hb2⟩) | (go_at_call 154; refine (FA.out _ (HC.out.below hb2)).mono ?_; rintro e w' ⟨rfl, rfl⟩; rw [h_fo.out]))
     go_ret
     exact ⟨by rw [E.out]; rfl, hb2⟩
   ·have st' : ¬ (s : Int) ≤ (t : Int) := by omega
    have E : Hid (L = false) := by show _ = _; rw [LB.out]; simp [f_bt, f_st]
    have h_bt := Lib.hid f_bt
    clear f_bt
    clear f_st
    go_enter Tryz.func124, Tryz.ntmps124
    go_wp2_with (first | (go_at_call 34; refine (l1In_any _ _ _ _).mono ?_; rintro e w' ⟨rfl, rfl⟩; first | rw [I1.out] | rw [I2.out]) | (go_at_call 123; refine (BA.out _ HC.out _ (by assumption)).mono ?_; rintro e w' ⟨rfl, rfl⟩; first | rw [h_bt.out]) | (go_at_call 153; refine (SA.out _ HC.out).mono ?_; rintro e w2 ⟨rfl, hb2⟩))
    go_ret
    exact ⟨by rw [E.out]; rfl, hb2⟩
  ·obtain ⟨k, hk⟩ : ∃ k, a = k + 1 := ⟨a - 1, by omega⟩
   have e0 : ((a : Nat) : Int) - 1 = (k : Int) := by omega
   have nz : ¬ (k : Int) < 0 := by omega
   have kn : k < n := by omega
   have ak : a - 1 = k := by omega
   have BAK := Lib.hid (fun w hc => BA.out w hc k kn)
   rw [e0] at SA FA I1 ⊢
   rw [ak, decide_eq_false ha, Bool.false_or] at LB
   clear e0 ak hk ha
   cases f_ba : brk xs k
   ·have E : Hid (L = false) := by show _ = _; rw [LB.out]; simp [f_bt, f_ba]
    have h_bt := Lib.hid f_bt
    have h_ba := Lib.hid f_ba
    clear f_bt f_ba
    go_enter Tryz.func124, Tryz.ntmps124
    go_wp2_with (first | (go_at_call 34; refine (l1In_any _ _ _ _).mono ?_; rintro e w' ⟨rfl, rfl⟩; first | rw [I1.out] | rw [I2.out]) | (go_at_call 123; refine (BA.out _ HC.out _ (by assumption)).mono ?_; rintro e w' ⟨rfl, rfl⟩; first | rw [h_bt.out] | rw [h_ba.out]))
    go_ret
    exact ⟨by rw [E.out]; rfl, Below.refl _ _⟩
   ·skip
    by_cases f_st : s ≤ t
    ·have st' : (s : Int) ≤ (t : Int) := by omega
     cases f_fo : F
     ·have E : Hid (L = false) := by show _ = _; rw [LB.out]; simp [f_bt, f_ba, f_st, f_fo]
      have h_bt := Lib.hid f_bt
      have h_ba := Lib.hid f_ba
      have h_fo := Lib.hid f_fo
      clear f_bt f_ba f_fo
      clear f_st
      go_enter Tryz.func124, Tryz.ntmps124
      go_wp2_with (first | (go_at_call 34; refine (l1In_any _ _ _ _).mono ?_; rintro e w' ⟨rfl, rfl⟩; first | rw [I1.out] | rw [I2.out]) | (go_at_call 123; refine (BA.out _ HC.out _ (by assumption)).mono ?_; rintro e w' ⟨rfl, rfl⟩; first | rw [h_bt.out] | rw [h_ba.out]) | (go_at_call 153; refine (SA.out _ HC.out).mono ?_; rintro e w2 ⟨rfl, hb2⟩) | (go_at_call 154; refine (FA.out _ (HC.out.below hb2)).mono ?_; rintro e w' ⟨rfl, rfl⟩; rw [h_fo.out]))
      go_ret
      exact ⟨by rw [E.out]; rfl, hb2⟩
     ·have E : Hid (L = true) := by show _ = _; rw [LB.out]; simp [f_bt, f_ba, f_st, f_fo]
      have h_bt := Lib.hid f_bt
      have h_ba := Lib.hid f_ba
      have h_fo := Lib.hid f_fo
      clear f_bt f_ba f_fo
      clear f_st
      go_enter Tryz.func124, Tryz.ntmps124
      go_wp2_with (first | (go_at_call 34; refine (l1In_any _ _ _ _).mono ?_; rintro e w' ⟨rfl, rfl⟩; first | rw [I1.out] | rw [I2.out]) | (go_at_call 123; refine (BA.out _ HC.out _ (by assumption)).mono ?_; rintro e w' ⟨rfl, rfl⟩; first | rw [h_bt.out] | rw [h_ba.out]) | (go_at_call 153; refine (SA.out _ HC.out).mono ?_; rintro e w2 ⟨rfl, hb2⟩) | (go_at_call 154; refine (FA.out _ (HC.out.below hb2)).mono ?_; rintro e w' ⟨rfl, rfl⟩; rw [h_fo.out]))
      go_ret
      exact ⟨by rw [E.out]; rfl, hb2⟩
    ·have st' : ¬ (s : Int) ≤ (t : Int) := by omega
     have E : Hid (L = false) := by show _ = _; rw [LB.out]; simp [f_bt, f_ba, f_st]
     have h_bt := Lib.hid f_bt
     have h_ba := Lib.hid f_ba
     clear f_bt f_ba
     clear f_st
     go_enter Tryz.func124, Tryz.ntmps124
     go_wp2_with (first | (go_at_call 34; refine (l1In_any _ _ _ _).mono ?_; rintro e w' ⟨rfl, rfl⟩; first | rw [I1.out] | rw [I2.out]) | (go_at_call 123; refine (BA.out _ HC.out _ (by assumption)).mono ?_; rintro e w' ⟨rfl, rfl⟩; first | rw [h_bt.out] | rw [h_ba.out]) | (go_at_call 153; refine (SA.out _ HC.out).mono ?_; rintro e w2 ⟨rfl, hb2⟩))
     go_ret
     exact ⟨by rw [E.out]; rfl, hb2⟩
end Go.Proofs.YtofnchdijanikaaGreatDoor
namespace Go.Proofs.YtofnchdijanikaaGreatDoor
open Go.RowKit
theorem sumG_snoc (l : List DGlue) (g : DGlue) : sumG (l ++ [g]) = addG (sumG l) g := by
 unfold sumG
 rw [List.foldl_append]
 rfl
theorem sumG_sm {l : List DGlue} (h : ∀ g ∈ l, GlueOk g) (hl : l.length ≤ 61) : GlueSm (sumG l) := by
 rw [sumG_tot _ l rfl h]
 obtain ⟨a, b, c, d, e⟩ := tot_bd l h
 have := e (if anyOd l = true then 1 else 0)
 unfold GlueSm
 simp only
 refine ⟨by omega, by omega, by omega, by omega, by omega, by omega, ?_⟩
 split <;> simp
abbrev GlG (w : World) (B t : Nat) (g : DGlue) : Prop := GlOwn w B t g.w g.st g.sh g.od
theorem gl_set {w : World} {B t : Nat} {a b c d : Int} (h : GlOwn w B t a b c d) (x y z u : Int) :
  GlOwn ((((w.setCell ⟨t, 0, none⟩ (.int .i64 x)).setCell ⟨t, 1, none⟩ (.int .i64 y)).setCell ⟨t, 2, none⟩ (.int .i64 z)).setCell ⟨t, 3, none⟩ (.int .i64 u)) B t x y z u :=
 ((((h.put0 x).1.put1 y).1.put2 z).1.put3 u).1
theorem gl_grown {w : World} {B t : Nat} {a b c d : Int} (h : GlOwn w B t a b c d) (x y z u : Int) :
  w.grownBy ((((w.setCell ⟨t, 0, none⟩ (.int .i64 x)).setCell ⟨t, 1, none⟩ (.int .i64 y)).setCell ⟨t, 2, none⟩ (.int .i64 z)).setCell ⟨t, 3, none⟩ (.int .i64 u)) (some t) := by
 have s0 := h.put0 x
 have s1 := s0.1.put1 y
 have s2 := s1.1.put2 z
 have s3 := s2.1.put3 u
 exact grownBy_trans (grownBy_trans (grownBy_trans s0.2 s1.2) s2.2) s3.2
theorem gluesTo_next (xs : List DItem) (s k : Nat) (h : s ≤ k) : gluesTo xs s (k + 1) = if (it xs k).kind ≠ 3 then gluesTo xs s k ++ [(it xs k).space] else gluesTo xs s k := by
 rw [gluesTo]
 by_cases h3 : (it xs k).kind ≠ 3
 ·rw [if_pos ⟨h, h3⟩, if_pos h3]
 ·rw [if_neg (fun hh => h3 hh.2), if_neg h3]
theorem gluesTo_none (xs : List DItem) (s : Nat) : ∀ k, k ≤ s → gluesTo xs s k = []
 | 0, _ => rfl
 | k + 1, h => by
  rw [gluesTo, if_neg (fun hh => by omega)]
  exact gluesTo_none xs s k (by omega)
set_option maxHeartbeats 8000000 in
theorem specSum_any (b off cap n s t : Nat) (xs : List DItem) (hx : PIs xs) (w : World) (hc : ItC w b off n xs) (hst : s ≤ t) (htn : t < n) : Calls Tryz.prog 155 #[.slice (some ⟨b, off, none⟩) n cap, .int .i64 s, .int .i64 t] w (GluePost (sumG (glues xs s t)) w) := by
 have hn := hc.1
 have n60 : n ≤ 60 := by rw [hn]; exact hx.len
 have HX := Lib.hid hx
 have HC := Lib.hid hc
 have HN := Lib.hid hn
 have GO := Lib.hid (fun k (hk : k ≤ n) => gluesTo_ok hx.ok s k (by rw [← hn]; exact hk))
 have GF := Lib.hid (glues_ok hx.ok s t (by rw [← hn]; exact htn))
 have GD : Hid (glues xs s t = gluesTo xs s t ++ (if (it xs t).kind = 3 then [(it xs t).space] else [])) := rfl
 clear hc hx hn
 obtain ⟨v, hv⟩ : ∃ v, v = w.heap.size + 1 := ⟨_, rfl⟩
 obtain ⟨r, hr⟩ : ∃ r, r = w.heap.size := ⟨_, rfl⟩
 have O0 : Hid (GlG ((w.alloc (.cells #[.int .i64 0, .int .i64 0, .int .i64 0, .int .i64 0] 71)).alloc (.cells #[.int .i64 0, .int .i64 0, .int .i64 0, .int .i64 0] 71)) w.heap.size v (sumG (gluesTo xs s s))) := by
  have := GlOwn.made (w.alloc (.cells #[.int .i64 0, .int .i64 0, .int .i64 0, .int .i64 0] 71)) (B := w.heap.size) (by simp) 0 0 0 0
  rw [show (w.alloc (.cells #[.int .i64 0, .int .i64 0, .int .i64 0, .int .i64 0] 71)).heap.size = w.heap.size + 1 by simp, ← hv] at this
  show GlG _ _ _ _
  rw [gluesTo_none xs s s (Nat.le_refl _)]
  exact this
 have R0 : Hid (GlOwn ((w.alloc (.cells #[.int .i64 0, .int .i64 0, .int .i64 0, .int .i64 0] 71)).alloc (.cells #[.int .i64 0, .int .i64 0, .int .i64 0, .int .i64 0] 71)) w.heap.size r 0 0 0 0) := by
  have := (GlOwn.made w (B := w.heap.size) (Nat.le_refl _) 0 0 0 0).keep ((Below.refl _ _).alloc (Nat.le_refl _) (.cells #[.int .i64 0, .int .i64 0, .int .i64 0, .int .i64 0] 71))
  rw [hr]
  exact this
 have B0 := Lib.hid (((Below.refl w.heap.size w).alloc (Nat.le_refl _) (.cells #[.int .i64 0, .int .i64 0, .int .i64 0, .int .i64 0] 71)).alloc (by simp) (.cells #[.int .i64 0, .int .i64 0, .int .i64 0, .int .i64 0] 71))
 go_enter Tryz.func155, Tryz.ntmps155
 go_wp2
 rw [← hv]
 have trn : v ≠ r := by omega
 have wt : w.heap.size ≤ v := by omega
 rw [show (Value.pointer (some ⟨w.heap.size, 0, none⟩)) = .pointer (some ⟨r, 0, none⟩) by rw [hr]]
 have wr0 : w.heap.size ≤ r := by omega
 clear hv hr
 have rt : Hid (some r ≠ some v) := fun e => trn (Option.some.inj e).symm
 go_loopw [8] (fun i wr => ∃ k : Nat, s ≤ k ∧ k ≤ t ∧ i = .int .i64 k ∧ Hid (GlG wr w.heap.size v (sumG (gluesTo xs s k))) ∧ Hid (GlOwn wr w.heap.size r 0 0 0 0) ∧ Hid (Below w.heap.size w wr)) (fun i _ => t - (intOf i).toNat)
 case atStart => exact ⟨s, Nat.le_refl _, hst, rfl, O0.out, R0.out, B0.out⟩
 case round =>
  obtain ⟨k, hsk, hk, rfl, ho, hq, hb⟩ := hrel
  clear O0 R0 B0
  by_cases hlt : k < t
  ·have hkn : k < n := by omega
   obtain ⟨c0, c1, c2, c3, c4, c5, c6⟩ := (HC.out.below hb.out).2.2 k hkn
   have hbr : b < wr.heap.size := Nat.lt_of_lt_of_le HC.out.2.1 hb.out.size
   have hp := HX.out.at (j := k) (by rw [← HN.out]; exact hkn)
   have NX := Lib.hid (gluesTo_next xs s k hsk)
   have SM := sumG_sm (GO.out k (by omega)).1 (by have := (GO.out k (by omega)).2; omega)
   have SN := Lib.hid (fun g => sumG_snoc (gluesTo xs s k) g)
   obtain ⟨A, hA⟩ : ∃ A, A = sumG (gluesTo xs s k) := ⟨_, rfl⟩
   rw [← hA] at SM SN ho
   have gk := hp.ok.1
   obtain ⟨x, hxx⟩ : ∃ x, x = it xs k := ⟨_, rfl⟩
   rw [← hxx] at c0 c1 c2 c3 c4 c5 c6 NX gk
   have AD := Lib.hid (fun w => specAdd_any A x.space SM gk.sm w)
   have HA := Lib.hid hA
   clear hA hxx hp gk SM
   by_cases h3 : x.kind = 3
   ·have S2 : Hid (sumG (gluesTo xs s (k + 1)) = A) := by show _ = _; rw [NX.out, if_neg (by simp [h3]), HA.out]
    have q3 : (x.kind != 3) = false := by rw [h3]; rfl
    clear h3 NX SN AD
    go_wp2
    first
     | exact ⟨⟨k + 1, by omega, by omega, by go_num, by rw [S2.out]; exact ho.out, hq.out, hb.out⟩, by simp [intOf]; omega⟩
     | (go_roundw
        case rel => exact ⟨k + 1, by omega, by omega, by go_num, by rw [S2.out]; exact ho.out, hq.out, hb.out⟩
        case measure => simp [intOf]; omega)
   ·have q3 : (x.kind != 3) = true := by rw [bne_iff_ne]; exact h3
    have S2 : Hid (sumG (gluesTo xs s (k + 1)) = addG A x.space) := by show _ = _; rw [NX.out, if_pos h3, SN.out]
    obtain ⟨C, hC⟩ : ∃ C, C = addG A x.space := ⟨_, rfl⟩
    rw [← hC] at S2 AD
    unfold GluePost glV DItem.space at AD
    simp only at AD
    obtain ⟨e0, e1, e2, e3⟩ := ho.out.cells
    clear h3 NX SN hC
    go_wp2_with fail
    go_still_tail 6, (by kernel_rfl)
    change wpList _ _ _ _ _ wr.drew
    go_wp2_with (go_at_call 177; refine (AD.out _).mono ?_; rintro e w2 ⟨rfl, hb2⟩; have O2 := (show GlG wr.drew w.heap.size v A from ho.out).keep hb2; have z0 := O2.free 0; have z1 := O2.free 1; have z2 := O2.free 2; have z3 := O2.free 3; obtain ⟨d0, d1, d2, d3⟩ := O2.cells; have HO2 := Lib.hid O2; clear O2)
    have B2 := below_next hb.out.drew hb2 (by have := hb.out.size; exact Nat.le_refl _)
    have R2 := (show GlOwn wr.drew w.heap.size r 0 0 0 0 from hq.out).keep hb2
    have R3 := Lib.hid (World.ownsRow.kept R2 (gl_grown HO2.out C.w C.st C.sh C.od) (.inr rt.out))
    have B3 := Lib.hid (gl_put HO2.out B2 wt C.w C.st C.sh C.od)
    have O3 := Lib.hid (gl_set HO2.out C.w C.st C.sh C.od)
    clear R2 B2 HO2 hb2
    first
     | exact ⟨⟨k + 1, by omega, by omega, by go_num, by rw [S2.out]; exact O3.out, R3.out, B3.out⟩, by simp [intOf]; omega⟩
     | (go_roundw
        case rel => exact ⟨k + 1, by omega, by omega, by go_num, by rw [S2.out]; exact O3.out, R3.out, B3.out⟩
        case measure => simp [intOf]; omega)
  ·obtain rfl : k = t := by omega
   obtain ⟨c0, c1, c2, c3, c4, c5, c6⟩ := (HC.out.below hb.out).2.2 k htn
   have hbr : b < wr.heap.size := Nat.lt_of_lt_of_le HC.out.2.1 hb.out.size
   have hp := HX.out.at (j := k) (by rw [← HN.out]; exact htn)
   have SM := sumG_sm (GO.out k (by omega)).1 (by have := (GO.out k (by omega)).2; omega)
   have SN := Lib.hid (fun g => sumG_snoc (gluesTo xs s k) g)
   obtain ⟨A, hA⟩ : ∃ A, A = sumG (gluesTo xs s k) := ⟨_, rfl⟩
   rw [← hA] at SM SN ho
   have gk := hp.ok.1
   obtain ⟨x, hxx⟩ : ∃ x, x = it xs k := ⟨_, rfl⟩
   rw [← hxx] at c0 c1 c2 c3 c4 c5 c6 gk GD
   have AD := Lib.hid (fun w => specAdd_any A x.space SM gk.sm w)
   have HA := Lib.hid hA
   have htn' : (k : Int) < (n : Int) := by omega
   clear hA hxx hp gk SM
   obtain ⟨e0, e1, e2, e3⟩ := ho.out.cells
   by_cases h3 : x.kind = 3
   ·have q3 : (x.kind == 3) = true := by rw [h3]; rfl
    have S2 : Hid (sumG (glues xs s k) = addG A x.space) := by show _ = _; rw [GD.out, if_pos h3, SN.out]
    obtain ⟨C, hC⟩ : ∃ C, C = addG A x.space := ⟨_, rfl⟩
    rw [← hC] at S2 AD
    unfold GluePost glV DItem.space at AD
    simp only at AD
    clear h3 SN hC
    go_wp2_with fail
    go_still_tail 6, (by kernel_rfl)
    change wpList _ _ _ _ _ wr.drew
    go_wp2_with (go_at_call 177; refine (AD.out _).mono ?_; rintro e w2 ⟨rfl, hb2⟩; have O2 := (show GlG wr.drew w.heap.size v A from ho.out).keep hb2; have z0 := O2.free 0; have z1 := O2.free 1; have z2 := O2.free 2; have z3 := O2.free 3; obtain ⟨d0, d1, d2, d3⟩ := O2.cells; obtain ⟨f0, f1, f2, f3⟩ := (gl_set O2 C.w C.st C.sh C.od).cells; have R2 := (show GlOwn wr.drew w.heap.size r 0 0 0 0 from hq.out).keep hb2; have R3 : GlOwn _ w.heap.size r 0 0 0 0 := World.ownsRow.kept R2 (gl_grown O2 C.w C.st C.sh C.od) (.inr rt.out); have y0 := R3.free 0; have y1 := R3.free 1; have y2 := R3.free 2; have y3 := R3.free 3; obtain ⟨r0, r1, r2, r3⟩ := R3.cells; have HO2 := Lib.hid O2; have HR3 := Lib.hid R3; clear O2 R2 R3 e0 e1 e2 e3)
    obtain ⟨rf0, rf1, rf2, rf3⟩ := gl_read HR3.out C.w C.st C.sh C.od
    have B2 := below_next hb.out.drew hb2 (by have := hb.out.size; exact Nat.le_refl _)
    have BF := Lib.hid (gl_put HR3.out (gl_put HO2.out B2 wt C.w C.st C.sh C.od) wr0 C.w C.st C.sh C.od)
    exact bodyPost_ret (v := .agg #[.int .i64 C.w, .int .i64 C.st, .int .i64 C.sh, .int .i64 C.od]) (by simp [results, Tryz.results155, go_sem, rf0, rf1, rf2, rf3]) rfl ⟨by rw [S2.out]; rfl, BF.out⟩
   ·have q3 : (x.kind == 3) = false := by rw [beq_eq_false_iff_ne]; exact h3
    have S2 : Hid (sumG (glues xs s k) = A) := by show _ = _; rw [GD.out, if_neg h3, List.append_nil, HA.out]
    obtain ⟨r0, r1, r2, r3⟩ := hq.out.cells
    have y0 := hq.out.free 0
    have y1 := hq.out.free 1
    have y2 := hq.out.free 2
    have y3 := hq.out.free 3
    obtain ⟨rf0, rf1, rf2, rf3⟩ := gl_read hq.out A.w A.st A.sh A.od
    have BF := Lib.hid (gl_put hq.out hb.out wr0 A.w A.st A.sh A.od)
    clear h3 SN AD
    go_wp2_with fail
    exact bodyPost_ret (v := .agg #[.int .i64 A.w, .int .i64 A.st, .int .i64 A.sh, .int .i64 A.od]) (by simp [results, Tryz.results155, go_sem, rf0, rf1, rf2, rf3]) rfl ⟨by rw [S2.out]; rfl, BF.out⟩
end Go.Proofs.YtofnchdijanikaaGreatDoor
namespace Go.Proofs.YtofnchdijanikaaGreatDoor
open Go.RowKit
theorem lineG_bd {xs : List DItem} (h : ItemsOk xs) (a t : Nat) (ht : t < xs.length) : GlueSm (lineG xs a t) ∧ (lineG xs a t).w ≤ 61000 ∧ (lineG xs a t).sh ≤ 61000 ∧ (lineG xs a t).st ≤ 61000 := by
 obtain ⟨g1, g2⟩ := glues_ok h (start xs a) t ht
 have hl := h.1
 unfold lineG
 refine ⟨sumG_sm g1 (by omega), ?_⟩
 rw [sumG_tot _ _ rfl g1]
 obtain ⟨b1, b2, b3, b4, b5⟩ := tot_bd _ g1
 have := b5 (if anyOd (glues xs (start xs a) t) = true then 1 else 0)
 simp only
 refine ⟨by omega, by omega, by omega⟩
def BadPost (p : Int × Bool) (w : World) (e : Ending) (w' : World) : Prop := e = .returned (.tuple #[.int .i64 p.1, .bool p.2]) ∧ Below w.heap.size w w'
set_option maxHeartbeats 8000000 in
theorem specSet_any (b off cap n a t : Nat) (xs : List DItem) (hx : PIs xs) (w : World) (hc : ItC w b off n xs) (hat : a ≤ t) (htn : t < n) (hs : start xs a ≤ t) (wd : Int) (hw : 0 ≤ wd ∧ wd ≤ 1000) : Calls Tryz.prog 125 #[.slice (some ⟨b, off, none⟩) n cap, .int .i64 ((a : Int) - 1), .int .i64 t, .int .i64 wd] w (BadPost (setB (lineG xs a t) wd) w) := by
 have bd := lineG_bd hx.ok a t (by rw [← hc.1]; exact htn)
 have SA := Lib.hid (specStart_any b off cap n a xs hx w hc (by omega))
 have SU := Lib.hid (fun w hc => specSum_any b off cap n (start xs a) t xs hx w hc hs htn)
 have HC := Lib.hid hc
 obtain ⟨C, hC⟩ : ∃ C, C = lineG xs a t := ⟨_, rfl⟩
 have HL : Hid (sumG (glues xs (start xs a) t) = C) := by show _ = _; rw [hC]; rfl
 rw [HL.out] at SU
 rw [← hC] at bd ⊢
 obtain ⟨s, hss⟩ : ∃ s, s = start xs a := ⟨_, rfl⟩
 rw [← hss] at SA SU
 clear hC HL hss hs hc hx
 obtain ⟨cw, cst, csh, cod⟩ := C
 unfold GlueSm at bd
 simp only at bd
 obtain ⟨⟨b1, b2, b3, b4, b5, b6, b7⟩, b8, b9, b10⟩ := bd
 obtain ⟨w1, w2⟩ := hw
 unfold GluePost glV at SU
 simp only at SU
 have SB : Hid (setB ⟨cw, cst, csh, cod⟩ wd = if cw ≤ wd then (if cod = 1 then (0, true) else (badV (wd - cw) cst, true)) else if cw - csh > wd then (-1, false) else (badV (cw - wd) csh, false)) := rfl
 generalize hR : setB ⟨cw, cst, csh, cod⟩ wd = R at SB ⊢
 clear hR
 by_cases h1 : cw ≤ wd
 ·by_cases h2 : cod = 1
  ·have E : Hid (R = (0, true)) := by show _ = _; rw [SB.out, if_pos h1, if_pos h2]
   have q2 : (cod == 1) = true := by rw [h2]; rfl
   clear h2
   go_enter Tryz.func125, Tryz.ntmps125
   go_wp2_with (first | (go_at_call 153; refine SA.out.mono ?_; rintro e w3 ⟨rfl, hb3⟩) | (go_at_call 155; refine (SU.out _ (HC.out.below hb3)).mono ?_; rintro e w4 ⟨rfl, hb4⟩))
   go_ret2
   exact ⟨by rw [E.out]; rfl, (below_next hb3 hb4 (Nat.le_refl _)).alloc (by have := hb3.size; have := hb4.size; omega) _⟩
  ·have E : Hid (R = (badV (wd - cw) cst, true)) := by show _ = _; rw [SB.out, if_pos h1, if_neg h2]
   have q2 : (cod == 1) = false := by rw [beq_eq_false_iff_ne]; exact h2
   have BV := Lib.hid (fun w => specBad_any (wd - cw) cst (by omega) (by omega) w)
   clear h2
   go_enter Tryz.func125, Tryz.ntmps125
   go_wp2_with (first | (go_at_call 153; refine SA.out.mono ?_; rintro e w3 ⟨rfl, hb3⟩) | (go_at_call 155; refine (SU.out _ (HC.out.below hb3)).mono ?_; rintro e w4 ⟨rfl, hb4⟩) | (go_at_call 156; refine (BV.out _).mono ?_; rintro e w' ⟨rfl, rfl⟩))
   go_ret2
   exact ⟨by rw [E.out]; rfl, (below_next hb3 hb4 (Nat.le_refl _)).alloc (by have := hb3.size; have := hb4.size; omega) _⟩
 ·by_cases h2 : cw - csh > wd
  ·have E : Hid (R = (-1, false)) := by show _ = _; rw [SB.out, if_neg h1, if_pos h2]
   have h2' : wd < cw - csh := h2
   clear h2
   go_enter Tryz.func125, Tryz.ntmps125
   go_wp2_with (first | (go_at_call 153; refine SA.out.mono ?_; rintro e w3 ⟨rfl, hb3⟩) | (go_at_call 155; refine (SU.out _ (HC.out.below hb3)).mono ?_; rintro e w4 ⟨rfl, hb4⟩))
   go_ret2
   exact ⟨by rw [E.out]; rfl, (below_next hb3 hb4 (Nat.le_refl _)).alloc (by have := hb3.size; have := hb4.size; omega) _⟩
  ·have E : Hid (R = (badV (cw - wd) csh, false)) := by show _ = _; rw [SB.out, if_neg h1, if_neg h2]
   have h2' : ¬ wd < cw - csh := h2
   have BV := Lib.hid (fun w => specBad_any (cw - wd) csh (by omega) (by omega) w)
   clear h2
   go_enter Tryz.func125, Tryz.ntmps125
   go_wp2_with (first | (go_at_call 153; refine SA.out.mono ?_; rintro e w3 ⟨rfl, hb3⟩) | (go_at_call 155; refine (SU.out _ (HC.out.below hb3)).mono ?_; rintro e w4 ⟨rfl, hb4⟩) | (go_at_call 156; refine (BV.out _).mono ?_; rintro e w' ⟨rfl, rfl⟩))
   go_ret2
   exact ⟨by rw [E.out]; rfl, (below_next hb3 hb4 (Nat.le_refl _)).alloc (by have := hb3.size; have := hb4.size; omega) _⟩
set_option maxHeartbeats 8000000 in
theorem specBetween_any (b off cap n a t : Nat) (xs : List DItem) (w : World) (hc : ItC w b off n xs) (han : a ≤ n) (htn : t < n) (bf lk : Int) (hb : 0 ≤ bf ∧ bf ≤ 3) (hl : 0 ≤ lk ∧ lk ≤ 3) : Calls Tryz.prog 128 #[.slice (some ⟨b, off, none⟩) n cap, .int .i64 ((a : Int) - 1), .int .i64 t, .int .i64 bf, .int .i64 lk] w fun e w' => e = .returned (.int .i64 (between xs a t bf lk)) ∧ w = w' := by
 have BT : Hid (between xs a t bf lk = if 0 < a then (if ((it xs (a - 1)).mark && (it xs t).mark) = true then 3000 else 0) + (if 1 < max (bf - lk) (lk - bf) then 3000 else 0) else 0) := rfl
 generalize hR : between xs a t bf lk = R at BT ⊢
 clear hR
 obtain ⟨b1, b2⟩ := hb
 obtain ⟨l1, l2⟩ := hl
 have hbl := hc.2.1
 by_cases ha : a = 0
 ·subst ha
  have E : Hid (R = 0) := by show _ = _; rw [BT.out]; rfl
  rw [show ((0 : Nat) : Int) - 1 = -1 from rfl]
  clear BT hc
  go_enter Tryz.func128, Tryz.ntmps128
  go_wp2
  go_ret
  exact ⟨by rw [E.out]; rfl, rfl⟩
 ·obtain ⟨k, hk⟩ : ∃ k, a = k + 1 := ⟨a - 1, by omega⟩
  have e0 : ((a : Nat) : Int) - 1 = (k : Int) := by omega
  have kn : k < n := by omega
  have c6 := (hc.2.2 k kn).c6
  have d6 := (hc.2.2 t htn).c6
  have ak : a - 1 = k := by omega
  rw [e0]
  rw [ak, if_pos (by omega)] at BT
  have k0 : (0 : Int) ≤ (k : Int) := by omega
  obtain ⟨m1, hm1⟩ : ∃ m, m = (it xs k).mark := ⟨_, rfl⟩
  obtain ⟨m2, hm2⟩ : ∃ m, m = (it xs t).mark := ⟨_, rfl⟩
  rw [← hm1] at c6 BT
  rw [← hm2] at d6 BT
  clear hm1 hm2 hc e0 ak hk ha
  obtain ⟨M, hM⟩ : ∃ M, M = max (bf - lk) (lk - bf) := ⟨_, rfl⟩
  have BT2 := BT.out
  rw [← hM] at BT2
  by_cases h1 : 1 < M
  ·have h1' : 1 < max (bf - lk) (lk - bf) := by rw [← hM]; exact h1
   rw [if_pos h1] at BT2
   clear hM h1 BT
   cases m1
   ·have E : Hid (R = 3000) := by show _ = _; rw [BT2]; rfl
    clear BT2
    go_enter Tryz.func128, Tryz.ntmps128
    go_wp2
    go_ret
    exact ⟨by rw [E.out]; rfl, rfl⟩
   ·cases m2
    ·have E : Hid (R = 3000) := by show _ = _; rw [BT2]; rfl
     clear BT2
     go_enter Tryz.func128, Tryz.ntmps128
     go_wp2
     go_ret
     exact ⟨by rw [E.out]; rfl, rfl⟩
    ·have E : Hid (R = 6000) := by show _ = _; rw [BT2]; rfl
     clear BT2
     go_enter Tryz.func128, Tryz.ntmps128
     go_wp2
     go_ret
     exact ⟨by rw [E.out]; rfl, rfl⟩
  ·have h1' : ¬ 1 < max (bf - lk) (lk - bf) := by rw [← hM]; exact h1
   rw [if_neg h1] at BT2
   clear hM h1 BT
   cases m1
   ·have E : Hid (R = 0) := by show _ = _; rw [BT2]; rfl
    clear BT2
    go_enter Tryz.func128, Tryz.ntmps128
    go_wp2
    go_ret
    exact ⟨by rw [E.out]; rfl, rfl⟩
   ·cases m2
    ·have E : Hid (R = 0) := by show _ = _; rw [BT2]; rfl
     clear BT2
     go_enter Tryz.func128, Tryz.ntmps128
     go_wp2
     go_ret
     exact ⟨by rw [E.out]; rfl, rfl⟩
    ·have E : Hid (R = 3000) := by show _ = _; rw [BT2]; rfl
     clear BT2
     go_enter Tryz.func128, Tryz.ntmps128
     go_wp2
     go_ret
     exact ⟨by rw [E.out]; rfl, rfl⟩
end Go.Proofs.YtofnchdijanikaaGreatDoor

/-
  PROVED HERE: what the printer's lines need, part C04. Conditions: each theorem's own.
-/
import Derived.Test.YtofnchdijanikaaGreatDoorC03
import Derived.Test.YtofnchdijanikaaGreatDoorC01
set_option linter.unusedVariables false
set_option linter.unusedSimpArgs false
set_option maxRecDepth 100000
namespace Go.Proofs.YtofnchdijanikaaGreatDoor
open Go.RowKit
def letN (p : List UInt8) : Nat → Nat
 | 0 => 0
 | k + 1 => if smB (p.getD k 0) = true then letN p k + 1 else letN p k
theorem letN_le (p : List UInt8) : ∀ k, letN p k ≤ k
 | 0 => Nat.le_refl _
 | k + 1 => by
  have := letN_le p k
  rw [letN]
  split <;> omega
theorem letN_pos (p : List UInt8) : ∀ k, 0 < letN p k ↔ ∃ j, j < k ∧ smB (p.getD j 0) = true
 | 0 => ⟨fun h => absurd h (Nat.lt_irrefl _), fun ⟨j, hj, _⟩ => absurd hj (Nat.not_lt_zero _)⟩
 | k + 1 => by
  have ih := letN_pos p k
  rw [letN]
  split
  ·rename_i h
   exact ⟨fun _ => ⟨k, Nat.lt_succ_self _, h⟩, fun _ => Nat.succ_pos _⟩
  ·rename_i h
   rw [ih]
   constructor
   ·rintro ⟨j, hj, hs⟩
    exact ⟨j, by omega, hs⟩
   ·rintro ⟨j, hj, hs⟩
    by_cases e : j = k
    ·rw [e] at hs; exact absurd hs h
    ·exact ⟨j, by omega, hs⟩
theorem any_letN (p : List UInt8) : p.any smB = decide (0 < letN p p.length) := by
 have h := letN_pos p p.length
 cases ha : p.any smB
 ·rw [List.any_eq_false] at ha
  symm
  rw [decide_eq_false_iff_not, h]
  rintro ⟨j, hj, hs⟩
  have e : p.getD j 0 = p[j] := by simp [List.getD, hj]
  rw [e] at hs
  exact ha _ (List.getElem_mem hj) hs
 ·rw [List.any_eq_true] at ha
  obtain ⟨c, hc, hs⟩ := ha
  obtain ⟨j, hj, rfl⟩ := List.getElem_of_mem hc
  symm
  rw [decide_eq_true_iff, h]
  exact ⟨j, hj, by simpa [List.getD, hj] using hs⟩
theorem patB_bad {p : List UInt8} {k : Nat} (hk : k < p.length) (h : patAt p k = false) : patB p = false := by
 unfold patB
 have : (List.range p.length).all (patAt p) = false := by
  cases ha : (List.range p.length).all (patAt p)
  ·rfl
  ·rw [all_range] at ha
   have := ha k hk
   rw [h] at this
   cases this
 rw [this]
 rfl
theorem patB_all {p : List UInt8} (h : ∀ k, k < p.length → patAt p k = true) : patB p = (decide (0 < letN p p.length) && decide (p.length ≤ 12)) := by
 unfold patB
 rw [(all_range p.length (patAt p)).2 h, Bool.true_and, any_letN]
def dgPr (p : List UInt8) (k : Nat) : Bool := decide (0 < k) && dgB (p.getD (k - 1) 0)
theorem dgPr_succ (p : List UInt8) (k : Nat) : dgPr p (k + 1) = dgB (p.getD k 0) := by
 unfold dgPr
 rw [decide_eq_true (Nat.succ_pos k), Bool.true_and]
 rfl
theorem sm_not {c : UInt8} (h : smB c = true) : dgB c = false ∧ c ≠ 46 ∧ 97 ≤ c.toNat ∧ c.toNat ≤ 122 := by
 unfold smB at h
 rw [Bool.and_eq_true] at h
 have h1 := of_decide_eq_true h.1
 have h2 := of_decide_eq_true h.2
 refine ⟨?_, fun e => by rw [e] at h1; exact absurd h1 (by decide), h1, h2⟩
 unfold dgB
 rw [decide_eq_false (by omega : ¬ c.toNat ≤ 57), Bool.and_false]
theorem dg_not {c : UInt8} (h : dgB c = true) : smB c = false ∧ c ≠ 46 ∧ 48 ≤ c.toNat ∧ c.toNat ≤ 57 := by
 unfold dgB at h
 rw [Bool.and_eq_true] at h
 have h1 := of_decide_eq_true h.1
 have h2 := of_decide_eq_true h.2
 refine ⟨?_, fun e => by rw [e] at h1; exact absurd h1 (by decide), h1, h2⟩
 unfold smB
 rw [decide_eq_false (by omega : ¬ 97 ≤ c.toNat), Bool.false_and]
theorem sm_out {c : UInt8} (h : smB c = false) : c.toNat < 97 ∨ 122 < c.toNat := by
 unfold smB at h
 rw [Bool.and_eq_false_iff] at h
 rcases h with h | h
 ·have := of_decide_eq_false h; omega
 ·have := of_decide_eq_false h; omega
theorem dg_out {c : UInt8} (h : dgB c = false) : c.toNat < 48 ∨ 57 < c.toNat := by
 unfold dgB at h
 rw [Bool.and_eq_false_iff] at h
 rcases h with h | h
 ·have := of_decide_eq_false h; omega
 ·have := of_decide_eq_false h; omega
theorem dot_ne {c : UInt8} (h : c ≠ 46) : (((c.toNat : Nat) : Int) == 46) = false := by
 rw [beq_eq_false_iff_ne]
 exact fun e => h (UInt8.toNat_inj.1 (by show c.toNat = 46; omega))
theorem patAt_is (p : List UInt8) (k : Nat) : patAt p k = (smB (p.getD k 0) || ((p.getD k 0 == 46) && (k == 0 || k + 1 == p.length)) || (dgB (p.getD k 0) && !dgPr p k)) := rfl
theorem all_succ {f : Nat → Bool} {k : Nat} (h : ∀ j, j < k → f j = true) (hk : f k = true) : ∀ j, j < k + 1 → f j = true := fun j hj => by
 by_cases e : j = k
 ·rw [e]; exact hk
 ·exact h j (by omega)
set_option maxHeartbeats 4000000 in
theorem specPat_any (p : List UInt8) (hl : p.length ≤ 4000000) (w : World) : Calls Tryz.prog 76 #[.string (bs p)] w fun e w' => e = .returned (.bool (patB p)) ∧ w = w' := by
 obtain ⟨n, hn⟩ : ∃ n, n = p.length := ⟨_, rfl⟩
 have hs : (bs p).size = n := by rw [hn, bs_len]
 have hs2 : p.length = n := hn.symm
 have IX := Lib.hid (fun k (hk : k < n) => idx_byte p k (by rw [← hn]; exact hk))
 have HN := Lib.hid hn
 rw [← hn] at hl
 clear hn
 go_enter Tryz.func76, Tryz.ntmps76
 go_wp2
 go_loop [3, 4, 5] (fun lt dg i => ∃ k : Nat, k ≤ n ∧ lt = .int .i64 (letN p k : Nat) ∧ dg = .bool (dgPr p k) ∧ i = .int .i64 k ∧ Hid (∀ j, j < k → patAt p j = true)) (fun _ _ i => n - (intOf i).toNat)
 case atStart => exact ⟨0, Nat.zero_le _, rfl, rfl, rfl, fun j h => absurd h (Nat.not_lt_zero _)⟩
 case round =>
  obtain ⟨k, hk, rfl, rfl, rfl, hall⟩ := hrel
  have hle := letN_le p k
  by_cases hlt : k < n
  ·have ix := IX.out k hlt (k : Int) rfl
   have PA := Lib.hid (patAt_is p k)
   have DS := Lib.hid (dgPr_succ p k)
   have LS : Hid (letN p (k + 1) = if smB (p.getD k 0) = true then letN p k + 1 else letN p k) := rfl
   have BAD := Lib.hid (fun h => patB_bad (p := p) (k := k) (by omega) h)
   obtain ⟨c, hc⟩ : ∃ c, c = p.getD k 0 := ⟨_, rfl⟩
   rw [← hc] at ix PA DS LS
   obtain ⟨q, hq⟩ : ∃ q, q = letN p k := ⟨_, rfl⟩
   rw [← hq] at LS hle ⊢
   clear hc hq
   cases hsm : smB c
   ·have so := sm_out hsm
    cases hdg : dgB c
    ·have dq := dg_out hdg
     by_cases h46 : c = 46
     ·have PB : Hid (patAt p k = (k == 0 || k + 1 == n)) := by
       show _ = _
       rw [PA.out, hsm, hdg, hs2, h46]
       simp
      obtain ⟨m, hm⟩ : ∃ m, m = c.toNat := ⟨_, rfl⟩
      have m46 : (m : Int) = 46 := by rw [hm, h46]; rfl
      rw [← hm] at ix
      by_cases h0 : k = 0
      ·have c0 : ((k : Int) == 0) = true := by simp [h0]
       have AL := Lib.hid (all_succ hall.out (by rw [PB.out, h0]; rfl))
       have L2 : Hid (letN p (k + 1) = q) := by show _ = _; rw [LS.out, hsm]; rfl
       have D2 : Hid (dgPr p (k + 1) = false) := by show _ = _; rw [DS.out, hdg]
       clear hall so dq hsm hdg PA PB BAD LS DS h46 hm h0
       go_wp2
       exact ⟨⟨k + 1, by omega, by rw [L2.out], by rw [D2.out], by go_num, AL.out⟩, by simp [intOf]; omega⟩
      ·have c0 : ((k : Int) == 0) = false := by simp [h0]
       by_cases h1 : k + 1 = n
       ·have c1 : ((k : Int) == (n : Int) - 1) = true := by rw [beq_iff_eq]; omega
        have AL := Lib.hid (all_succ hall.out (by rw [PB.out]; simp [h1]))
        have L2 : Hid (letN p (k + 1) = q) := by show _ = _; rw [LS.out, hsm]; rfl
        have D2 : Hid (dgPr p (k + 1) = false) := by show _ = _; rw [DS.out, hdg]
        clear hall so dq hsm hdg PA PB BAD LS DS h46 hm h0 h1
        go_wp2
        exact ⟨⟨k + 1, by omega, by rw [L2.out], by rw [D2.out], by go_num, AL.out⟩, by simp [intOf]; omega⟩
       ·have c1 : ((k : Int) == (n : Int) - 1) = false := by rw [beq_eq_false_iff_ne]; omega
        have E := Lib.hid (BAD.out (by rw [PB.out]; simp [h0, h1]))
        clear hall so dq hsm hdg PA PB BAD LS DS h46 hm h0 h1
        go_wp2
        go_ret
        exact ⟨by rw [E.out]; rfl, rfl⟩
     ·have c46 := dot_ne h46
      have E := Lib.hid (BAD.out (by rw [PA.out, hsm, hdg]; simp [h46]))
      obtain ⟨m, hm⟩ : ∃ m, m = c.toNat := ⟨_, rfl⟩
      rw [← hm] at ix so dq c46
      clear hall hsm hdg PA BAD LS DS hm
      rcases so with so | so
      ·have s1 : ¬ (97 : Int) ≤ m := by omega
       rcases dq with dq | dq
       ·have s2 : ¬ (48 : Int) ≤ m := by omega
        go_wp2
        go_ret
        exact ⟨by rw [E.out]; rfl, rfl⟩
       ·have s2 : (48 : Int) ≤ m := by omega
        have s3 : ¬ (m : Int) ≤ 57 := by omega
        go_wp2
        go_ret
        exact ⟨by rw [E.out]; rfl, rfl⟩
      ·have s1 : (97 : Int) ≤ m := by omega
       have s2 : ¬ (m : Int) ≤ 122 := by omega
       have s3 : (48 : Int) ≤ m := by omega
       have s4 : ¬ (m : Int) ≤ 57 := by omega
       go_wp2
       go_ret
       exact ⟨by rw [E.out]; rfl, rfl⟩
    ·obtain ⟨_, h46, d1, d2⟩ := dg_not hdg
     have c46 := dot_ne h46
     obtain ⟨m, hm⟩ : ∃ m, m = c.toNat := ⟨_, rfl⟩
     rw [← hm] at ix so c46 d1 d2
     have s1 : ¬ (97 : Int) ≤ m := by omega
     have s2 : (48 : Int) ≤ m := by omega
     have s3 : (m : Int) ≤ 57 := by omega
     cases hpr : dgPr p k
     ·have AL := Lib.hid (all_succ hall.out (by rw [PA.out, hsm, hdg, hpr]; simp))
      have L2 : Hid (letN p (k + 1) = q) := by show _ = _; rw [LS.out, hsm]; rfl
      have D2 : Hid (dgPr p (k + 1) = true) := by show _ = _; rw [DS.out, hdg]
      clear hall so hsm hdg PA BAD LS DS hm hpr
      go_wp2
      exact ⟨⟨k + 1, by omega, by rw [L2.out], by rw [D2.out], by go_num, AL.out⟩, by simp [intOf]; omega⟩
     ·have E := Lib.hid (BAD.out (by rw [PA.out, hsm, hdg, hpr]; simp [h46]))
      clear hall so hsm hdg PA BAD LS DS hm hpr
      go_wp2
      go_ret
      exact ⟨by rw [E.out]; rfl, rfl⟩
   ·obtain ⟨hdg, _, d1, d2⟩ := sm_not hsm
    obtain ⟨m, hm⟩ : ∃ m, m = c.toNat := ⟨_, rfl⟩
    rw [← hm] at ix d1 d2
    have s1 : (97 : Int) ≤ m := by omega
    have s2 : (m : Int) ≤ 122 := by omega
    have AL := Lib.hid (all_succ hall.out (by rw [PA.out, hsm]; rfl))
    have L2 : Hid (letN p (k + 1) = q + 1) := by show _ = _; rw [LS.out, hsm]; rfl
    have D2 : Hid (dgPr p (k + 1) = false) := by show _ = _; rw [DS.out, hdg]
    clear hall hsm hdg PA BAD LS DS hm
    go_wp2
    exact ⟨⟨k + 1, by omega, by rw [L2.out]; go_num, by rw [D2.out], by go_num, AL.out⟩, by simp [intOf]; omega⟩
  ·obtain rfl : k = n := by omega
   have e : patB p = (decide (0 < letN p k) && decide (k ≤ 12)) := by rw [patB_all (fun j hj => hall.out j (by omega)), hs2]
   have E := Lib.hid e
   obtain ⟨q, hq⟩ : ∃ q, q = letN p k := ⟨_, rfl⟩
   rw [← hq] at E hle ⊢
   clear e hall hq
   by_cases h0 : 0 < q
   ·have h0' : (0 : Int) < q := by omega
    by_cases h12 : k ≤ 12
    ·have h12' : (k : Int) ≤ 12 := by omega
     go_wp2
     go_ret
     exact ⟨by rw [E.out, decide_eq_true h0, decide_eq_true h12]; rfl, rfl⟩
    ·have h12' : ¬ (k : Int) ≤ 12 := by omega
     go_wp2
     go_ret
     exact ⟨by rw [E.out, decide_eq_true h0, decide_eq_false h12]; rfl, rfl⟩
   ·have h0' : ¬ (0 : Int) < q := by omega
    go_wp2
    go_ret
    exact ⟨by rw [E.out, decide_eq_false h0]; rfl, rfl⟩
set_option maxHeartbeats 4000000 in
theorem implPat_any (p : List UInt8) (hl : p.length ≤ 4000000) (w : World) : Calls Tryz.prog 78 #[.string (bs p)] w fun e w' => e = .returned (.bool (patB p)) ∧ w = w' := by
 obtain ⟨n, hn⟩ : ∃ n, n = p.length := ⟨_, rfl⟩
 have hs : (bs p).size = n := by rw [hn, bs_len]
 have hs2 : p.length = n := hn.symm
 have IX := Lib.hid (fun k (hk : k < n) => idx_byte p k (by rw [← hn]; exact hk))
 have HN := Lib.hid hn
 rw [← hn] at hl
 clear hn
 go_enter Tryz.func78, Tryz.ntmps78
 go_wp2
 go_loop [3, 8] (fun lt i => ∃ k : Nat, k ≤ n ∧ lt = .int .i64 (letN p k : Nat) ∧ i = .int .i64 k ∧ Hid (∀ j, j < k → patAt p j = true)) (fun _ i => n - (intOf i).toNat)
 case atStart => exact ⟨0, Nat.zero_le _, rfl, rfl, fun j h => absurd h (Nat.not_lt_zero _)⟩
 case round =>
  obtain ⟨k, hk, rfl, rfl, hall⟩ := hrel
  have hle := letN_le p k
  by_cases hlt : k < n
  ·have ix := IX.out k hlt (k : Int) rfl
   have PA := Lib.hid (patAt_is p k)
   have LS : Hid (letN p (k + 1) = if smB (p.getD k 0) = true then letN p k + 1 else letN p k) := rfl
   have BAD := Lib.hid (fun h => patB_bad (p := p) (k := k) (by omega) h)
   obtain ⟨c, hc⟩ : ∃ c, c = p.getD k 0 := ⟨_, rfl⟩
   rw [← hc] at ix PA LS
   obtain ⟨q, hq⟩ : ∃ q, q = letN p k := ⟨_, rfl⟩
   rw [← hq] at LS hle ⊢
   clear hc hq
   cases hsm : smB c
   ·cases hdg : dgB c
    ·have L2 : Hid (letN p (k + 1) = q) := by show _ = _; rw [LS.out, hsm]; rfl
     by_cases h46 : c = 46
     ·have PB : Hid (patAt p k = (k == 0 || k + 1 == n)) := by
       show _ = _
       rw [PA.out, hsm, hdg, hs2, h46]
       simp
      have HS := Lib.hid hsm
      have HD := Lib.hid hdg
      have c46 : (((c.toNat : Nat) : Int) == 46) = true := by rw [h46]; rfl
      by_cases h0 : k = 0
      ·have c0 : ((k : Int) != 0) = false := by simp [h0]
       have AL := Lib.hid (all_succ hall.out (by rw [PB.out, h0]; rfl))
       clear hall hsm hdg PA PB BAD LS h46 h0
       go_wp2_with (first | (go_at_call 95; refine (small_any _ _).mono ?_; rintro e w' ⟨rfl, rfl⟩; rw [HS.out]) | (go_at_call 96; refine (digit_any _ _).mono ?_; rintro e w' ⟨rfl, rfl⟩; rw [HD.out]))
       exact ⟨⟨k + 1, by omega, by rw [L2.out], by go_num, AL.out⟩, by simp [intOf]; omega⟩
      ·have c0 : ((k : Int) != 0) = true := by simp [h0]
       by_cases h1 : k + 1 = n
       ·have c1 : ((k : Int) != (n : Int) - 1) = false := by rw [bne_eq_false_iff_eq]; omega
        have AL := Lib.hid (all_succ hall.out (by rw [PB.out]; simp [h1]))
        clear hall hsm hdg PA PB BAD LS h46 h0 h1
        go_wp2_with (first | (go_at_call 95; refine (small_any _ _).mono ?_; rintro e w' ⟨rfl, rfl⟩; rw [HS.out]) | (go_at_call 96; refine (digit_any _ _).mono ?_; rintro e w' ⟨rfl, rfl⟩; rw [HD.out]))
        exact ⟨⟨k + 1, by omega, by rw [L2.out], by go_num, AL.out⟩, by simp [intOf]; omega⟩
       ·have c1 : ((k : Int) != (n : Int) - 1) = true := by rw [bne_iff_ne]; omega
        have E := Lib.hid (BAD.out (by rw [PB.out]; simp [h0, h1]))
        clear hall hsm hdg PA PB BAD LS h46 h0 h1
        go_wp2_with (first | (go_at_call 95; refine (small_any _ _).mono ?_; rintro e w' ⟨rfl, rfl⟩; rw [HS.out]) | (go_at_call 96; refine (digit_any _ _).mono ?_; rintro e w' ⟨rfl, rfl⟩; rw [HD.out]))
        go_ret
        exact ⟨by rw [E.out]; rfl, rfl⟩
     ·have c46 := dot_ne h46
      have E := Lib.hid (BAD.out (by rw [PA.out, hsm, hdg]; simp [h46]))
      have HS := Lib.hid hsm
      have HD := Lib.hid hdg
      clear hall hsm hdg PA BAD LS h46
      go_wp2_with (first | (go_at_call 95; refine (small_any _ _).mono ?_; rintro e w' ⟨rfl, rfl⟩; rw [HS.out]) | (go_at_call 96; refine (digit_any _ _).mono ?_; rintro e w' ⟨rfl, rfl⟩; rw [HD.out]))
      go_ret
      exact ⟨by rw [E.out]; rfl, rfl⟩
    ·obtain ⟨_, h46, _, _⟩ := dg_not hdg
     have L2 : Hid (letN p (k + 1) = q) := by show _ = _; rw [LS.out, hsm]; rfl
     have HS := Lib.hid hsm
     have HD := Lib.hid hdg
     by_cases h0 : k = 0
     ·have c0 : ¬ (0 : Int) < (k : Int) := by omega
      have AL := Lib.hid (all_succ hall.out (by rw [PA.out, hsm, hdg, h0]; simp [dgPr]))
      clear hall hsm hdg PA BAD LS h46 h0
      go_wp2_with (first | (go_at_call 95; refine (small_any _ _).mono ?_; rintro e w' ⟨rfl, rfl⟩; rw [HS.out]) | (go_at_call 96; refine (digit_any _ _).mono ?_; rintro e w' ⟨rfl, rfl⟩; rw [HD.out]))
      exact ⟨⟨k + 1, by omega, by rw [L2.out], by go_num, AL.out⟩, by simp [intOf]; omega⟩
     ·have c0 : 0 < k := by omega
      have c0' : (0 : Int) < (k : Int) := by omega
      have ix2 := IX.out (k - 1) (by omega) ((k : Int) - 1) (by omega)
      have PR : Hid (dgPr p k = dgB (p.getD (k - 1) 0)) := by show _ = _; unfold dgPr; rw [decide_eq_true c0, Bool.true_and]
      obtain ⟨d, hd⟩ : ∃ d, d = p.getD (k - 1) 0 := ⟨_, rfl⟩
      rw [← hd] at ix2 PR
      cases hpr : dgB d
      ·have AL := Lib.hid (all_succ hall.out (by rw [PA.out, hsm, hdg, PR.out, hpr]; simp))
       have HP := Lib.hid hpr
       clear hall hsm hdg PA BAD LS h46 hpr PR hd
       go_wp2_with (first | (go_at_call 95; refine (small_any _ _).mono ?_; rintro e w' ⟨rfl, rfl⟩; rw [HS.out]) | (go_at_call 96; refine (digit_any _ _).mono ?_; rintro e w' ⟨rfl, rfl⟩; first | rw [HD.out] | rw [HP.out]))
       exact ⟨⟨k + 1, by omega, by rw [L2.out], by go_num, AL.out⟩, by simp [intOf]; omega⟩
      ·have E := Lib.hid (BAD.out (by rw [PA.out, hsm, hdg, PR.out, hpr]; simp [h46]))
       have HP := Lib.hid hpr
       clear hall hsm hdg PA BAD LS h46 hpr PR hd
       go_wp2_with (first | (go_at_call 95; refine (small_any _ _).mono ?_; rintro e w' ⟨rfl, rfl⟩; rw [HS.out]) | (go_at_call 96; refine (digit_any _ _).mono ?_; rintro e w' ⟨rfl, rfl⟩; first | rw [HD.out] | rw [HP.out]))
       go_ret
       exact ⟨by rw [E.out]; rfl, rfl⟩
   ·have AL := Lib.hid (all_succ hall.out (by rw [PA.out, hsm]; rfl))
    have L2 : Hid (letN p (k + 1) = q + 1) := by show _ = _; rw [LS.out, hsm]; rfl
    have HS := Lib.hid hsm
    clear hall hsm PA BAD LS
    go_wp2_with (first | (go_at_call 95; refine (small_any _ _).mono ?_; rintro e w' ⟨rfl, rfl⟩; rw [HS.out]))
    exact ⟨⟨k + 1, by omega, by rw [L2.out]; go_num, by go_num, AL.out⟩, by simp [intOf]; omega⟩
  ·obtain rfl : k = n := by omega
   have e : patB p = (decide (0 < letN p k) && decide (k ≤ 12)) := by rw [patB_all (fun j hj => hall.out j (by omega)), hs2]
   have E := Lib.hid e
   obtain ⟨q, hq⟩ : ∃ q, q = letN p k := ⟨_, rfl⟩
   rw [← hq] at E hle ⊢
   clear e hall hq
   by_cases h0 : 0 < q
   ·have h0' : (0 : Int) < q := by omega
    by_cases h12 : k ≤ 12
    ·have h12' : (k : Int) ≤ 12 := by omega
     go_wp2
     go_ret
     exact ⟨by rw [E.out, decide_eq_true h0, decide_eq_true h12]; rfl, rfl⟩
    ·have h12' : ¬ (k : Int) ≤ 12 := by omega
     go_wp2
     go_ret
     exact ⟨by rw [E.out, decide_eq_true h0, decide_eq_false h12]; rfl, rfl⟩
   ·have h0' : ¬ (0 : Int) < q := by omega
    go_wp2
    go_ret
    exact ⟨by rw [E.out, decide_eq_false h0]; rfl, rfl⟩
end Go.Proofs.YtofnchdijanikaaGreatDoor
namespace Go.Proofs.YtofnchdijanikaaGreatDoor
open Go.RowKit
def SRow {α : Type} (sz : Nat) (enc : α → List Value) (w : World) (v : Value) (xs : List α) : Prop :=
 ∃ a cap, v = .slice a xs.length cap ∧ xs.length ≤ 9223372036854775807 ∧ ∀ j (hj : j < xs.length), ∃ b off, a = some ⟨b, off, none⟩ ∧ ∀ i u, (enc xs[j])[i]? = some u → w.cell? ⟨b, off + j * sz + i, none⟩ = some u
section
variable {α : Type} {sz : Nat} {enc : α → List Value} {w w' : World} {v : Value} {xs : List α}
theorem SRow.empty (h : SRow sz enc w v []) : ∃ a cap, v = .slice a 0 cap := by
 obtain ⟨a, cap, hv, _⟩ := h
 exact ⟨a, cap, hv⟩
theorem SRow.len (h : SRow sz enc w v xs) : xs.length ≤ 9223372036854775807 := by
 obtain ⟨_, _, _, hl, _⟩ := h
 exact hl
theorem SRow.pos (h : SRow sz enc w v xs) (he : ∀ x, 0 < (enc x).length) (hp : 0 < xs.length) :
  ∃ b off cap, v = .slice (Option.some ⟨b, off, none⟩) xs.length cap ∧ b < w.heap.size ∧ ∀ j (hj : j < xs.length) i u, (enc xs[j])[i]? = some u → w.cell? ⟨b, off + j * sz + i, none⟩ = some u := by
 obtain ⟨a, cap, hv, _, hc⟩ := h
 obtain ⟨b, off, rfl, h0⟩ := hc 0 hp
 refine ⟨b, off, cap, hv, ?_, fun j hj => ?_⟩
 ·have h1 := h0 0 _ (List.getElem?_eq_getElem (he xs[0]))
  exact World.block_lt_of_cell? w _ h1
 ·obtain ⟨b', off', e, h'⟩ := hc j hj
  obtain ⟨rfl, rfl⟩ : b = b' ∧ off = off' := by simpa using e
  exact h'
theorem SRow.kept (h : SRow sz enc w v xs) (hk : ∀ b o u, v.ownBlock = some b → w.cell? ⟨b, o, none⟩ = some u → w'.cell? ⟨b, o, none⟩ = some u) : SRow sz enc w' v xs := by
 obtain ⟨a, cap, rfl, hl, hc⟩ := h
 refine ⟨a, cap, rfl, hl, fun j hj => ?_⟩
 obtain ⟨b, off, rfl, h'⟩ := hc j hj
 exact ⟨b, off, rfl, fun i u hu => hk b _ u rfl (h' i u hu)⟩
theorem SRow.below (h : SRow sz enc w v xs) (hb : Below w.heap.size w w') : SRow sz enc w' v xs :=
 h.kept fun b o _ _ hc => (hb.cell (p := ⟨b, o, none⟩) (World.block_lt_of_cell? w ⟨b, o, none⟩ hc)).trans hc
theorem SRow.grown {row : Option Nat} (h : SRow sz enc w v xs) (hg : w.grownBy w' row) (hne : ∀ b, v.ownBlock = some b → some b ≠ row) : SRow sz enc w' v xs :=
 h.kept fun b o _ hb hc => hg.cell (a := ⟨b, o, none⟩) hc (hne b hb)
theorem flatMap_get (enc : α → List Value) (sz : Nat) : ∀ (xs : List α) (j i : Nat) (hj : j < xs.length), (∀ x ∈ xs, (enc x).length = sz) → i < sz → (xs.flatMap enc)[j * sz + i]? = (enc xs[j])[i]?
 | [], j, i, hj, _, _ => by simp at hj
 | x :: xs, 0, i, hj, he, hi => by
  rw [List.flatMap_cons, Nat.zero_mul, Nat.zero_add, List.getElem?_append_left (by rw [he x List.mem_cons_self]; exact hi)]
  rfl
 | x :: xs, j + 1, i, hj, he, hi => by
  have hx := he x List.mem_cons_self
  rw [List.flatMap_cons, Nat.add_mul, Nat.one_mul, List.getElem?_append_right (by omega)]
  have e : j * sz + sz + i - (enc x).length = j * sz + i := by omega
  rw [e, flatMap_get enc sz xs j i (by simpa using hj) (fun y hy => he y (List.mem_cons_of_mem _ hy)) hi]
  rfl
theorem flatMap_len (enc : α → List Value) (sz : Nat) : ∀ (xs : List α), (∀ x ∈ xs, (enc x).length = sz) → (xs.flatMap enc).length = xs.length * sz
 | [], _ => by simp
 | x :: xs, he => by
  rw [List.flatMap_cons, List.length_append, he x List.mem_cons_self, flatMap_len enc sz xs (fun y hy => he y (List.mem_cons_of_mem _ hy)), List.length_cons, Nat.add_mul]
  omega
theorem SRow.of_owns {base : Nat} {e : TypeId} {n : Nat} (he : ∀ x, (enc x).length = sz) (hn : xs.length = n) (h : w.ownsRow base e sz v n (xs.flatMap enc)) : SRow sz enc w v xs := by
 subst hn
 obtain ⟨h1, h2⟩ := h
 rcases h2 with ⟨rfl, h0⟩ | ⟨g, cap, cur, rfl, _, hg, hnc, hcm, hcs, ht⟩
 ·have : xs = [] := List.eq_nil_of_length_eq_zero h0
  subst this
  exact ⟨none, 0, rfl, by simp, fun j hj => by simp at hj⟩
 ·refine ⟨some ⟨g, 0, none⟩, cap, rfl, by unfold maxLen at hcm; omega, fun j hj => ⟨g, 0, rfl, fun i u hu => ?_⟩⟩
  have hi : i < sz := by
   have := (List.getElem?_eq_some_iff.1 hu).1
   rw [he] at this
   exact this
  rw [cell_of_row w g _ cur e (0, 0) hg]
  have h3 : (cur.toList.take (xs.length * sz))[j * sz + i]? = some u := by rw [ht, flatMap_get enc sz xs j i hj (fun x _ => he x) hi]; exact hu
  rw [List.getElem?_take] at h3
  split at h3
  ·simpa using h3
  ·cases h3
end
end Go.Proofs.YtofnchdijanikaaGreatDoor
namespace Go.Proofs.YtofnchdijanikaaGreatDoor
open Go.RowKit
def encB (l : List UInt8) : List Value := [.string (bs l)]
theorem encB_len (l : List UInt8) : (encB l).length = 1 := rfl
theorem encB_pos (l : List UInt8) : 0 < (encB l).length := Nat.one_pos
def encV (u : Value) : List Value := [u]
theorem encV_len (u : Value) : (encV u).length = 1 := rfl
theorem encV_pos (u : Value) : 0 < (encV u).length := Nat.one_pos
abbrev TxtS (w : World) (v : Value) (xs : List (List UInt8)) : Prop := SRow 1 encB w v xs
def TxtSS (w : World) (v : Value) (xss : List (List (List UInt8))) : Prop :=
 ∃ us : List Value, SRow 1 encV w v us ∧ us.length = xss.length ∧ ∀ j (h : j < xss.length), ∃ u, us[j]? = some u ∧ TxtS w u xss[j]
theorem TxtSS.below {w w' : World} {v : Value} {xss : List (List (List UInt8))} (h : TxtSS w v xss) (hb : Below w.heap.size w w') : TxtSS w' v xss := by
 obtain ⟨us, h1, h2, h3⟩ := h
 refine ⟨us, h1.below hb, h2, fun j hj => ?_⟩
 obtain ⟨u, hu, hr⟩ := h3 j hj
 exact ⟨u, hu, hr.below hb⟩
def BookR (w : World) (v : Value) (b : DBook) : Prop :=
 ∃ pv qv, v = .agg #[pv, qv, .int .i64 b.w, .int .i64 b.most, .int .i64 b.lines] ∧ TxtSS w pv b.pars ∧ TxtS w qv b.pats
theorem BookR.below {w w' : World} {v : Value} {b : DBook} (h : BookR w v b) (hb : Below w.heap.size w w') : BookR w' v b := by
 obtain ⟨pv, qv, h1, h2, h3⟩ := h
 exact ⟨pv, qv, h1, h2.below hb, h3.below hb⟩
def Sh (xs : List (List UInt8)) : Prop := ∀ x ∈ xs, x.length ≤ 4000000
structure BookSh (b : DBook) : Prop where
 pars : ∀ p ∈ b.pars, Sh p
 pats : Sh b.pats
theorem sh_of_word {xs : List (List UInt8)} (h : ∀ x ∈ xs, wordB x = true) : Sh xs := fun x hx => by have := (wordB_true (h x hx)).2.2; omega
theorem pat_len {p : List UInt8} (h : patB p = true) : p.length ≤ 12 := by
 unfold patB at h
 simp only [Bool.and_eq_true, decide_eq_true_eq] at h
 exact h.2.2
theorem pats_all {ps : List (List UInt8)} (h : patsB ps = true) : (∀ x ∈ ps, patB x = true) ∧ ps.length ≤ 20 := by
 unfold patsB at h
 rw [Bool.and_eq_true] at h
 exact ⟨fun x hx => List.all_eq_true.1 h.1 x hx, of_decide_eq_true h.2⟩
theorem words_all {ps : List (List UInt8)} (h : wordsB ps = true) : (∀ x ∈ ps, wordB x = true) ∧ ps.length ≤ 12 := by
 unfold wordsB at h
 rw [Bool.and_eq_true] at h
 exact ⟨fun x hx => List.all_eq_true.1 h.1 x hx, of_decide_eq_true h.2⟩
theorem sh_of_pats {ps : List (List UInt8)} (h : patsB ps = true) : Sh ps := fun x hx => by have := pat_len ((pats_all h).1 x hx); omega
theorem all_bad {α : Type} {f : α → Bool} {xs : List α} {k : Nat} (hk : k < xs.length) (h : f xs[k] = false) : xs.all f = false := by
 rw [List.all_eq_false]
 exact ⟨xs[k], List.getElem_mem hk, by rw [h]; decide⟩
theorem all_good {α : Type} {f : α → Bool} {xs : List α} (h : ∀ k (hk : k < xs.length), f xs[k] = true) : xs.all f = true := by
 rw [List.all_eq_true]
 intro x hx
 obtain ⟨k, hk, rfl⟩ := List.getElem_of_mem hx
 exact h k hk
end Go.Proofs.YtofnchdijanikaaGreatDoor
namespace Go.Proofs.YtofnchdijanikaaGreatDoor
open Go.RowKit
set_option maxHeartbeats 2000000 in
theorem implWords_any (v : Value) (xs : List (List UInt8)) (w : World) (h : TxtS w v xs) (hx : Sh xs) : Calls Tryz.prog 55 #[v] w fun e w' => e = .returned (.bool (wordsB xs)) ∧ w = w' := by
 by_cases h0 : xs.length = 0
 ·obtain rfl : xs = [] := List.eq_nil_of_length_eq_zero h0
  obtain ⟨a, cap, rfl⟩ := h.empty
  clear h h0 hx
  go_enter Tryz.func55, Tryz.ntmps55
  go_wp2
  refine wp_loop_rounds 1 ?_
  rw [rounds_succ]
  go_wp2
  go_ret
  exact ⟨rfl, rfl⟩
 ·have hsz := h.len
  obtain ⟨b, off, cap, rfl, hbl, hc⟩ := h.pos encB_pos (by omega)
  obtain ⟨n, hn⟩ : ∃ n, n = xs.length := ⟨_, rfl⟩
  have hs2 : xs.length = n := hn.symm
  rw [← hn] at hsz h0 ⊢
  have HC := Lib.hid hc
  have HX := Lib.hid hx
  clear hn hc h hx
  go_enter Tryz.func55, Tryz.ntmps55
  go_wp2
  go_loop [7] (fun i => ∃ k : Nat, k ≤ n ∧ i = .int .i64 k ∧ Hid (∀ j (hj : j < xs.length), j < k → wordB xs[j] = true)) (fun i => n - (intOf i).toNat)
  case atStart => exact ⟨0, Nat.zero_le _, rfl, fun j _ h => absurd h (Nat.not_lt_zero _)⟩
  case round =>
   obtain ⟨k, hk, rfl, hall⟩ := hrel
   by_cases hlt : k < n
   ·have hk' : k < xs.length := by omega
    have c := HC.out k hk' 0 _ rfl
    have hlen := HX.out xs[k] (List.getElem_mem hk')
    have BAD := Lib.hid (fun h => all_bad (f := wordB) hk' h)
    obtain ⟨s, hs'⟩ : ∃ s, s = xs[k] := ⟨_, rfl⟩
    rw [← hs'] at c hlen BAD
    have c0 : w.cell? ⟨b, off + k, none⟩ = some (.string (bs s)) := by simpa using c
    have SB := Lib.hid (fun w => implWord_any s hlen w)
    clear c
    cases hp : wordB s
    ·have E : Hid (wordsB xs = false) := by show _ = _; unfold wordsB; rw [BAD.out hp]; rfl
     have HP := Lib.hid hp
     clear hp hs' hall BAD
     go_wp2_with (go_at_call 77; refine (SB.out _).mono ?_; rintro e w' ⟨rfl, rfl⟩; rw [HP.out])
     go_ret
     exact ⟨by rw [E.out]; rfl, rfl⟩
    ·have ALL : Hid (∀ j (hj : j < xs.length), j < k + 1 → wordB xs[j] = true) := by
      intro j hj hjk
      by_cases e : j < k
      ·exact hall.out j hj e
      ·obtain rfl : j = k := by omega
       rw [← hs']; exact hp
     have HP := Lib.hid hp
     clear hp hs' hall BAD
     go_wp2_with (go_at_call 77; refine (SB.out _).mono ?_; rintro e w' ⟨rfl, rfl⟩; rw [HP.out])
     exact ⟨⟨k + 1, by omega, by go_num, ALL.out⟩, by simp [intOf]; omega⟩
   ·obtain rfl : k = n := by omega
    have E : Hid (wordsB xs = decide (k ≤ 12)) := by show _ = _; unfold wordsB; rw [all_good (fun j hj => hall.out j hj (by omega)), hs2]; rfl
    clear hall HC HX
    by_cases h12 : k ≤ 12
    ·have h12' : (k : Int) ≤ 12 := by omega
     go_wp2
     go_ret
     exact ⟨by rw [E.out, decide_eq_true h12]; rfl, rfl⟩
    ·have h12' : ¬ (k : Int) ≤ 12 := by omega
     go_wp2
     go_ret
     exact ⟨by rw [E.out, decide_eq_false h12]; rfl, rfl⟩
set_option maxHeartbeats 2000000 in
theorem specWords_any (v : Value) (xs : List (List UInt8)) (w : World) (h : TxtS w v xs) (hx : Sh xs) : Calls Tryz.prog 51 #[v] w fun e w' => e = .returned (.bool (wordsB xs)) ∧ w = w' := by
 by_cases h0 : xs.length = 0
 ·obtain rfl : xs = [] := List.eq_nil_of_length_eq_zero h0
  obtain ⟨a, cap, rfl⟩ := h.empty
  clear h h0 hx
  go_enter Tryz.func51, Tryz.ntmps51
  go_wp2
  refine wp_loop_rounds 1 ?_
  rw [rounds_succ]
  go_wp2
  go_ret
  exact ⟨rfl, rfl⟩
 ·have hsz := h.len
  obtain ⟨b, off, cap, rfl, hbl, hc⟩ := h.pos encB_pos (by omega)
  obtain ⟨n, hn⟩ : ∃ n, n = xs.length := ⟨_, rfl⟩
  have hs2 : xs.length = n := hn.symm
  rw [← hn] at hsz h0 ⊢
  have HC := Lib.hid hc
  have HX := Lib.hid hx
  clear hn hc h hx
  go_enter Tryz.func51, Tryz.ntmps51
  go_wp2
  go_loop [3] (fun i => ∃ k : Nat, k ≤ n ∧ i = .int .i64 k ∧ Hid (∀ j (hj : j < xs.length), j < k → wordB xs[j] = true)) (fun i => n - (intOf i).toNat)
  case atStart => exact ⟨0, Nat.zero_le _, rfl, fun j _ h => absurd h (Nat.not_lt_zero _)⟩
  case round =>
   obtain ⟨k, hk, rfl, hall⟩ := hrel
   by_cases hlt : k < n
   ·have hk' : k < xs.length := by omega
    have c := HC.out k hk' 0 _ rfl
    have hlen := HX.out xs[k] (List.getElem_mem hk')
    have BAD := Lib.hid (fun h => all_bad (f := wordB) hk' h)
    obtain ⟨s, hs'⟩ : ∃ s, s = xs[k] := ⟨_, rfl⟩
    rw [← hs'] at c hlen BAD
    have c0 : w.cell? ⟨b, off + k, none⟩ = some (.string (bs s)) := by simpa using c
    have SB := Lib.hid (fun w => specWord_any s hlen w)
    clear c
    cases hp : wordB s
    ·have E : Hid (wordsB xs = false) := by show _ = _; unfold wordsB; rw [BAD.out hp]; rfl
     have HP := Lib.hid hp
     clear hp hs' hall BAD
     go_wp2_with (go_at_call 75; refine (SB.out _).mono ?_; rintro e w' ⟨rfl, rfl⟩; rw [HP.out])
     go_ret
     exact ⟨by rw [E.out]; rfl, rfl⟩
    ·have ALL : Hid (∀ j (hj : j < xs.length), j < k + 1 → wordB xs[j] = true) := by
      intro j hj hjk
      by_cases e : j < k
      ·exact hall.out j hj e
      ·obtain rfl : j = k := by omega
       rw [← hs']; exact hp
     have HP := Lib.hid hp
     clear hp hs' hall BAD
     go_wp2_with (go_at_call 75; refine (SB.out _).mono ?_; rintro e w' ⟨rfl, rfl⟩; rw [HP.out])
     exact ⟨⟨k + 1, by omega, by go_num, ALL.out⟩, by simp [intOf]; omega⟩
   ·obtain rfl : k = n := by omega
    have E : Hid (wordsB xs = decide (k ≤ 12)) := by show _ = _; unfold wordsB; rw [all_good (fun j hj => hall.out j hj (by omega)), hs2]; rfl
    clear hall HC HX
    by_cases h12 : k ≤ 12
    ·have h12' : (k : Int) ≤ 12 := by omega
     go_wp2
     go_ret
     exact ⟨by rw [E.out, decide_eq_true h12]; rfl, rfl⟩
    ·have h12' : ¬ (k : Int) ≤ 12 := by omega
     go_wp2
     go_ret
     exact ⟨by rw [E.out, decide_eq_false h12]; rfl, rfl⟩
set_option maxHeartbeats 2000000 in
theorem implPats_any (v : Value) (xs : List (List UInt8)) (w : World) (h : TxtS w v xs) (hx : Sh xs) : Calls Tryz.prog 56 #[v] w fun e w' => e = .returned (.bool (patsB xs)) ∧ w = w' := by
 by_cases h0 : xs.length = 0
 ·obtain rfl : xs = [] := List.eq_nil_of_length_eq_zero h0
  obtain ⟨a, cap, rfl⟩ := h.empty
  clear h h0 hx
  go_enter Tryz.func56, Tryz.ntmps56
  go_wp2
  refine wp_loop_rounds 1 ?_
  rw [rounds_succ]
  go_wp2
  go_ret
  exact ⟨rfl, rfl⟩
 ·have hsz := h.len
  obtain ⟨b, off, cap, rfl, hbl, hc⟩ := h.pos encB_pos (by omega)
  obtain ⟨n, hn⟩ : ∃ n, n = xs.length := ⟨_, rfl⟩
  have hs2 : xs.length = n := hn.symm
  rw [← hn] at hsz h0 ⊢
  have HC := Lib.hid hc
  have HX := Lib.hid hx
  clear hn hc h hx
  go_enter Tryz.func56, Tryz.ntmps56
  go_wp2
  go_loop [7] (fun i => ∃ k : Nat, k ≤ n ∧ i = .int .i64 k ∧ Hid (∀ j (hj : j < xs.length), j < k → patB xs[j] = true)) (fun i => n - (intOf i).toNat)
  case atStart => exact ⟨0, Nat.zero_le _, rfl, fun j _ h => absurd h (Nat.not_lt_zero _)⟩
  case round =>
   obtain ⟨k, hk, rfl, hall⟩ := hrel
   by_cases hlt : k < n
   ·have hk' : k < xs.length := by omega
    have c := HC.out k hk' 0 _ rfl
    have hlen := HX.out xs[k] (List.getElem_mem hk')
    have BAD := Lib.hid (fun h => all_bad (f := patB) hk' h)
    obtain ⟨s, hs'⟩ : ∃ s, s = xs[k] := ⟨_, rfl⟩
    rw [← hs'] at c hlen BAD
    have c0 : w.cell? ⟨b, off + k, none⟩ = some (.string (bs s)) := by simpa using c
    have SB := Lib.hid (fun w => implPat_any s hlen w)
    clear c
    cases hp : patB s
    ·have E : Hid (patsB xs = false) := by show _ = _; unfold patsB; rw [BAD.out hp]; rfl
     have HP := Lib.hid hp
     clear hp hs' hall BAD
     go_wp2_with (go_at_call 78; refine (SB.out _).mono ?_; rintro e w' ⟨rfl, rfl⟩; rw [HP.out])
     go_ret
     exact ⟨by rw [E.out]; rfl, rfl⟩
    ·have ALL : Hid (∀ j (hj : j < xs.length), j < k + 1 → patB xs[j] = true) := by
      intro j hj hjk
      by_cases e : j < k
      ·exact hall.out j hj e
      ·obtain rfl : j = k := by omega
       rw [← hs']; exact hp
     have HP := Lib.hid hp
     clear hp hs' hall BAD
     go_wp2_with (go_at_call 78; refine (SB.out _).mono ?_; rintro e w' ⟨rfl, rfl⟩; rw [HP.out])
     exact ⟨⟨k + 1, by omega, by go_num, ALL.out⟩, by simp [intOf]; omega⟩
   ·obtain rfl : k = n := by omega
    have E : Hid (patsB xs = decide (k ≤ 20)) := by show _ = _; unfold patsB; rw [all_good (fun j hj => hall.out j hj (by omega)), hs2]; rfl
    clear hall HC HX
    by_cases h12 : k ≤ 20
    ·have h12' : (k : Int) ≤ 20 := by omega
     go_wp2
     go_ret
     exact ⟨by rw [E.out, decide_eq_true h12]; rfl, rfl⟩
    ·have h12' : ¬ (k : Int) ≤ 20 := by omega
     go_wp2
     go_ret
     exact ⟨by rw [E.out, decide_eq_false h12]; rfl, rfl⟩
set_option maxHeartbeats 2000000 in
theorem specPats_any (v : Value) (xs : List (List UInt8)) (w : World) (h : TxtS w v xs) (hx : Sh xs) : Calls Tryz.prog 52 #[v] w fun e w' => e = .returned (.bool (patsB xs)) ∧ w = w' := by
 by_cases h0 : xs.length = 0
 ·obtain rfl : xs = [] := List.eq_nil_of_length_eq_zero h0
  obtain ⟨a, cap, rfl⟩ := h.empty
  clear h h0 hx
  go_enter Tryz.func52, Tryz.ntmps52
  go_wp2
  refine wp_loop_rounds 1 ?_
  rw [rounds_succ]
  go_wp2
  go_ret
  exact ⟨rfl, rfl⟩
 ·have hsz := h.len
  obtain ⟨b, off, cap, rfl, hbl, hc⟩ := h.pos encB_pos (by omega)
  obtain ⟨n, hn⟩ : ∃ n, n = xs.length := ⟨_, rfl⟩
  have hs2 : xs.length = n := hn.symm
  rw [← hn] at hsz h0 ⊢
  have HC := Lib.hid hc
  have HX := Lib.hid hx
  clear hn hc h hx
  go_enter Tryz.func52, Tryz.ntmps52
  go_wp2
  go_loop [3] (fun i => ∃ k : Nat, k ≤ n ∧ i = .int .i64 k ∧ Hid (∀ j (hj : j < xs.length), j < k → patB xs[j] = true)) (fun i => n - (intOf i).toNat)
  case atStart => exact ⟨0, Nat.zero_le _, rfl, fun j _ h => absurd h (Nat.not_lt_zero _)⟩
  case round =>
   obtain ⟨k, hk, rfl, hall⟩ := hrel
   by_cases hlt : k < n
   ·have hk' : k < xs.length := by omega
    have c := HC.out k hk' 0 _ rfl
    have hlen := HX.out xs[k] (List.getElem_mem hk')
    have BAD := Lib.hid (fun h => all_bad (f := patB) hk' h)
    obtain ⟨s, hs'⟩ : ∃ s, s = xs[k] := ⟨_, rfl⟩
    rw [← hs'] at c hlen BAD
    have c0 : w.cell? ⟨b, off + k, none⟩ = some (.string (bs s)) := by simpa using c
    have SB := Lib.hid (fun w => specPat_any s hlen w)
    clear c
    cases hp : patB s
    ·have E : Hid (patsB xs = false) := by show _ = _; unfold patsB; rw [BAD.out hp]; rfl
     have HP := Lib.hid hp
     clear hp hs' hall BAD
     go_wp2_with (go_at_call 76; refine (SB.out _).mono ?_; rintro e w' ⟨rfl, rfl⟩; rw [HP.out])
     go_ret
     exact ⟨by rw [E.out]; rfl, rfl⟩
    ·have ALL : Hid (∀ j (hj : j < xs.length), j < k + 1 → patB xs[j] = true) := by
      intro j hj hjk
      by_cases e : j < k
      ·exact hall.out j hj e
      ·obtain rfl : j = k := by omega
       rw [← hs']; exact hp
     have HP := Lib.hid hp
     clear hp hs' hall BAD
     go_wp2_with (go_at_call 76; refine (SB.out _).mono ?_; rintro e w' ⟨rfl, rfl⟩; rw [HP.out])
     exact ⟨⟨k + 1, by omega, by go_num, ALL.out⟩, by simp [intOf]; omega⟩
   ·obtain rfl : k = n := by omega
    have E : Hid (patsB xs = decide (k ≤ 20)) := by show _ = _; unfold patsB; rw [all_good (fun j hj => hall.out j hj (by omega)), hs2]; rfl
    clear hall HC HX
    by_cases h12 : k ≤ 20
    ·have h12' : (k : Int) ≤ 20 := by omega
     go_wp2
     go_ret
     exact ⟨by rw [E.out, decide_eq_true h12]; rfl, rfl⟩
    ·have h12' : ¬ (k : Int) ≤ 20 := by omega
     go_wp2
     go_ret
     exact ⟨by rw [E.out, decide_eq_false h12]; rfl, rfl⟩
end Go.Proofs.YtofnchdijanikaaGreatDoor

/-
  PROVED HERE: what the printer's lines need, part C08. Conditions: each theorem's own.
-/
import Derived.Test.YtofnchdijanikaaGreatDoorC07
set_option linter.unusedVariables false
set_option linter.unusedSimpArgs false
set_option maxRecDepth 100000
namespace Go.Proofs.YtofnchdijanikaaGreatDoor
open Go.RowKit
set_option maxHeartbeats 4000000 in
theorem specLetters_any (p : List UInt8) (hp : patB p = true) (w : World) : Calls Tryz.prog 178 #[.string (bs p)] w fun e w' => e = .returned (.string (bs (patL p))) ∧ w = w' := by
 obtain ⟨n, hn⟩ : ∃ n, n = p.length := ⟨_, rfl⟩
 have hl : n ≤ 12 := by rw [hn]; exact pat_len hp
 have hs : (bs p).size = n := by rw [hn, bs_len]
 have hs2 : p.length = n := hn.symm
 have IX := Lib.hid (fun k (hk : k < n) => idx_byte p k (by rw [← hn]; exact hk))
 have PV := Lib.hid (fun w => specPat_any p (by omega) w)
 rw [hp] at PV
 have HN := Lib.hid hn
 clear hn hp
 go_enter Tryz.func178, Tryz.ntmps178
 go_wp2
 go_loop [3, 4] (fun sv i => ∃ k : Nat, k ≤ n ∧ sv = .string (bs (patL (p.take k))) ∧ i = .int .i64 k) (fun _ i => n - (intOf i).toNat)
 case atStart => exact ⟨0, Nat.zero_le _, rfl, rfl⟩
 case round =>
  obtain ⟨k, hk, rfl, rfl⟩ := hrel
  by_cases hlt : k < n
  ·have ix := IX.out k hlt (k : Int) rfl
   have TS := Lib.hid (take_one p k (by omega))
   have BB := bs_byte p k (by omega)
   have hpl : (patL (p.take k)).length ≤ 12 := by have := patL_le (p.take k); rw [List.length_take] at this; omega
   obtain ⟨c, hc⟩ : ∃ c, c = p.getD k 0 := ⟨_, rfl⟩
   rw [← hc] at ix TS BB
   have PS := Lib.hid (patL_snoc (p.take k) c)
   rw [← TS.out] at PS
   obtain ⟨s, hs'⟩ : ∃ s, s = patL (p.take k) := ⟨_, rfl⟩
   rw [← hs'] at PS hpl ⊢
   have hcat : ¬ 9223372036854775807 < s.length + 1 := by omega
   have hbs : (bs s).size = s.length := bs_len s
   have hb1 : (bs [c]).size = 1 := rfl
   clear TS hs' hc
   cases hdg : dgB c
   ·have P2 : Hid (patL (p.take (k + 1)) = s ++ [c]) := by show _ = _; rw [PS.out, hdg]; rfl
    have dq := dg_out hdg
    obtain ⟨m, hm⟩ : ∃ m, m = c.toNat := ⟨_, rfl⟩
    rw [← hm] at ix dq
    clear hdg PS hm
    rcases dq with dq | dq
    ·have s1 : (m : Int) < 48 := by omega
     go_wp2_with (go_at_call 76; refine (PV.out _).mono ?_; rintro e w' ⟨rfl, rfl⟩)
     exact ⟨⟨k + 1, by omega, by rw [P2.out, bs_append], by go_num⟩, by simp [intOf]; omega⟩
    ·have s1 : ¬ (m : Int) < 48 := by omega
     have s2 : 57 < (m : Int) := by omega
     go_wp2_with (go_at_call 76; refine (PV.out _).mono ?_; rintro e w' ⟨rfl, rfl⟩)
     exact ⟨⟨k + 1, by omega, by rw [P2.out, bs_append], by go_num⟩, by simp [intOf]; omega⟩
   ·have P2 : Hid (patL (p.take (k + 1)) = s) := by show _ = _; rw [PS.out, hdg]; exact List.append_nil _
    have dq := dg_not hdg
    obtain ⟨m, hm⟩ : ∃ m, m = c.toNat := ⟨_, rfl⟩
    rw [← hm] at ix dq
    have s1 : ¬ (m : Int) < 48 := by omega
    have s2 : ¬ 57 < (m : Int) := by omega
    clear hdg PS hm dq
    go_wp2_with (go_at_call 76; refine (PV.out _).mono ?_; rintro e w' ⟨rfl, rfl⟩)
    exact ⟨⟨k + 1, by omega, by rw [P2.out], by go_num⟩, by simp [intOf]; omega⟩
  ·obtain rfl : k = n := by omega
   have e : p.take k = p := by rw [← hs2]; exact List.take_length
   rw [e]
   go_wp2
   go_ret
   exact ⟨rfl, rfl⟩
set_option maxHeartbeats 4000000 in
theorem specLevels_any (p : List UInt8) (hp : patB p = true) (w : World) : Calls Tryz.prog 179 #[.string (bs p)] w (NumsPost (patV p) w) := by
 obtain ⟨n, hn⟩ : ∃ n, n = p.length := ⟨_, rfl⟩
 have hl : n ≤ 12 := by rw [hn]; exact pat_len hp
 have hs : (bs p).size = n := by rw [hn, bs_len]
 have hs2 : p.length = n := hn.symm
 have IX := Lib.hid (fun k (hk : k < n) => idx_byte p k (by rw [← hn]; exact hk))
 have PV := Lib.hid (fun w => specPat_any p (by omega) w)
 rw [hp] at PV
 have HN := Lib.hid hn
 have O0 := Lib.hid (show OwnI (w.alloc (.cells #[] 3)) w.heap.size (.slice (some ⟨w.heap.size, 0, none⟩) 0 0) (levSt (p.take 0)).1 from OwnI.made w (Nat.le_refl _))
 have B0 := Lib.hid ((Below.refl w.heap.size w).alloc (Nat.le_refl _) (.cells #[] 3))
 clear hn hp
 go_enter Tryz.func179, Tryz.ntmps179
 go_wp2
 go_loopw [3, 4, 5] (fun v lv i wr => ∃ k : Nat, k ≤ n ∧ lv = .int .i64 (levSt (p.take k)).2 ∧ i = .int .i64 k ∧ Hid (OwnI wr w.heap.size v (levSt (p.take k)).1) ∧ Hid (Below w.heap.size w wr)) (fun _ _ i _ => n - (intOf i).toNat)
 case atStart => exact ⟨0, Nat.zero_le _, rfl, rfl, O0.out, B0.out⟩
 case round =>
  obtain ⟨k, hk, rfl, rfl, ho, hb⟩ := hrel
  clear O0 B0
  have hwr := hb.out.size
  by_cases hlt : k < n
  ·have ix := IX.out k hlt (k : Int) rfl
   have TS := Lib.hid (take_one p k (by omega))
   have RL : (levSt (p.take k)).1.length ≤ 4000000 := by have := levSt_le (p.take k); rw [List.length_take] at this; omega
   obtain ⟨c, hc⟩ : ∃ c, c = p.getD k 0 := ⟨_, rfl⟩
   rw [← hc] at ix TS
   have LS := Lib.hid (levSt_snoc (p.take k) c)
   rw [← TS.out] at LS
   obtain ⟨q, hq⟩ : ∃ q, q = levSt (p.take k) := ⟨_, rfl⟩
   rw [← hq] at LS RL ho ⊢
   obtain ⟨qa, qb⟩ := q
   simp only at LS RL ho ⊢
   clear TS hq hc
   cases hdg : dgB c
   ·have P2 : Hid (levSt (p.take (k + 1)) = (qa ++ [qb], 0)) := by show _ = _; rw [LS.out, hdg]; rfl
    have dq := dg_out hdg
    obtain ⟨m, hm⟩ : ∃ m, m = c.toNat := ⟨_, rfl⟩
    rw [← hm] at ix dq
    clear hdg LS hm
    rcases dq with dq | dq
    ·have s1 : ¬ (48 : Int) ≤ (m : Int) := by omega
     go_wp2_with (first | (go_at_call 76; refine (PV.out _).mono ?_; rintro e w' ⟨rfl, rfl⟩) | (at_builtin; refine append_num w wr rfl _ _ rfl w.heap.size u3 qa qb rfl rfl ho.out RL (Nat.le_refl _) hb.out ?_; intro v' w5 hown' hbel hmv _))
     go_roundw
     case rel => exact ⟨k + 1, by omega, by rw [P2.out], by go_num, by rw [P2.out]; exact hown', hbel⟩
     case measure => simp [intOf]; omega
    ·have s1 : (48 : Int) ≤ (m : Int) := by omega
     have s2 : ¬ (m : Int) ≤ 57 := by omega
     go_wp2_with (first | (go_at_call 76; refine (PV.out _).mono ?_; rintro e w' ⟨rfl, rfl⟩) | (at_builtin; refine append_num w wr rfl _ _ rfl w.heap.size u3 qa qb rfl rfl ho.out RL (Nat.le_refl _) hb.out ?_; intro v' w5 hown' hbel hmv _))
     go_roundw
     case rel => exact ⟨k + 1, by omega, by rw [P2.out], by go_num, by rw [P2.out]; exact hown', hbel⟩
     case measure => simp [intOf]; omega
   ·have P2 : Hid (levSt (p.take (k + 1)) = (qa, (c.toNat : Int) - 48)) := by show _ = _; rw [LS.out, hdg]; rfl
    have wv := u8_sub48 c hdg
    have dq := dg_not hdg
    obtain ⟨m, hm⟩ : ∃ m, m = c.toNat := ⟨_, rfl⟩
    rw [← hm] at ix dq wv P2
    have s1 : (48 : Int) ≤ (m : Int) := by omega
    have s2 : (m : Int) ≤ 57 := by omega
    clear hdg LS hm dq
    go_wp2_with (first | (go_at_call 76; refine (PV.out _).mono ?_; rintro e w' ⟨rfl, rfl⟩))
    first
     | exact ⟨⟨k + 1, by omega, by rw [P2.out], by go_num, by rw [P2.out]; exact ho.out, hb.out⟩, by simp [intOf]; omega⟩
     | (go_roundw
        case rel => exact ⟨k + 1, by omega, by rw [P2.out], by go_num, by rw [P2.out]; exact ho.out, hb.out⟩
        case measure => simp [intOf]; omega)
  ·obtain rfl : k = n := by omega
   have e : p.take k = p := by rw [← hs2]; exact List.take_length
   rw [e] at ho ⊢
   have RL : (levSt p).1.length ≤ 4000000 := by have := levSt_le p; omega
   have PVS := Lib.hid (patV_st p)
   obtain ⟨q, hq⟩ : ∃ q, q = levSt p := ⟨_, rfl⟩
   rw [← hq] at PVS RL ho ⊢
   obtain ⟨qa, qb⟩ := q
   simp only at PVS RL ho ⊢
   clear hq e
   go_wp2_with (first | (go_at_call 76; refine (PV.out _).mono ?_; rintro e w' ⟨rfl, rfl⟩) | (at_builtin; refine append_num w wr rfl _ _ rfl w.heap.size u3 qa qb rfl rfl ho.out RL (Nat.le_refl _) hb.out ?_; intro v' w5 hown' hbel hmv _))
   go_ret
   exact ⟨_, rfl, by rw [PVS.out]; exact hown', hbel⟩
end Go.Proofs.YtofnchdijanikaaGreatDoor
namespace Go.Proofs.YtofnchdijanikaaGreatDoor
open Go.RowKit
theorem bs_inj {a b : List UInt8} (h : bs a = bs b) : a = b := by
 have := congrArg (fun s : ByteArray => s.data.toList) h
 simpa [bs] using this
theorem bs_dot (l : List UInt8) : (⟨#[46]⟩ : ByteArray) ++ bs l ++ (⟨#[46]⟩ : ByteArray) = bs (dot l) := by
 rw [show (⟨#[46]⟩ : ByteArray) = bs [46] from rfl, bs_append, bs_append]
 rfl
theorem dot_len (l : List UInt8) : (dot l).length = l.length + 2 := by simp [dot]
theorem nums_pos {w : World} {B : Nat} {v : Value} {xs : List Int} {m : Nat} (hm : m = xs.length) (hp : 0 < m) (h : OwnI w B v xs) :
  ∃ b cap, v = .slice (some ⟨b, 0, none⟩) m cap ∧ b < w.heap.size ∧ B ≤ b ∧ Hid (∀ j, j < m → w.cell? ⟨b, j, none⟩ = some (.int .i64 (xs.getD j 0))) := by
 subst hm
 unfold OwnI at h
 rcases h.2 with ⟨_, h2⟩ | ⟨g, cap, cur, rfl, hg, hb⟩
 ·omega
 ·have hl := h.lt g rfl
  refine ⟨g, cap, rfl, hl.2, hg, fun j hj => ?_⟩
  rw [h.cellAt j (by omega)]
  simp [List.getD, hj]
def LvOwn (wl : Nat) (w : World) (B g : Nat) (xs : List Int) : Prop := w.ownsRow B 3 1 (.slice (some ⟨g, 0, none⟩) (wl + 1) (wl + 1)) (wl + 1) (xs.map (Value.int .i64))
theorem LvOwn.lt {wl : Nat} {w : World} {B g : Nat} {xs : List Int} (h : LvOwn wl w B g xs) : B ≤ g ∧ g < w.heap.size := World.ownsRow.lt h g rfl
theorem LvOwn.cell {wl : Nat} {w : World} {B g : Nat} {xs : List Int} (h : LvOwn wl w B g xs) {j : Nat} (hj : j < wl + 1) : w.cell? ⟨g, j, none⟩ = some (.int .i64 (xs.getD j 0)) := by
 have hl : xs.length = wl + 1 := by have := h.1; simpa using this
 rw [World.ownsRow.cellAt h j (by omega)]
 simp [List.getD, show j < xs.length by omega]
theorem LvOwn.put {wl : Nat} {w : World} {B g : Nat} {xs : List Int} (h : LvOwn wl w B g xs) (j : Nat) (x : Int) : LvOwn wl (w.setCell ⟨g, j, none⟩ (.int .i64 x)) B g (xs.set j x) ∧ w.grownBy (w.setCell ⟨g, j, none⟩ (.int .i64 x)) (some g) := by
 have := World.ownsRow.stored h j (.int .i64 x)
 rw [show (xs.map (Value.int .i64)).set j (.int .i64 x) = (xs.set j x).map (Value.int .i64) by rw [List.map_set]] at this
 exact this
theorem made_ints (n : Nat) : (List.range n).map (fun x => (Value.int .i64 0).cells[x % (Value.int .i64 0).cells.size]!) = List.replicate n (Value.int .i64 0) := by
 have e : (fun x : Nat => (Value.int .i64 0).cells[x % (Value.int .i64 0).cells.size]!) = fun _ => Value.int .i64 0 := by
  funext x
  show (#[Value.int .i64 0])[x % 1]! = _
  rw [Nat.mod_one]
  rfl
 rw [e, List.map_const', List.length_range]
theorem put1_yes {wl : Nat} {out : List Int} {a j : Nat} {lv : Int} (h : 1 ≤ a + j ∧ a + j ≤ wl + 1) : put1 wl out a j lv = out.set (a + j - 1) (max (out.getD (a + j - 1) 0) lv) := by unfold put1; rw [if_pos h]
theorem put1_no {wl : Nat} {out : List Int} {a j : Nat} {lv : Int} (h : ¬ (1 ≤ a + j ∧ a + j ≤ wl + 1)) : put1 wl out a j lv = out := by unfold put1; rw [if_neg h]
theorem getD_eq {α : Type} (xs : List α) (d : α) (j : Nat) (h : j < xs.length) : xs.getD j d = xs[j] := by simp [List.getD, h]
set_option maxHeartbeats 16000000 in
theorem implLvs_any (word : List UInt8) (hv : wordB word = true) (pv : Value) (ps : List (List UInt8)) (hps : patsB ps = true) (w : World) (hr : TxtS w pv ps) :
  Calls Tryz.prog 188 #[.string (bs word), pv] w (NumsPost (lvs word ps) w) := by
 obtain ⟨wl, hwl⟩ : ∃ wl, wl = word.length := ⟨_, rfl⟩
 have wl20 : wl ≤ 20 := by rw [hwl]; exact (wordB_true hv).2.2
 have hs : (bs word).size = wl := by rw [hwl, bs_len]
 have hd : (bs (dot word)).size = wl + 2 := by rw [bs_len, dot_len, hwl]
 have BD := bs_dot word
 have hc1 : ¬ 9223372036854775807 < 1 + wl := by omega
 have hc2 : ¬ 9223372036854775807 < 1 + wl + 1 := by omega
 obtain ⟨i0, hi, hz0, hz1, hz2⟩ := info_parts info_int
 obtain ⟨n, hn⟩ : ∃ n, n = ps.length := ⟨_, rfl⟩
 have n20 : n ≤ 20 := by rw [hn]; exact (pats_all hps).2
 have PA := Lib.hid (fun k (hk : k < ps.length) => (pats_all hps).1 ps[k] (List.getElem_mem hk))
 have HWL := Lib.hid hwl
 have HN := Lib.hid hn
 have E0 : Hid (lvsTo word ps 0 = List.replicate (wl + 1) 0) := by show _ = _; rw [lvsTo, hwl]
 have GD := Lib.hid (lvsTo_good word ps)
 by_cases h0 : n = 0
 ·obtain rfl : ps = [] := List.eq_nil_of_length_eq_zero (by rw [← hn]; exact h0)
  obtain ⟨a, cap, rfl⟩ := hr.empty
  clear hr h0 hn HN PA hwl GD
  go_enter Tryz.func188, Tryz.ntmps188
  go_wp2_with (at_make; refine wpList_make_full _ rfl _ _ 72 rfl w.heap.size 3 i0 (.int .i64 0) 1 Tryz.underlying72 hi hz0 hz1 .i64 .i64 _ _ (wl + 1) rfl rfl rfl rfl (by rw [hz2]; omega) (by unfold maxLen; omega) (Nat.le_refl _) ?_; intro w1 hown1 hgrow1)
  have OW := Lib.hid hown1
  have HG := Lib.hid hgrow1
  clear hown1 hgrow1
  refine wp_loop_rounds 1 ?_
  rw [rounds_succ]
  go_wp2
  go_ret
  refine ⟨_, rfl, ?_, below_of_grown HG.out (Nat.le_refl _)⟩
  show OwnI _ _ _ (lvsTo word [] 0)
  rw [E0.out]
  unfold OwnI
  simpa [madeCells, made_ints] using OW.out
 ·obtain ⟨b, off, cap, rfl, hbl, hc⟩ := txt_pos hr (by omega)
  rw [← hn] at hc ⊢
  have HC := Lib.hid hc
  have Dn : Hid (∀ k, k < n → k < ps.length) := by intro k hk; have := HN.out; omega
  obtain ⟨g, hg⟩ : ∃ g, g = w.heap.size := ⟨_, rfl⟩
  clear hc hr hn hwl
  go_enter Tryz.func188, Tryz.ntmps188
  go_wp2_with (at_make; refine wpList_make_full _ rfl _ _ 72 rfl w.heap.size 3 i0 (.int .i64 0) 1 Tryz.underlying72 hi hz0 hz1 .i64 .i64 _ _ (wl + 1) rfl rfl rfl rfl (by rw [hz2]; omega) (by unfold maxLen; omega) (Nat.le_refl _) ?_; intro w1 hown1 hgrow1)
  have O1 : Hid (LvOwn wl w1 w.heap.size g (lvsTo word ps 0)) := by
   show LvOwn _ _ _ _ _
   rw [E0.out, hg]
   unfold LvOwn
   simpa [madeCells, made_ints] using hown1
  have B1 := Lib.hid (below_of_grown hgrow1 (Nat.le_refl w.heap.size))
  rw [← hg]
  have hgw : w.heap.size ≤ g := by omega
  clear hown1 hgrow1 hg
  go_loopw [24] (fun i wr => ∃ k : Nat, k ≤ n ∧ i = .int .i64 k ∧ Hid (LvOwn wl wr w.heap.size g (lvsTo word ps k)) ∧ Hid (Below w.heap.size w wr)) (fun i _ => n - (intOf i).toNat)
  case atStart => exact ⟨0, Nat.zero_le _, rfl, O1.out, B1.out⟩
  case round =>
   obtain ⟨k, hk, rfl, ho, hb⟩ := hrel
   clear O1 B1
   by_cases hlt : k < n
   ·have hk' := Dn.out k hlt
    have c0 : wr.cell? ⟨b, off + k, none⟩ = some (.string (bs (ps.getD k []))) := (hb.out.cell (p := ⟨b, off + k, none⟩) hbl).trans (HC.out k hlt)
    have hpB := PA.out k hk'
    rw [← getD_eq ps [] k hk'] at hpB
    have LSc : Hid (lvsTo word ps (k + 1) = runP word (ps.getD k []) (lvsTo word ps k)) := rfl
    have GDk := GD.out k
    obtain ⟨p, hp⟩ : ∃ p, p = ps.getD k [] := ⟨_, rfl⟩
    rw [← hp] at c0 hpB LSc
    have PP := Lib.hid (fun w => implParts_any p hpB w)
    obtain ⟨Z, hZ⟩ : ∃ Z, Z = lvsTo word ps k := ⟨_, rfl⟩
    rw [← hZ] at LSc GDk ho
    have GZ := Lib.hid GDk
    obtain ⟨q, hq⟩ : ∃ q, q = (patL p).length := ⟨_, rfl⟩
    have q12 : q ≤ 12 := by have := patL_le p; have := pat_len hpB; omega
    have hlv : q + 1 = (patV p).length := by rw [patV_len, hq]
    have HLV := Lib.hid hlv
    have hsq : (bs (patL p)).size = q := by rw [bs_len, hq]
    have RP : Hid (runP word p Z = runTo word p Z (wl + 2 + 1 - q)) := by show _ = _; unfold runP; rw [dot_len, ← HWL.out, hq]
    have HQ := Lib.hid hq
    clear hp hZ GDk hq hlv hpB hk'
    go_wp2_with (first | (go_at_call 193; refine (PP.out _).mono ?_; rintro e w2 ⟨lv, rfl, hlo, hbw⟩; obtain ⟨lb, lcap, rfl, hll, hlg, LC⟩ := nums_pos HLV.out (Nat.succ_pos q) hlo))
    have O2 : Hid (LvOwn wl w2 w.heap.size g (runTo word p Z 0)) := owns_below ho.out hbw
    have B2 := Lib.hid (below_next hb.out hbw (Nat.le_refl _))
    have gne : g ≠ lb := by have := ho.out.lt; omega
    clear ho hb hbw hlo
    go_loopw [11] (fun ai wr => ∃ a : Nat, a ≤ wl + 3 - q ∧ ai = .int .i64 a ∧ Hid (LvOwn wl wr w.heap.size g (runTo word p Z a)) ∧ Hid (Below w.heap.size w wr) ∧ Hid (∀ j, j < q + 1 → wr.cell? ⟨lb, j, none⟩ = some (.int .i64 ((patV p).getD j 0)))) (fun ai _ => wl + 3 - q - (intOf ai).toNat)
    case atStart => exact ⟨0, Nat.zero_le _, rfl, O2.out, B2.out, LC.out⟩
    case round =>
     obtain ⟨a, ha, rfl, ho, hb, hl⟩ := hrel
     clear O2 B2 LC
     by_cases hal : a < wl + 3 - q
     ·have haq : ((a : Int) + (q : Int)) ≤ (wl : Int) + 2 := by omega
      have haq2 : a + q ≤ wl + 2 := by omega
      have SLI := bs_sub (dot word) a (a + q)
      rw [Nat.add_sub_cancel_left] at SLI
      have FT : Hid (fits word p a = (((dot word).drop a).take q == patL p)) := by show _ = _; unfold fits; rw [← HQ.out]
      have RS : Hid (runTo word p Z (a + 1) = if fits word p a = true then putL wl (runTo word p Z a) a (patV p) else runTo word p Z a) := by show _ = _; rw [HWL.out]; rfl
      have GR := Lib.hid (runTo_good (p := p) GZ.out a)
      obtain ⟨F, hF⟩ : ∃ F, F = ((dot word).drop a).take q := ⟨_, rfl⟩
      rw [← hF] at SLI FT
      obtain ⟨Y, hY⟩ : ∃ Y, Y = runTo word p Z a := ⟨_, rfl⟩
      rw [← hY] at RS GR ho
      clear hF hY
      cases hf : fits word p a
      ·have cmp3 : (F == patL p) = false := by rw [← FT.out]; exact hf
       have RS2 : Hid (runTo word p Z (a + 1) = Y) := by show _ = _; rw [RS.out, hf]; rfl
       clear hf RS FT
       go_wp2_with fail
       first
        | exact ⟨⟨a + 1, by omega, by go_num, by rw [RS2.out]; exact ho.out, hb.out, hl.out⟩, by simp [intOf]; omega⟩
        | (go_roundw
           case rel => exact ⟨a + 1, by omega, by go_num, by rw [RS2.out]; exact ho.out, hb.out, hl.out⟩
           case measure => simp [intOf]; omega)
      ·have cmp0 : F = patL p := by
        have := FT.out
        rw [hf] at this
        exact (beq_iff_eq.1 this.symm)
       have cmp3 : (F == patL p) = true := by rw [cmp0]; exact beq_self_eq_true _
       have RS2 : Hid (runTo word p Z (a + 1) = putTo wl Y a (patV p) (q + 1)) := by show _ = _; rw [RS.out, hf, HLV.out]; rfl
       have O3 : Hid (LvOwn wl wr w.heap.size g (putTo wl Y a (patV p) 0)) := ho.out
       have B3 := Lib.hid hb.out
       have L3 := Lib.hid hl.out
       clear hf RS FT ho hb hl cmp0
       go_wp2_with fail
       clear SLI cmp3
       go_loopw [53] (fun ji wr => ∃ j : Nat, j ≤ q + 1 ∧ ji = .int .i64 j ∧ Hid (LvOwn wl wr w.heap.size g (putTo wl Y a (patV p) j)) ∧ Hid (Below w.heap.size w wr) ∧ Hid (∀ j, j < q + 1 → wr.cell? ⟨lb, j, none⟩ = some (.int .i64 ((patV p).getD j 0)))) (fun ji _ => q + 1 - (intOf ji).toNat)
       case atStart => exact ⟨0, Nat.zero_le _, rfl, O3.out, B3.out, L3.out⟩
       case round =>
        obtain ⟨j, hj, rfl, ho, hb, hl⟩ := hrel
        clear O3 B3 L3
        by_cases hlj : j < q + 1
        ·have hlj' : (j : Int) < (q : Int) + 1 := by omega
         have c1 := hl.out j hlj
         have lvb := getD_bd (patV_bd p) j
         have PT : Hid (putTo wl Y a (patV p) (j + 1) = put1 wl (putTo wl Y a (patV p) j) a j ((patV p).getD j 0)) := rfl
         have GY := Lib.hid (putTo_good (a := a) GR.out (patV_bd p) j)
         obtain ⟨lv, hlv⟩ : ∃ lv, lv = (patV p).getD j 0 := ⟨_, rfl⟩
         rw [← hlv] at c1 lvb PT
         obtain ⟨X, hX⟩ : ∃ X, X = putTo wl Y a (patV p) j := ⟨_, rfl⟩
         have PT2 := PT.out
         have ho2 := ho.out
         have gy2 := GY.out
         rw [HWL.out.symm] at gy2
         rw [← hX] at PT2 ho2 gy2
         obtain ⟨lv1, lv2⟩ := lvb
         clear hlv hX PT GY ho
         by_cases hin : 1 ≤ a + j ∧ a + j ≤ wl + 1
         ·obtain ⟨P, hP⟩ : ∃ P, a + j = P + 1 := ⟨a + j - 1, by omega⟩
          have hP1 : (a : Int) + (j : Int) - 1 = (P : Int) := by omega
          have hP2 : P < wl + 1 := by omega
          have hP3 : (P : Int) < (wl : Int) + 1 := by omega
          have IN : Hid (inB (P : Int) 0 (wl : Int) = true) := inB_yes (by omega) (by omega)
          have e1 := ho2.cell hP2
          have z1 := World.ownsRow.frozenAt ho2 P
          have xb := getD_bd gy2.2 P
          rw [put1_yes hin, show a + j - 1 = P by omega] at PT2
          obtain ⟨x, hx⟩ : ∃ x, x = X.getD P 0 := ⟨_, rfl⟩
          rw [← hx] at e1 xb PT2
          have ST := ho2.put P (max x lv)
          rw [← PT2] at ST
          have hgl := ho2.lt
          have lbl : lb < wr.heap.size := by
           have := hl.out 0 (by omega)
           exact World.block_lt_of_cell? wr _ this
          have KL : Hid (∀ j, j < q + 1 → (wr.setCell ⟨g, P, none⟩ (.int .i64 (max x lv))).cell? ⟨lb, j, none⟩ = some (.int .i64 ((patV p).getD j 0))) := fun j hj => by
           rw [World.cell?_of_block (ST.2.block lb lbl (fun e => gne (Option.some.inj e).symm))]
           exact hl.out j hj
          have BF := Lib.hid (hb.out.grown ST.2 hb.out.size (fun j hj => by cases hj; exact hgw))
          have STO := Lib.hid ST.1
          obtain ⟨xb1, xb2⟩ := xb
          clear PT2 ST ho2 gy2 hx hin hP hl hb
          go_wp2_with (go_at_call 57; refine (in_any _ _ _ _).mono ?_; rintro e w' ⟨rfl, rfl⟩; rw [IN.out])
          first
           | exact ⟨⟨j + 1, by omega, by go_num, STO.out, BF.out, KL.out⟩, by simp [intOf]; omega⟩
           | (go_roundw
              case rel => exact ⟨j + 1, by omega, by go_num, STO.out, BF.out, KL.out⟩
              case measure => simp [intOf]; omega)
         ·have IN : Hid (inB ((a : Int) + (j : Int) - 1) 0 (wl : Int) = false) := inB_no (by omega)
          rw [put1_no hin] at PT2
          have STO : Hid (LvOwn wl wr w.heap.size g (putTo wl Y a (patV p) (j + 1))) := by show LvOwn _ _ _ _ _; rw [PT2]; exact ho2
          clear PT2 ho2 gy2 hin
          go_wp2_with (go_at_call 57; refine (in_any _ _ _ _).mono ?_; rintro e w' ⟨rfl, rfl⟩; rw [IN.out])
          first
           | exact ⟨⟨j + 1, by omega, by go_num, STO.out, hb.out, hl.out⟩, by simp [intOf]; omega⟩
           | (go_roundw
              case rel => exact ⟨j + 1, by omega, by go_num, STO.out, hb.out, hl.out⟩
              case measure => simp [intOf]; omega)
        ·obtain rfl : j = q + 1 := by omega
         have hlj' : ¬ (((q + 1 : Nat) : Int) < (q : Int) + 1) := by omega
         go_wp2_with fail
         first
          | exact ⟨⟨a + 1, by omega, by go_num, by rw [RS2.out]; exact ho.out, hb.out, hl.out⟩, by simp [intOf]; omega⟩
          | (go_roundw
             case rel => exact ⟨a + 1, by omega, by go_num, by rw [RS2.out]; exact ho.out, hb.out, hl.out⟩
             case measure => simp [intOf]; omega)
     ·have haq : ¬ ((a : Int) + (q : Int)) ≤ (wl : Int) + 2 := by omega
      obtain rfl : a = wl + 3 - q := by omega
      have ho2 := ho.out
      rw [show wl + 3 - q = wl + 2 + 1 - q by omega, ← RP.out, ← LSc.out] at ho2
      have HO := Lib.hid ho2
      clear ho ho2
      go_wp2_with fail
      first
       | exact ⟨⟨k + 1, by omega, by go_num, HO.out, hb.out⟩, by simp [intOf]; omega⟩
       | (go_roundw
          case rel => exact ⟨k + 1, by omega, by go_num, HO.out, hb.out⟩
          case measure => simp [intOf]; omega)
   ·obtain rfl : k = n := by omega
    have LE : Hid (lvsTo word ps k = lvs word ps) := by show _ = _; unfold lvs; rw [← HN.out]
    rw [LE.out] at ho
    have GL := Lib.hid (lvs_good word ps).1
    go_wp2_with fail
    go_ret
    refine ⟨_, rfl, ?_, hb.out⟩
    unfold OwnI
    rw [GL.out, ← HWL.out]
    exact ho.out
end Go.Proofs.YtofnchdijanikaaGreatDoor
namespace Go.Proofs.YtofnchdijanikaaGreatDoor
open Go.RowKit
set_option maxHeartbeats 16000000 in
theorem specLvs_any (word : List UInt8) (hv : wordB word = true) (pv : Value) (ps : List (List UInt8)) (hps : patsB ps = true) (w : World) (hr : TxtS w pv ps) :
  Calls Tryz.prog 157 #[.string (bs word), pv] w (NumsPost (lvs word ps) w) := by
 have WV := Lib.hid (fun w => specWord_any word (by have := (wordB_true hv).2.2; omega) w)
 rw [hv] at WV
 obtain ⟨wl, hwl⟩ : ∃ wl, wl = word.length := ⟨_, rfl⟩
 have wl20 : wl ≤ 20 := by rw [hwl]; exact (wordB_true hv).2.2
 have hs : (bs word).size = wl := by rw [hwl, bs_len]
 have hd : (bs (dot word)).size = wl + 2 := by rw [bs_len, dot_len, hwl]
 have BD := bs_dot word
 have hc1 : ¬ 9223372036854775807 < 1 + wl := by omega
 have hc2 : ¬ 9223372036854775807 < 1 + wl + 1 := by omega
 obtain ⟨i0, hi, hz0, hz1, hz2⟩ := info_parts info_int
 obtain ⟨n, hn⟩ : ∃ n, n = ps.length := ⟨_, rfl⟩
 have n20 : n ≤ 20 := by rw [hn]; exact (pats_all hps).2
 have PA := Lib.hid (fun k (hk : k < ps.length) => (pats_all hps).1 ps[k] (List.getElem_mem hk))
 have HWL := Lib.hid hwl
 have HN := Lib.hid hn
 have E0 : Hid (lvsTo word ps 0 = List.replicate (wl + 1) 0) := by show _ = _; rw [lvsTo, hwl]
 have GD := Lib.hid (lvsTo_good word ps)
 by_cases h0 : n = 0
 ·obtain rfl : ps = [] := List.eq_nil_of_length_eq_zero (by rw [← hn]; exact h0)
  obtain ⟨a, cap, rfl⟩ := hr.empty
  have PVV := Lib.hid (specPats_any _ [] w hr (sh_of_pats hps))
  rw [hps] at PVV
  clear hr h0 hn HN PA hwl GD
  go_enter Tryz.func157, Tryz.ntmps157
  go_wp2_with (first | (go_at_call 75; refine (WV.out _).mono ?_; rintro e w' ⟨rfl, rfl⟩) | (go_at_call 52; refine PVV.out.mono ?_; rintro e w' ⟨rfl, rfl⟩) | (at_make; refine wpList_make_full _ rfl _ _ 72 rfl w.heap.size 3 i0 (.int .i64 0) 1 Tryz.underlying72 hi hz0 hz1 .i64 .i64 _ _ (wl + 1) rfl rfl rfl rfl (by rw [hz2]; omega) (by unfold maxLen; omega) (Nat.le_refl _) ?_; intro w1 hown1 hgrow1))
  have OW := Lib.hid hown1
  have HG := Lib.hid hgrow1
  clear hown1 hgrow1
  refine wp_loop_rounds 1 ?_
  rw [rounds_succ]
  go_wp2
  go_ret
  refine ⟨_, rfl, ?_, below_of_grown HG.out (Nat.le_refl _)⟩
  show OwnI _ _ _ (lvsTo word [] 0)
  rw [E0.out]
  unfold OwnI
  simpa [madeCells, made_ints] using OW.out
 ·obtain ⟨b, off, cap, rfl, hbl, hc⟩ := txt_pos hr (by omega)
  have PVV := Lib.hid (specPats_any _ ps w hr (sh_of_pats hps))
  rw [hps] at PVV
  rw [← hn] at hc PVV ⊢
  have HC := Lib.hid hc
  have Dn : Hid (∀ k, k < n → k < ps.length) := by intro k hk; have := HN.out; omega
  obtain ⟨g, hg⟩ : ∃ g, g = w.heap.size := ⟨_, rfl⟩
  clear hc hr hn hwl
  go_enter Tryz.func157, Tryz.ntmps157
  go_wp2_with (first | (go_at_call 75; refine (WV.out _).mono ?_; rintro e w' ⟨rfl, rfl⟩) | (go_at_call 52; refine PVV.out.mono ?_; rintro e w' ⟨rfl, rfl⟩) | (at_make; refine wpList_make_full _ rfl _ _ 72 rfl w.heap.size 3 i0 (.int .i64 0) 1 Tryz.underlying72 hi hz0 hz1 .i64 .i64 _ _ (wl + 1) rfl rfl rfl rfl (by rw [hz2]; omega) (by unfold maxLen; omega) (Nat.le_refl _) ?_; intro w1 hown1 hgrow1))
  have O1 : Hid (LvOwn wl w1 w.heap.size g (lvsTo word ps 0)) := by
   show LvOwn _ _ _ _ _
   rw [E0.out, hg]
   unfold LvOwn
   simpa [madeCells, made_ints] using hown1
  have B1 := Lib.hid (below_of_grown hgrow1 (Nat.le_refl w.heap.size))
  rw [← hg]
  have hgw : w.heap.size ≤ g := by omega
  clear hown1 hgrow1 hg
  go_loopw [7] (fun i wr => ∃ k : Nat, k ≤ n ∧ i = .int .i64 k ∧ Hid (LvOwn wl wr w.heap.size g (lvsTo word ps k)) ∧ Hid (Below w.heap.size w wr)) (fun i _ => n - (intOf i).toNat)
  case atStart => exact ⟨0, Nat.zero_le _, rfl, O1.out, B1.out⟩
  case round =>
   obtain ⟨k, hk, rfl, ho, hb⟩ := hrel
   clear O1 B1
   by_cases hlt : k < n
   ·have hk' := Dn.out k hlt
    have c0 : wr.cell? ⟨b, off + k, none⟩ = some (.string (bs (ps.getD k []))) := (hb.out.cell (p := ⟨b, off + k, none⟩) hbl).trans (HC.out k hlt)
    have hpB := PA.out k hk'
    rw [← getD_eq ps [] k hk'] at hpB
    have LSc : Hid (lvsTo word ps (k + 1) = runP word (ps.getD k []) (lvsTo word ps k)) := rfl
    have GDk := GD.out k
    obtain ⟨p, hp⟩ : ∃ p, p = ps.getD k [] := ⟨_, rfl⟩
    rw [← hp] at c0 hpB LSc
    have PL := Lib.hid (fun w => specLetters_any p hpB w)
    have PP := Lib.hid (fun w => specLevels_any p hpB w)
    obtain ⟨Z, hZ⟩ : ∃ Z, Z = lvsTo word ps k := ⟨_, rfl⟩
    rw [← hZ] at LSc GDk ho
    have GZ := Lib.hid GDk
    obtain ⟨q, hq⟩ : ∃ q, q = (patL p).length := ⟨_, rfl⟩
    have q12 : q ≤ 12 := by have := patL_le p; have := pat_len hpB; omega
    have hlv : q + 1 = (patV p).length := by rw [patV_len, hq]
    have HLV := Lib.hid hlv
    have hsq : (bs (patL p)).size = q := by rw [bs_len, hq]
    have RP : Hid (runP word p Z = runTo word p Z (wl + 2 + 1 - q)) := by show _ = _; unfold runP; rw [dot_len, ← HWL.out, hq]
    have HQ := Lib.hid hq
    clear hp hZ GDk hq hlv hpB hk'
    go_wp2_with (first | (go_at_call 178; refine (PL.out _).mono ?_; rintro e w' ⟨rfl, rfl⟩) | (go_at_call 179; refine (PP.out _).mono ?_; rintro e w2 ⟨lv, rfl, hlo, hbw⟩; obtain ⟨lb, lcap, rfl, hll, hlg, LC⟩ := nums_pos HLV.out (Nat.succ_pos q) hlo))
    have O2 : Hid (LvOwn wl w2 w.heap.size g (runTo word p Z 0)) := owns_below ho.out hbw
    have B2 := Lib.hid (below_next hb.out hbw (Nat.le_refl _))
    have gne : g ≠ lb := by have := ho.out.lt; omega
    clear ho hb hbw hlo
    go_loopw [10] (fun ai wr => ∃ a : Nat, a ≤ wl + 3 - q ∧ ai = .int .i64 a ∧ Hid (LvOwn wl wr w.heap.size g (runTo word p Z a)) ∧ Hid (Below w.heap.size w wr) ∧ Hid (∀ j, j < q + 1 → wr.cell? ⟨lb, j, none⟩ = some (.int .i64 ((patV p).getD j 0)))) (fun ai _ => wl + 3 - q - (intOf ai).toNat)
    case atStart => exact ⟨0, Nat.zero_le _, rfl, O2.out, B2.out, LC.out⟩
    case round =>
     obtain ⟨a, ha, rfl, ho, hb, hl⟩ := hrel
     clear O2 B2 LC
     by_cases hal : a < wl + 3 - q
     ·have haq : ((a : Int) + (q : Int)) ≤ (wl : Int) + 2 := by omega
      have haq2 : a + q ≤ wl + 2 := by omega
      have SLI := bs_sub (dot word) a (a + q)
      rw [Nat.add_sub_cancel_left] at SLI
      have FT : Hid (fits word p a = (((dot word).drop a).take q == patL p)) := by show _ = _; unfold fits; rw [← HQ.out]
      have RS : Hid (runTo word p Z (a + 1) = if fits word p a = true then putL wl (runTo word p Z a) a (patV p) else runTo word p Z a) := by show _ = _; rw [HWL.out]; rfl
      have GR := Lib.hid (runTo_good (p := p) GZ.out a)
      obtain ⟨F, hF⟩ : ∃ F, F = ((dot word).drop a).take q := ⟨_, rfl⟩
      rw [← hF] at SLI FT
      obtain ⟨Y, hY⟩ : ∃ Y, Y = runTo word p Z a := ⟨_, rfl⟩
      rw [← hY] at RS GR ho
      clear hF hY
      cases hf : fits word p a
      ·have cmp3 : (F == patL p) = false := by rw [← FT.out]; exact hf
       have RS2 : Hid (runTo word p Z (a + 1) = Y) := by show _ = _; rw [RS.out, hf]; rfl
       clear hf RS FT
       go_wp2_with fail
       first
        | exact ⟨⟨a + 1, by omega, by go_num, by rw [RS2.out]; exact ho.out, hb.out, hl.out⟩, by simp [intOf]; omega⟩
        | (go_roundw
           case rel => exact ⟨a + 1, by omega, by go_num, by rw [RS2.out]; exact ho.out, hb.out, hl.out⟩
           case measure => simp [intOf]; omega)
      ·have cmp0 : F = patL p := by
        have := FT.out
        rw [hf] at this
        exact (beq_iff_eq.1 this.symm)
       have cmp3 : (F == patL p) = true := by rw [cmp0]; exact beq_self_eq_true _
       have RS2 : Hid (runTo word p Z (a + 1) = putTo wl Y a (patV p) (q + 1)) := by show _ = _; rw [RS.out, hf, HLV.out]; rfl
       have O3 : Hid (LvOwn wl wr w.heap.size g (putTo wl Y a (patV p) 0)) := ho.out
       have B3 := Lib.hid hb.out
       have L3 := Lib.hid hl.out
       clear hf RS FT ho hb hl cmp0
       go_wp2_with fail
       clear SLI cmp3
       go_loopw [11] (fun ji wr => ∃ j : Nat, j ≤ q + 1 ∧ ji = .int .i64 j ∧ Hid (LvOwn wl wr w.heap.size g (putTo wl Y a (patV p) j)) ∧ Hid (Below w.heap.size w wr) ∧ Hid (∀ j, j < q + 1 → wr.cell? ⟨lb, j, none⟩ = some (.int .i64 ((patV p).getD j 0)))) (fun ji _ => q + 1 - (intOf ji).toNat)
       case atStart => exact ⟨0, Nat.zero_le _, rfl, O3.out, B3.out, L3.out⟩
       case round =>
        obtain ⟨j, hj, rfl, ho, hb, hl⟩ := hrel
        clear O3 B3 L3
        by_cases hlj : j < q + 1
        ·have hlj' : (j : Int) < (q : Int) + 1 := by omega
         have c1 := hl.out j hlj
         have lvb := getD_bd (patV_bd p) j
         have PT : Hid (putTo wl Y a (patV p) (j + 1) = put1 wl (putTo wl Y a (patV p) j) a j ((patV p).getD j 0)) := rfl
         have GY := Lib.hid (putTo_good (a := a) GR.out (patV_bd p) j)
         obtain ⟨lv, hlv⟩ : ∃ lv, lv = (patV p).getD j 0 := ⟨_, rfl⟩
         rw [← hlv] at c1 lvb PT
         obtain ⟨X, hX⟩ : ∃ X, X = putTo wl Y a (patV p) j := ⟨_, rfl⟩
         have PT2 := PT.out
         have ho2 := ho.out
         have gy2 := GY.out
         rw [HWL.out.symm] at gy2
         rw [← hX] at PT2 ho2 gy2
         obtain ⟨lv1, lv2⟩ := lvb
         clear hlv hX PT GY ho
         by_cases hin : 1 ≤ a + j ∧ a + j ≤ wl + 1
         ·obtain ⟨P, hP⟩ : ∃ P, a + j = P + 1 := ⟨a + j - 1, by omega⟩
          have hP1 : (a : Int) + (j : Int) - 1 = (P : Int) := by omega
          have hP2 : P < wl + 1 := by omega
          have hP3 : (P : Int) < (wl : Int) + 1 := by omega
          have IN : Hid (inB (P : Int) 0 (wl : Int) = true) := inB_yes (by omega) (by omega)
          have e1 := ho2.cell hP2
          have z1 := World.ownsRow.frozenAt ho2 P
          have xb := getD_bd gy2.2 P
          rw [put1_yes hin, show a + j - 1 = P by omega] at PT2
          obtain ⟨x, hx⟩ : ∃ x, x = X.getD P 0 := ⟨_, rfl⟩
          rw [← hx] at e1 xb PT2
          have ho3 : LvOwn wl wr.drew w.heap.size g X := ho2
          have ST := ho3.put P (max x lv)
          rw [← PT2] at ST
          have hgl := ho2.lt
          have lbl : lb < wr.heap.size := by
           have := hl.out 0 (by omega)
           exact World.block_lt_of_cell? wr _ this
          have KL : Hid (∀ j, j < q + 1 → (wr.drew.setCell ⟨g, P, none⟩ (.int .i64 (max x lv))).cell? ⟨lb, j, none⟩ = some (.int .i64 ((patV p).getD j 0))) := fun j hj => by
           rw [World.cell?_of_block (ST.2.block lb lbl (fun e => gne (Option.some.inj e).symm))]
           exact hl.out j hj
          have BF := Lib.hid (hb.out.drew.grown ST.2 hb.out.size (fun j hj => by cases hj; exact hgw))
          have STO := Lib.hid ST.1
          obtain ⟨xb1, xb2⟩ := xb
          clear PT2 ST ho3 ho2 gy2 hx hin hP hl hb
          go_wp2_with (go_at_call 34; refine (l1In_any _ _ _ _).mono ?_; rintro e w' ⟨rfl, rfl⟩; rw [IN.out])
          go_still_tail 12, (by kernel_rfl)
          change wpList _ _ _ _ _ wr.drew
          go_wp2_with fail
          first
           | exact ⟨⟨j + 1, by omega, by go_num, STO.out, BF.out, KL.out⟩, by simp [intOf]; omega⟩
           | (go_roundw
              case rel => exact ⟨j + 1, by omega, by go_num, STO.out, BF.out, KL.out⟩
              case measure => simp [intOf]; omega)
         ·have IN : Hid (inB ((a : Int) + (j : Int) - 1) 0 (wl : Int) = false) := inB_no (by omega)
          rw [put1_no hin] at PT2
          have STO : Hid (LvOwn wl wr w.heap.size g (putTo wl Y a (patV p) (j + 1))) := by show LvOwn _ _ _ _ _; rw [PT2]; exact ho2
          clear PT2 ho2 gy2 hin
          go_wp2_with (go_at_call 34; refine (l1In_any _ _ _ _).mono ?_; rintro e w' ⟨rfl, rfl⟩; rw [IN.out])
          first
           | exact ⟨⟨j + 1, by omega, by go_num, STO.out, hb.out, hl.out⟩, by simp [intOf]; omega⟩
           | (go_roundw
              case rel => exact ⟨j + 1, by omega, by go_num, STO.out, hb.out, hl.out⟩
              case measure => simp [intOf]; omega)
        ·obtain rfl : j = q + 1 := by omega
         have hlj' : ¬ (((q + 1 : Nat) : Int) < (q : Int) + 1) := by omega
         go_wp2_with fail
         first
          | exact ⟨⟨a + 1, by omega, by go_num, by rw [RS2.out]; exact ho.out, hb.out, hl.out⟩, by simp [intOf]; omega⟩
          | (go_roundw
             case rel => exact ⟨a + 1, by omega, by go_num, by rw [RS2.out]; exact ho.out, hb.out, hl.out⟩
             case measure => simp [intOf]; omega)
     ·have haq : ¬ ((a : Int) + (q : Int)) ≤ (wl : Int) + 2 := by omega
      obtain rfl : a = wl + 3 - q := by omega
      have ho2 := ho.out
      rw [show wl + 3 - q = wl + 2 + 1 - q by omega, ← RP.out, ← LSc.out] at ho2
      have HO := Lib.hid ho2
      clear ho ho2
      go_wp2_with fail
      first
       | exact ⟨⟨k + 1, by omega, by go_num, HO.out, hb.out⟩, by simp [intOf]; omega⟩
       | (go_roundw
          case rel => exact ⟨k + 1, by omega, by go_num, HO.out, hb.out⟩
          case measure => simp [intOf]; omega)
   ·obtain rfl : k = n := by omega
    have LE : Hid (lvsTo word ps k = lvs word ps) := by show _ = _; unfold lvs; rw [← HN.out]
    rw [LE.out] at ho
    have GL := Lib.hid (lvs_good word ps).1
    go_wp2_with fail
    go_ret
    refine ⟨_, rfl, ?_, hb.out⟩
    unfold OwnI
    rw [GL.out, ← HWL.out]
    exact ho.out
end Go.Proofs.YtofnchdijanikaaGreatDoor

/-
  PROVED HERE: what the printer's lines need, part C09. Conditions: each theorem's own.
-/
import Derived.Test.YtofnchdijanikaaGreatDoorC08
set_option linter.unusedVariables false
set_option linter.unusedSimpArgs false
set_option maxRecDepth 100000
namespace Go.Proofs.YtofnchdijanikaaGreatDoor
open Go.RowKit
def placeTo (word : List UInt8) (ps : List (List UInt8)) (k : Nat) : List Nat := (List.range k).filter fun k => (lvs word ps).getD k 0 % 2 == 1 && (decide (2 ≤ k) && decide (k + 3 ≤ word.length))
theorem placeTo_succ (word : List UInt8) (ps : List (List UInt8)) (k : Nat) : placeTo word ps (k + 1) = placeTo word ps k ++ (if ((lvs word ps).getD k 0 % 2 == 1 && (decide (2 ≤ k) && decide (k + 3 ≤ word.length))) = true then [k] else []) := by
 unfold placeTo
 rw [List.range_succ, List.filter_append]
 congr 1
 rw [List.filter_cons, List.filter_nil]
theorem placeTo_len (word : List UInt8) (ps : List (List UInt8)) (k : Nat) : (placeTo word ps k).length ≤ k := by
 unfold placeTo
 exact Nat.le_trans (List.length_filter_le _ _) (by simp)
theorem placeTo_two (word : List UInt8) (ps : List (List UInt8)) : placeTo word ps 2 = [] := by
 rw [placeTo_succ, placeTo_succ]
 simp [placeTo]
theorem placeTo_end (word : List UInt8) (ps : List (List UInt8)) (k : Nat) (h : word.length < k + 3) : ∀ d, placeTo word ps (k + d) = placeTo word ps k
 | 0 => rfl
 | d + 1 => by
  show placeTo word ps (k + d + 1) = _
  rw [placeTo_succ, placeTo_end word ps k h d, decide_eq_false (show ¬ k + d + 3 ≤ word.length by omega)]
  simp
def ints (l : List Nat) : List Int := l.map fun n : Nat => (n : Int)
theorem ints_app (a b : List Nat) : ints (a ++ b) = ints a ++ ints b := by simp [ints]
theorem kept_cells {w w' : World} {v : Value} {b m : Nat} {xs : List Int} (hg : w.grownBy w' v.ownBlock) (hb : b < w.heap.size) (hne : some b ≠ v.ownBlock) (h : ∀ j, j < m → w.cell? ⟨b, j, none⟩ = some (.int .i64 (xs.getD j 0))) : ∀ j, j < m → w'.cell? ⟨b, j, none⟩ = some (.int .i64 (xs.getD j 0)) := fun j hj => by
 rw [World.cell?_of_block (hg.block b hb hne)]
 exact h j hj
theorem implLevels_any (word : List UInt8) (hv : wordB word = true) (pv : Value) (ps : List (List UInt8)) (hps : patsB ps = true) (w : World) (hr : TxtS w pv ps) :
  Calls Tryz.prog 180 #[.string (bs word), pv] w (NumsPost (lvs word ps) w) := by
 have WV := Lib.hid (fun w => implWord_any word (by have := (wordB_true hv).2.2; omega) w)
 rw [hv] at WV
 have PVV := Lib.hid (implPats_any pv ps w hr (sh_of_pats hps))
 rw [hps] at PVV
 have LV := Lib.hid (implLvs_any word hv pv ps hps w hr)
 clear hv hps hr
 go_enter Tryz.func180, Tryz.ntmps180
 go_wp2_with (first | (go_at_call 77; refine (WV.out _).mono ?_; rintro e w' ⟨rfl, rfl⟩) | (go_at_call 56; refine PVV.out.mono ?_; rintro e w' ⟨rfl, rfl⟩) | (go_at_call 188; refine LV.out.mono ?_; rintro e w2 ⟨v, rfl, hown, hbel⟩))
 go_ret
 exact ⟨_, rfl, hown, hbel⟩
set_option maxHeartbeats 8000000 in
theorem implPlaces_any (word : List UInt8) (hv : wordB word = true) (pv : Value) (ps : List (List UInt8)) (hps : patsB ps = true) (w : World) (hr : TxtS w pv ps) :
  Calls Tryz.prog 160 #[.string (bs word), pv] w (NumsPost (ints (places word ps)) w) := by
 have O0 : Hid (OwnI w w.heap.size (.slice none 0 0) []) := OwnI.nil w _
 have B0 := Lib.hid (Below.refl w.heap.size w)
 have LV := Lib.hid (implLevels_any word hv pv ps hps w hr)
 obtain ⟨wl, hwl⟩ : ∃ wl, wl = word.length := ⟨_, rfl⟩
 have wl20 : wl ≤ 20 ∧ 1 ≤ wl := by rw [hwl]; exact ⟨(wordB_true hv).2.2, (wordB_true hv).2.1⟩
 obtain ⟨wl20, wl1⟩ := wl20
 have hs : (bs word).size = wl := by rw [hwl, bs_len]
 have HLV : Hid (wl + 1 = (lvs word ps).length) := by show _ = _; rw [(lvs_good word ps).1, hwl]
 have GB := Lib.hid (fun j => getD_bd (lvs_good word ps).2 j)
 have PS := Lib.hid (fun k => placeTo_succ word ps k)
 have PE := Lib.hid (fun k => placeTo_end word ps k)
 have PN : Hid (places word ps = placeTo word ps (wl + 1)) := by show _ = _; rw [hwl]; rfl
 have PL := Lib.hid (fun k => placeTo_len word ps k)
 have P0 : Hid (([] : List Int) = ints (placeTo word ps 0)) := by show _ = _; rw [show placeTo word ps 0 = [] from rfl]; rfl
 rw [← hwl] at PS PE
 have HWL := Lib.hid hwl
 clear hv hps hr hwl
 go_enter Tryz.func160, Tryz.ntmps160
 go_wp2_with (go_at_call 180; refine LV.out.mono ?_; rintro e w2 ⟨v, rfl, hlo, hbw⟩; obtain ⟨lb, lcap, rfl, hll, hlg, LC⟩ := nums_pos HLV.out (Nat.succ_pos wl) hlo)
 have O1 : Hid (OwnI w2 w.heap.size (.slice none 0 0) (ints (placeTo word ps 0))) := by show OwnI _ _ _ _; rw [← P0.out]; exact O0.out.below hbw
 have B1 : Hid (Below w.heap.size w w2) := below_next B0.out hbw (Nat.le_refl _)
 have AP0 : some lb ≠ Value.ownBlock (.slice none 0 0) := fun h => by cases h
 have AP := Lib.hid AP0
 have HLL := Lib.hid hll
 clear O0 hbw hlo AP0 hll hlg P0 B0
 go_loopw [5, 12] (fun v i wr => ∃ k : Nat, k ≤ wl + 1 ∧ i = .int .i64 k ∧ Hid (OwnI wr w.heap.size v (ints (placeTo word ps k))) ∧ Hid (Below w.heap.size w wr) ∧ Hid (some lb ≠ v.ownBlock) ∧ Hid (lb < wr.heap.size) ∧ Hid (∀ j, j < wl + 1 → wr.cell? ⟨lb, j, none⟩ = some (.int .i64 ((lvs word ps).getD j 0)))) (fun _ i _ => wl + 2 - (intOf i).toNat)
 case atStart => exact ⟨0, by omega, rfl, O1.out, B1.out, AP.out, HLL.out, LC.out⟩
 case round =>
  obtain ⟨k, hk, rfl, ho, hb, hap, hlb, hl⟩ := hrel
  clear O1 B1 AP HLL LC
  have hwr := hb.out.size
  by_cases hlt : k < wl + 1
  ·have cnd : ((k : Int) < (wl : Int) + 1) := by omega
   have c1 := hl.out k (by omega)
   have gb := GB.out k
   have SU := Lib.hid (PS.out k)
   have XL : (ints (placeTo word ps k)).length ≤ 4000000 := by have := PL.out k; simp [ints]; omega
   obtain ⟨lv, hlv⟩ : ∃ lv, lv = (lvs word ps).getD k 0 := ⟨_, rfl⟩
   rw [← hlv] at c1 gb SU
   obtain ⟨gb1, gb2⟩ := gb
   obtain ⟨X, hX⟩ : ∃ X, X = ints (placeTo word ps k) := ⟨_, rfl⟩
   rw [← hX] at XL ho
   have tm : lv.tmod 2 = lv % 2 := by rw [Int.tmod_eq_emod_of_nonneg (by omega)]
   have HX := Lib.hid hX
   clear hlv hX
   cases hodd : (lv % 2 == 1)
   ·have S2 : Hid (X = ints (placeTo word ps (k + 1))) := by show _ = _; rw [HX.out, SU.out, hodd]; simp
    clear SU
    go_wp2_with fail
    first
     | exact ⟨⟨k + 1, by omega, by go_num, by rw [← S2.out]; exact ho.out, hb.out, hap.out, hlb.out, hl.out⟩, by simp [intOf]; omega⟩
     | (go_roundw
        case rel => exact ⟨k + 1, by omega, by go_num, by rw [← S2.out]; exact ho.out, hb.out, hap.out, hlb.out, hl.out⟩
        case measure => simp [intOf]; omega)
   ·by_cases h2 : 2 ≤ k ∧ k + 3 ≤ wl
    ·have S2 : Hid (X ++ [(k : Int)] = ints (placeTo word ps (k + 1))) := by show _ = _; rw [SU.out, hodd, decide_eq_true h2.1, decide_eq_true h2.2, ints_app, HX.out]; rfl
     have IN : Hid (inB (k : Int) 2 ((wl : Int) - 3) = true) := inB_yes (by omega) (by omega)
     clear SU h2
     go_wp2_with (first | (go_at_call 57; refine (in_any _ _ _ _).mono ?_; rintro e w' ⟨rfl, rfl⟩; rw [IN.out]) | (at_builtin; refine append_num w wr rfl _ _ rfl w.heap.size u5 X (k : Int) rfl rfl ho.out XL (Nat.le_refl _) hb.out ?_; intro v' w5 hown' hbel hmv hgr))
     have K1 := Lib.hid (kept_cells hgr hlb.out hap.out hl.out)
     have K2 := Lib.hid (hmv.apart hap.out (by have := hlb.out; simp; omega))
     have K3 : Hid (lb < w5.heap.size) := Nat.lt_of_lt_of_le hlb.out hgr.size
     go_roundw
     case rel => exact ⟨k + 1, by omega, by go_num, by rw [← S2.out]; exact hown', hbel, K2.out, K3.out, K1.out⟩
     case measure => simp [intOf]; omega
    ·have S2 : Hid (X = ints (placeTo word ps (k + 1))) := by
      show _ = _
      rw [HX.out, SU.out, show (decide (2 ≤ k) && decide (k + 3 ≤ wl)) = false by rw [Bool.and_eq_false_iff, decide_eq_false_iff_not, decide_eq_false_iff_not]; omega]
      simp
     have IN : Hid (inB (k : Int) 2 ((wl : Int) - 3) = false) := inB_no (by omega)
     clear SU h2
     go_wp2_with (go_at_call 57; refine (in_any _ _ _ _).mono ?_; rintro e w' ⟨rfl, rfl⟩; rw [IN.out])
     first
      | exact ⟨⟨k + 1, by omega, by go_num, by rw [← S2.out]; exact ho.out, hb.out, hap.out, hlb.out, hl.out⟩, by simp [intOf]; omega⟩
      | (go_roundw
         case rel => exact ⟨k + 1, by omega, by go_num, by rw [← S2.out]; exact ho.out, hb.out, hap.out, hlb.out, hl.out⟩
         case measure => simp [intOf]; omega)
  ·have cnd : ¬ ((k : Int) < (wl : Int) + 1) := by omega
   have E : Hid (placeTo word ps k = places word ps) := by
    show _ = _
    rw [PN.out, show wl + 1 = k + (wl + 1 - k) by omega]
    exact (PE.out k (by omega) _).symm
   rw [E.out] at ho
   go_wp2_with fail
   go_ret
   exact ⟨_, rfl, ho.out, hb.out⟩
set_option maxHeartbeats 8000000 in
theorem specPlaces_any (word : List UInt8) (hv : wordB word = true) (pv : Value) (ps : List (List UInt8)) (hps : patsB ps = true) (w : World) (hr : TxtS w pv ps) :
  Calls Tryz.prog 129 #[.string (bs word), pv] w (NumsPost (ints (places word ps)) w) := by
 have O0 : Hid (OwnI (w.alloc (.cells #[] 3)) w.heap.size (.slice (some ⟨w.heap.size, 0, none⟩) 0 0) []) := OwnI.made w (Nat.le_refl _)
 have B0 := Lib.hid ((Below.refl w.heap.size w).alloc (Nat.le_refl _) (.cells #[] 3))
 have hr2 : TxtS (w.alloc (.cells #[] 3)) pv ps := hr.below B0.out
 have LV := Lib.hid (specLvs_any word hv pv ps hps (w.alloc (.cells #[] 3)) hr2)
 obtain ⟨wl, hwl⟩ : ∃ wl, wl = word.length := ⟨_, rfl⟩
 have wl20 : wl ≤ 20 ∧ 1 ≤ wl := by rw [hwl]; exact ⟨(wordB_true hv).2.2, (wordB_true hv).2.1⟩
 obtain ⟨wl20, wl1⟩ := wl20
 have hs : (bs word).size = wl := by rw [hwl, bs_len]
 have HLV : Hid (wl + 1 = (lvs word ps).length) := by show _ = _; rw [(lvs_good word ps).1, hwl]
 have GB := Lib.hid (fun j => getD_bd (lvs_good word ps).2 j)
 have PS := Lib.hid (fun k => placeTo_succ word ps k)
 have PE := Lib.hid (fun k => placeTo_end word ps k)
 have PN : Hid (places word ps = placeTo word ps (wl + 1)) := by show _ = _; rw [hwl]; rfl
 have PL := Lib.hid (fun k => placeTo_len word ps k)
 have P0 : Hid (([] : List Int) = ints (placeTo word ps 2)) := by show _ = _; rw [placeTo_two]; rfl
 rw [← hwl] at PS PE
 have HWL := Lib.hid hwl
 clear hv hps hr hwl hr2
 go_enter Tryz.func129, Tryz.ntmps129
 go_wp2_with (go_at_call 157; refine LV.out.mono ?_; rintro e w2 ⟨v, rfl, hlo, hbw⟩; obtain ⟨lb, lcap, rfl, hll, hlg, LC⟩ := nums_pos HLV.out (Nat.succ_pos wl) hlo)
 have O1 : Hid (OwnI w2 w.heap.size (.slice (some ⟨w.heap.size, 0, none⟩) 0 0) (ints (placeTo word ps 2))) := by show OwnI _ _ _ _; rw [← P0.out]; exact O0.out.below hbw
 have B1 : Hid (Below w.heap.size w w2) := below_next B0.out hbw (Nat.le_refl _)
 have AP0 : some lb ≠ Value.ownBlock (.slice (some ⟨w.heap.size, 0, none⟩) 0 0) := by
  have e : w.heap.size < lb := by simp at hlg; omega
  intro h
  have this : lb = w.heap.size := Option.some.inj h
  omega
 have AP := Lib.hid AP0
 have HLL := Lib.hid hll
 clear O0 hbw hlo AP0 hll hlg P0 B0
 go_loopw [5, 7] (fun v i wr => ∃ k : Nat, k ≤ wl + 1 ∧ Hid (2 ≤ k) ∧ i = .int .i64 k ∧ Hid (OwnI wr w.heap.size v (ints (placeTo word ps k))) ∧ Hid (Below w.heap.size w wr) ∧ Hid (some lb ≠ v.ownBlock) ∧ Hid (lb < wr.heap.size) ∧ Hid (∀ j, j < wl + 1 → wr.cell? ⟨lb, j, none⟩ = some (.int .i64 ((lvs word ps).getD j 0)))) (fun _ i _ => wl + 2 - (intOf i).toNat)
 case atStart => exact ⟨2, by omega, Nat.le_refl _, rfl, O1.out, B1.out, AP.out, HLL.out, LC.out⟩
 case round =>
  obtain ⟨k, hk, hk2, rfl, ho, hb, hap, hlb, hl⟩ := hrel
  clear O1 B1 AP HLL LC
  have hwr := hb.out.size
  by_cases hlt : k + 3 ≤ wl
  ·have cnd : ((k : Int) + 3 < (wl : Int) + 1) := by omega
   have c1 := hl.out k (by omega)
   have gb := GB.out k
   have SU := Lib.hid (PS.out k)
   have XL : (ints (placeTo word ps k)).length ≤ 4000000 := by have := PL.out k; simp [ints]; omega
   obtain ⟨lv, hlv⟩ : ∃ lv, lv = (lvs word ps).getD k 0 := ⟨_, rfl⟩
   rw [← hlv] at c1 gb SU
   obtain ⟨gb1, gb2⟩ := gb
   obtain ⟨X, hX⟩ : ∃ X, X = ints (placeTo word ps k) := ⟨_, rfl⟩
   rw [← hX] at XL ho
   have tm : lv.tmod 2 = lv % 2 := by rw [Int.tmod_eq_emod_of_nonneg (by omega)]
   have HX := Lib.hid hX
   clear hlv hX
   cases hodd : (lv % 2 == 1)
   ·have S2 : Hid (X = ints (placeTo word ps (k + 1))) := by show _ = _; rw [HX.out, SU.out, hodd]; simp
    clear SU
    go_wp2_with fail
    first
     | exact ⟨⟨k + 1, by omega, (Nat.le_succ_of_le hk2.out), by go_num, by rw [← S2.out]; exact ho.out, hb.out, hap.out, hlb.out, hl.out⟩, by simp [intOf]; omega⟩
     | (go_roundw
        case rel => exact ⟨k + 1, by omega, (Nat.le_succ_of_le hk2.out), by go_num, by rw [← S2.out]; exact ho.out, hb.out, hap.out, hlb.out, hl.out⟩
        case measure => simp [intOf]; omega)
   ·by_cases h2 : 2 ≤ k
    ·have S2 : Hid (X ++ [(k : Int)] = ints (placeTo word ps (k + 1))) := by show _ = _; rw [SU.out, hodd, decide_eq_true h2, decide_eq_true hlt, ints_app, HX.out]; rfl
     clear SU
     go_wp2_with (at_builtin; refine append_num w wr rfl _ _ rfl w.heap.size u5 X (k : Int) rfl rfl ho.out XL (Nat.le_refl _) hb.out ?_; intro v' w5 hown' hbel hmv hgr)
     have K1 := Lib.hid (kept_cells hgr hlb.out hap.out hl.out)
     have K2 := Lib.hid (hmv.apart hap.out (by have := hlb.out; simp; omega))
     have K3 : Hid (lb < w5.heap.size) := Nat.lt_of_lt_of_le hlb.out hgr.size
     go_roundw
     case rel => exact ⟨k + 1, by omega, (Nat.le_succ_of_le hk2.out), by go_num, by rw [← S2.out]; exact hown', hbel, K2.out, K3.out, K1.out⟩
     case measure => simp [intOf]; omega
    ·exact absurd hk2.out h2
  ·have cnd : ¬ ((k : Int) + 3 < (wl : Int) + 1) := by omega
   have E : Hid (placeTo word ps k = places word ps) := by
    show _ = _
    rw [PN.out, show wl + 1 = k + (wl + 1 - k) by omega]
    exact (PE.out k (by omega) _).symm
   rw [E.out] at ho
   go_wp2_with fail
   go_ret
   exact ⟨_, rfl, ho.out, hb.out⟩
end Go.Proofs.YtofnchdijanikaaGreatDoor
namespace Go.Proofs.YtofnchdijanikaaGreatDoor
open Go.RowKit
theorem ints_getD (l : List Nat) (j : Nat) (h : j < l.length) : (ints l).getD j 0 = ((l.getD j 0 : Nat) : Int) := by simp [ints, List.getD, h]
theorem ints_len (l : List Nat) : (ints l).length = l.length := by simp [ints]
theorem drop_next {α : Type} (l : List α) (d : α) (j : Nat) (h : j < l.length) : l.drop j = l.getD j d :: l.drop (j + 1) := by
 rw [List.drop_eq_getElem_cons h]
 simp [List.getD, h]
theorem bs_rest (l : List UInt8) (a n : Nat) (h : n = l.length) : (bs l).extract a n = bs (l.drop a) := by
 subst h
 exact bs_extract l a
theorem parts_len (word : List UInt8) (ps : List (List UInt8)) : (parts word ps).length = (places word ps).length + 1 := cutAt_len word _ _
def PartAt (word : List UInt8) (pl : List Nat) (wl j a : Nat) (xs P : List (List UInt8)) : Prop :=
 xs ++ cutAt word a (pl.drop j) = P ∧ (pl.drop j).Pairwise (· < ·) ∧ (∀ q ∈ pl.drop j, a ≤ q ∧ q ≤ wl) ∧ a ≤ wl
theorem PartAt.next {word : List UInt8} {pl : List Nat} {wl j a : Nat} {xs P : List (List UInt8)} (h : PartAt word pl wl j a xs P) (hj : j < pl.length) :
  a ≤ pl.getD j 0 ∧ pl.getD j 0 ≤ wl ∧ PartAt word pl wl (j + 1) (pl.getD j 0) (xs ++ [(word.drop a).take (pl.getD j 0 - a)]) P := by
 obtain ⟨h1, h2, h3, h4⟩ := h
 rw [drop_next pl 0 j hj] at h1 h2 h3
 obtain ⟨p, hp⟩ : ∃ p, p = pl.getD j 0 := ⟨_, rfl⟩
 rw [← hp] at h1 h2 h3 ⊢
 rw [List.pairwise_cons] at h2
 obtain ⟨b1, b2⟩ := h3 p (by simp)
 refine ⟨b1, b2, ?_, h2.2, fun q hq => ⟨Nat.le_of_lt (h2.1 q hq), (h3 q (List.mem_cons_of_mem _ hq)).2⟩, b2⟩
 rw [cutAt] at h1
 rw [← h1]
 simp
theorem PartAt.fin {word : List UInt8} {pl : List Nat} {wl j a : Nat} {xs P : List (List UInt8)} (h : PartAt word pl wl j a xs P) (hj : pl.length ≤ j) : xs ++ [word.drop a] = P := by
 have := h.1
 rw [List.drop_of_length_le hj] at this
 exact this
theorem PartAt.start (word : List UInt8) (ps : List (List UInt8)) : PartAt word (places word ps) word.length 0 0 [] (parts word ps) :=
 ⟨rfl, places_sorted word ps, fun q hq => by have := places_in hq; omega, Nat.zero_le _⟩
theorem PartAt.len {word : List UInt8} {pl : List Nat} {wl j a : Nat} {xs P : List (List UInt8)} (h : PartAt word pl wl j a xs P) : xs.length ≤ P.length := by
 rw [← h.1, List.length_append]
 omega
theorem kept_strs {w w' : World} {v : Value} {b m : Nat} {f : Nat → Value} (hg : w.grownBy w' v.ownBlock) (hb : b < w.heap.size) (hne : some b ≠ v.ownBlock) (h : ∀ j, j < m → w.cell? ⟨b, j, none⟩ = some (f j)) : ∀ j, j < m → w'.cell? ⟨b, j, none⟩ = some (f j) := fun j hj => by
 rw [World.cell?_of_block (hg.block b hb hne)]
 exact h j hj
theorem moved_alloc {w : World} {o : Obj} {v v' : Value} {g : Nat} (h : Moved (w.alloc o) v v') (h1 : some g ≠ v.ownBlock) (h2 : g < w.heap.size) : some g ≠ v'.ownBlock := h.apart h1 (by simp; omega)
set_option maxHeartbeats 8000000 in
theorem implHParts_any (word : List UInt8) (hv : wordB word = true) (pv : Value) (ps : List (List UInt8)) (hps : patsB ps = true) (w : World) (hr : TxtS w pv ps) :
  Calls Tryz.prog 135 #[.string (bs word), pv] w (TxtsPost (parts word ps) w) := by
 have O0 : Hid (OwnT w w.heap.size (.slice none 0 0) []) := OwnT.nil w _
 have B0 := Lib.hid (Below.refl w.heap.size w)
 have hr2 : TxtS w pv ps := hr.below B0.out
 have WV := Lib.hid (fun w => implWord_any word (by have := (wordB_true hv).2.2; omega) w)
 rw [hv] at WV
 have PVV := Lib.hid (implPats_any pv ps w hr2 (sh_of_pats hps))
 rw [hps] at PVV
 have PQ := Lib.hid (implPlaces_any word hv pv ps hps w hr2)
 have ST := Lib.hid (PartAt.start word ps)
 have PLN := parts_len word ps
 have PL20 := places_len word ps
 obtain ⟨wl, hwl⟩ : ∃ wl, wl = word.length := ⟨_, rfl⟩
 have wl20 : wl ≤ 20 := by rw [hwl]; exact (wordB_true hv).2.2
 have hs : (bs word).size = wl := by rw [hwl, bs_len]
 rw [← hwl] at ST PL20
 have HWL := Lib.hid hwl
 obtain ⟨P, hP⟩ : ∃ P, P = parts word ps := ⟨_, rfl⟩
 rw [← hP] at ST PLN ⊢
 obtain ⟨pl, hpl⟩ : ∃ pl, pl = places word ps := ⟨_, rfl⟩
 rw [← hpl] at PQ ST PL20 PLN
 have P40 : P.length ≤ 40 := by omega
 clear hv hps hr hr2 hwl hP hpl PLN
 by_cases h0 : pl.length = 0
 ·obtain rfl : pl = [] := List.eq_nil_of_length_eq_zero h0
  have F0 := Lib.hid (ST.out.fin (Nat.le_refl _))
  have SR := bs_rest word 0 wl HWL.out
  rw [List.drop_zero] at SR F0
  go_enter Tryz.func135, Tryz.ntmps135
  go_wp2_with (first | (go_at_call 77; refine (WV.out _).mono ?_; rintro e w' ⟨rfl, rfl⟩) | (go_at_call 56; refine PVV.out.mono ?_; rintro e w' ⟨rfl, rfl⟩) | (go_at_call 160; refine PQ.out.mono ?_; rintro e w2 ⟨v, rfl, hlo, hbw⟩; obtain ⟨la, lcap, rfl⟩ := (OwnI.row hlo).empty))
  have O1 : Hid (OwnT w2 w.heap.size (.slice none 0 0) []) := O0.out.below hbw
  have B1 : Hid (Below w.heap.size w w2) := below_next B0.out hbw (Nat.le_refl _)
  clear O0 hbw hlo B0
  refine wp_loop_rounds 1 ?_
  rw [rounds_succ]
  go_wp2_with (at_builtin; refine append_str w w2 rfl _ _ rfl w.heap.size (.slice none 0 0) [] word rfl rfl O1.out (Nat.zero_le _) (Nat.le_refl _) B1.out ?_; intro v' w5 hown' hbel hmv hgr)
  go_ret
  exact ⟨_, rfl, by rw [← F0.out]; exact hown', hbel⟩
 ·obtain ⟨m, hm⟩ : ∃ m, m = pl.length := ⟨_, rfl⟩
  have m0 : 0 < m := by omega
  have m20 : m ≤ 21 := by omega
  have HLV : Hid (m = (ints pl).length) := by show _ = _; rw [ints_len, hm]
  have IG := Lib.hid (fun j (hj : j < m) => ints_getD pl j (by rw [← hm]; exact hj))
  have HM := Lib.hid hm
  clear h0 hm PL20
  go_enter Tryz.func135, Tryz.ntmps135
  go_wp2_with (first | (go_at_call 77; refine (WV.out _).mono ?_; rintro e w' ⟨rfl, rfl⟩) | (go_at_call 56; refine PVV.out.mono ?_; rintro e w' ⟨rfl, rfl⟩) | (go_at_call 160; refine PQ.out.mono ?_; rintro e w2 ⟨v, rfl, hlo, hbw⟩; obtain ⟨lb, lcap, rfl, hll, hlg, LC⟩ := nums_pos HLV.out m0 hlo))
  have O1 : Hid (OwnT w2 w.heap.size (.slice none 0 0) []) := O0.out.below hbw
  have B1 : Hid (Below w.heap.size w w2) := below_next B0.out hbw (Nat.le_refl _)
  have AP0 : some lb ≠ Value.ownBlock (.slice none 0 0) := fun h => by cases h
  have AP := Lib.hid AP0
  have HLL := Lib.hid hll
  clear O0 hbw hlo AP0 hll hlg B0
  go_loopw [5, 6, 21] (fun v av i wr => ∃ (j a : Nat) (xs : List (List UInt8)), j ≤ m ∧ av = .int .i64 a ∧ i = .int .i64 j ∧ Hid (PartAt word pl wl j a xs P) ∧ Hid (OwnT wr w.heap.size v xs) ∧ Hid (Below w.heap.size w wr) ∧ Hid (some lb ≠ v.ownBlock) ∧ Hid (lb < wr.heap.size) ∧ Hid (∀ j, j < m → wr.cell? ⟨lb, j, none⟩ = some (.int .i64 ((ints pl).getD j 0)))) (fun _ _ i _ => m - (intOf i).toNat)
  case atStart => exact ⟨0, 0, [], Nat.zero_le _, rfl, rfl, ST.out, O1.out, B1.out, AP.out, HLL.out, LC.out⟩
  case round =>
   obtain ⟨j, a, xs, hj, rfl, rfl, hpa, ho, hb, hap, hlb, hl⟩ := hrel
   clear O1 B1 AP HLL LC
   have hwr := hb.out.size
   have XL : xs.length ≤ 4000000 := by have := hpa.out.len; omega
   by_cases hlt : j < m
   ·have c1 := hl.out j hlt
    rw [IG.out j hlt] at c1
    obtain ⟨p1, p2, p3⟩ := hpa.out.next (by rw [← HM.out]; exact hlt)
    obtain ⟨p, hp⟩ : ∃ p, p = pl.getD j 0 := ⟨_, rfl⟩
    rw [← hp] at c1 p1 p2 p3
    have NX := Lib.hid p3
    have SB := bs_sub word a p
    clear hp p3
    go_wp2_with (at_builtin; refine append_str w wr rfl _ _ rfl w.heap.size u5 xs ((word.drop a).take (p - a)) rfl rfl ho.out XL (Nat.le_refl _) hb.out ?_; intro v' w5 hown' hbel hmv hgr)
    have K1 := Lib.hid (kept_cells hgr hlb.out hap.out hl.out)
    have K2 := Lib.hid (moved_alloc hmv hap.out hlb.out)
    have K3 : Hid (lb < w5.heap.size) := Nat.lt_of_lt_of_le hlb.out hgr.size
    go_roundw
    case rel => exact ⟨j + 1, p, _, by omega, rfl, by go_num, NX.out, hown', hbel, K2.out, K3.out, K1.out⟩
    case measure => simp [intOf]; omega
   ·obtain rfl : j = m := by omega
    have al := hpa.out.2.2.2
    have F0 := Lib.hid (hpa.out.fin (by rw [HM.out]; exact Nat.le_refl _))
    have SR := bs_rest word a wl HWL.out
    go_wp2_with (at_builtin; refine append_str w wr rfl _ _ rfl w.heap.size u5 xs (word.drop a) rfl rfl ho.out XL (Nat.le_refl _) hb.out ?_; intro v' w5 hown' hbel hmv hgr)
    go_ret
    exact ⟨_, rfl, by rw [← F0.out]; exact hown', hbel⟩
set_option maxHeartbeats 8000000 in
theorem specHParts_any (word : List UInt8) (hv : wordB word = true) (pv : Value) (ps : List (List UInt8)) (hps : patsB ps = true) (w : World) (hr : TxtS w pv ps) :
  Calls Tryz.prog 99 #[.string (bs word), pv] w (TxtsPost (parts word ps) w) := by
 have O0 : Hid (OwnT (w.alloc (.cells #[] 9)) w.heap.size (.slice (some ⟨w.heap.size, 0, none⟩) 0 0) []) := OwnT.made w (Nat.le_refl _)
 have B0 := Lib.hid ((Below.refl w.heap.size w).alloc (Nat.le_refl _) (.cells #[] 9))
 have hr2 : TxtS (w.alloc (.cells #[] 9)) pv ps := hr.below B0.out
 have WV := Lib.hid (fun w => specWord_any word (by have := (wordB_true hv).2.2; omega) w)
 rw [hv] at WV
 have PVV := Lib.hid (specPats_any pv ps (w.alloc (.cells #[] 9)) hr2 (sh_of_pats hps))
 rw [hps] at PVV
 have PQ := Lib.hid (specPlaces_any word hv pv ps hps (w.alloc (.cells #[] 9)) hr2)
 have ST := Lib.hid (PartAt.start word ps)
 have PLN := parts_len word ps
 have PL20 := places_len word ps
 obtain ⟨wl, hwl⟩ : ∃ wl, wl = word.length := ⟨_, rfl⟩
 have wl20 : wl ≤ 20 := by rw [hwl]; exact (wordB_true hv).2.2
 have hs : (bs word).size = wl := by rw [hwl, bs_len]
 rw [← hwl] at ST PL20
 have HWL := Lib.hid hwl
 obtain ⟨P, hP⟩ : ∃ P, P = parts word ps := ⟨_, rfl⟩
 rw [← hP] at ST PLN ⊢
 obtain ⟨pl, hpl⟩ : ∃ pl, pl = places word ps := ⟨_, rfl⟩
 rw [← hpl] at PQ ST PL20 PLN
 have P40 : P.length ≤ 40 := by omega
 clear hv hps hr hr2 hwl hP hpl PLN
 by_cases h0 : pl.length = 0
 ·obtain rfl : pl = [] := List.eq_nil_of_length_eq_zero h0
  have F0 := Lib.hid (ST.out.fin (Nat.le_refl _))
  have SR := bs_rest word 0 wl HWL.out
  rw [List.drop_zero] at SR F0
  go_enter Tryz.func99, Tryz.ntmps99
  go_wp2_with (first | (go_at_call 75; refine (WV.out _).mono ?_; rintro e w' ⟨rfl, rfl⟩) | (go_at_call 52; refine PVV.out.mono ?_; rintro e w' ⟨rfl, rfl⟩) | (go_at_call 129; refine PQ.out.mono ?_; rintro e w2 ⟨v, rfl, hlo, hbw⟩; obtain ⟨la, lcap, rfl⟩ := (OwnI.row hlo).empty))
  have O1 : Hid (OwnT w2 w.heap.size (.slice (some ⟨w.heap.size, 0, none⟩) 0 0) []) := O0.out.below hbw
  have B1 : Hid (Below w.heap.size w w2) := below_next B0.out hbw (Nat.le_refl _)
  clear O0 hbw hlo B0
  refine wp_loop_rounds 1 ?_
  rw [rounds_succ]
  go_wp2_with (at_builtin; refine append_str w w2 rfl _ _ rfl w.heap.size (.slice (some ⟨w.heap.size, 0, none⟩) 0 0) [] word rfl rfl O1.out (Nat.zero_le _) (Nat.le_refl _) B1.out ?_; intro v' w5 hown' hbel hmv hgr)
  go_ret
  exact ⟨_, rfl, by rw [← F0.out]; exact hown', hbel⟩
 ·obtain ⟨m, hm⟩ : ∃ m, m = pl.length := ⟨_, rfl⟩
  have m0 : 0 < m := by omega
  have m20 : m ≤ 21 := by omega
  have HLV : Hid (m = (ints pl).length) := by show _ = _; rw [ints_len, hm]
  have IG := Lib.hid (fun j (hj : j < m) => ints_getD pl j (by rw [← hm]; exact hj))
  have HM := Lib.hid hm
  clear h0 hm PL20
  go_enter Tryz.func99, Tryz.ntmps99
  go_wp2_with (first | (go_at_call 75; refine (WV.out _).mono ?_; rintro e w' ⟨rfl, rfl⟩) | (go_at_call 52; refine PVV.out.mono ?_; rintro e w' ⟨rfl, rfl⟩) | (go_at_call 129; refine PQ.out.mono ?_; rintro e w2 ⟨v, rfl, hlo, hbw⟩; obtain ⟨lb, lcap, rfl, hll, hlg, LC⟩ := nums_pos HLV.out m0 hlo))
  have O1 : Hid (OwnT w2 w.heap.size (.slice (some ⟨w.heap.size, 0, none⟩) 0 0) []) := O0.out.below hbw
  have B1 : Hid (Below w.heap.size w w2) := below_next B0.out hbw (Nat.le_refl _)
  have AP0 : some lb ≠ Value.ownBlock (.slice (some ⟨w.heap.size, 0, none⟩) 0 0) := by
   have e : w.heap.size < lb := by simp at hlg; omega
   intro h
   have this : lb = w.heap.size := Option.some.inj h
   omega
  have AP := Lib.hid AP0
  have HLL := Lib.hid hll
  clear O0 hbw hlo AP0 hll hlg B0
  go_loopw [5, 7, 8] (fun v av i wr => ∃ (j a : Nat) (xs : List (List UInt8)), j ≤ m ∧ av = .int .i64 a ∧ i = .int .i64 j ∧ Hid (PartAt word pl wl j a xs P) ∧ Hid (OwnT wr w.heap.size v xs) ∧ Hid (Below w.heap.size w wr) ∧ Hid (some lb ≠ v.ownBlock) ∧ Hid (lb < wr.heap.size) ∧ Hid (∀ j, j < m → wr.cell? ⟨lb, j, none⟩ = some (.int .i64 ((ints pl).getD j 0)))) (fun _ _ i _ => m - (intOf i).toNat)
  case atStart => exact ⟨0, 0, [], Nat.zero_le _, rfl, rfl, ST.out, O1.out, B1.out, AP.out, HLL.out, LC.out⟩
  case round =>
   obtain ⟨j, a, xs, hj, rfl, rfl, hpa, ho, hb, hap, hlb, hl⟩ := hrel
   clear O1 B1 AP HLL LC
   have hwr := hb.out.size
   have XL : xs.length ≤ 4000000 := by have := hpa.out.len; omega
   by_cases hlt : j < m
   ·have c1 := hl.out j hlt
    rw [IG.out j hlt] at c1
    obtain ⟨p1, p2, p3⟩ := hpa.out.next (by rw [← HM.out]; exact hlt)
    obtain ⟨p, hp⟩ : ∃ p, p = pl.getD j 0 := ⟨_, rfl⟩
    rw [← hp] at c1 p1 p2 p3
    have NX := Lib.hid p3
    have PG : Hid ((ints pl).getD j 0 = (p : Int)) := by show _ = _; rw [IG.out j hlt, ← hp]
    have SB := bs_sub word a p
    clear hp p3
    go_wp2_with (at_builtin; refine append_str w wr rfl _ _ rfl w.heap.size u5 xs ((word.drop a).take (p - a)) rfl rfl ho.out XL (Nat.le_refl _) hb.out ?_; intro v' w5 hown' hbel hmv hgr; have K1 := Lib.hid (kept_cells hgr hlb.out hap.out hl.out); have c2 := K1.out j hlt; rw [PG.out] at c2)
    have K2 := Lib.hid (moved_alloc hmv hap.out hlb.out)
    have K3 : Hid (lb < w5.heap.size) := Nat.lt_of_lt_of_le hlb.out hgr.size
    go_roundw
    case rel => exact ⟨j + 1, p, _, by omega, rfl, by go_num, NX.out, hown', hbel, K2.out, K3.out, K1.out⟩
    case measure => simp [intOf]; omega
   ·obtain rfl : j = m := by omega
    have al := hpa.out.2.2.2
    have F0 := Lib.hid (hpa.out.fin (by rw [HM.out]; exact Nat.le_refl _))
    have SR := bs_rest word a wl HWL.out
    go_wp2_with (at_builtin; refine append_str w wr rfl _ _ rfl w.heap.size u5 xs (word.drop a) rfl rfl ho.out XL (Nat.le_refl _) hb.out ?_; intro v' w5 hown' hbel hmv hgr)
    go_ret
    exact ⟨_, rfl, by rw [← F0.out]; exact hown', hbel⟩
end Go.Proofs.YtofnchdijanikaaGreatDoor
namespace Go.Proofs.YtofnchdijanikaaGreatDoor
open Go.RowKit
def itV (x : DItem) : Value := .agg #[.int .i64 x.kind, .int .i64 x.w, .int .i64 x.st, .int .i64 x.sh, .int .i64 x.od, .int .i64 x.cost, .bool x.mark]
def encI (x : DItem) : List Value := [.int .i64 x.kind, .int .i64 x.w, .int .i64 x.st, .int .i64 x.sh, .int .i64 x.od, .int .i64 x.cost, .bool x.mark]
theorem encI_len (x : DItem) : (encI x).length = 7 := rfl
theorem encI_pos (x : DItem) : 0 < (encI x).length := by rw [encI_len]; decide
def PIt (x : DItem) : Prop := (∃ w, 0 ≤ w ∧ w ≤ 1000 ∧ x = boxI w) ∨ x = hyI ∨ x = gluI ∨ x = ⟨3, 0, 0, 0, 0, 10000, false⟩ ∨ x = ⟨2, 0, 1, 0, 1, 0, false⟩ ∨ x = ⟨3, 0, 0, 0, 0, -10000, false⟩
structure PIs (xs : List DItem) : Prop where
 len : xs.length ≤ 60
 all : ∀ x ∈ xs, PIt x
theorem PIt.ok {x : DItem} (h : PIt x) : ItemOk x := by
 rcases h with ⟨w, h1, h2, rfl⟩ | rfl | rfl | rfl | rfl | rfl
 ·exact boxI_ok ⟨h1, h2⟩
 ·exact hyI_ok
 ·exact gluI_ok
 ·exact endI_ok _ (by simp [endI])
 ·exact endI_ok _ (by simp [endI])
 ·exact endI_ok _ (by simp [endI])
theorem PIs.ok {xs : List DItem} (h : PIs xs) : ItemsOk xs := ⟨h.len, fun x hx => (h.all x hx).ok⟩
theorem wordTo_pit (ps : List (List UInt8)) (h : ∀ x ∈ ps, wordB x = true) : ∀ k, k ≤ ps.length → ∀ x ∈ wordTo ps k, PIt x
 | 0, _ => fun x hx => by cases hx
 | k + 1, hk => fun x hx => by
  rw [wordTo, List.mem_append, List.mem_append, List.mem_singleton] at hx
  rcases hx with hx | hx | rfl
  ·exact wordTo_pit ps h k (by omega) x hx
  ·split at hx
   ·rw [List.mem_singleton] at hx; rw [hx]; exact .inr (.inl rfl)
   ·cases hx
  ·have e : ps.getD k [] = ps[k] := by simp [List.getD, show k < ps.length by omega]
   have := width_bd (h ps[k] (List.getElem_mem (by omega)))
   rw [e]
   exact .inl ⟨_, by omega, by omega, rfl⟩
theorem paraTo_pit (ws ps : List (List UInt8)) (h : ∀ x ∈ ws, wordB x = true) : ∀ k, k ≤ ws.length → ∀ x ∈ paraTo ws ps k, PIt x
 | 0, _ => fun x hx => by cases hx
 | k + 1, hk => fun x hx => by
  rw [paraTo, List.mem_append, List.mem_append] at hx
  have e : ws.getD k [] = ws[k] := by simp [List.getD, show k < ws.length by omega]
  rcases hx with hx | hx | hx
  ·exact paraTo_pit ws ps h k (by omega) x hx
  ·split at hx
   ·rw [List.mem_singleton] at hx; rw [hx]; exact .inr (.inr (.inl rfl))
   ·cases hx
  ·refine wordTo_pit _ ?_ _ (Nat.le_refl _) x hx
   rw [e]
   exact (parts_good ps (h ws[k] (List.getElem_mem (by omega)))).1
theorem paraI_pis {ws ps : List (List UInt8)} (h : ∀ x ∈ ws, wordB x = true) (hl : (paraI ws ps).length ≤ 60) : PIs (paraI ws ps) :=
 ⟨hl, fun x hx => by
  unfold paraI at hx
  rw [List.mem_append] at hx
  rcases hx with hx | hx
  ·exact paraTo_pit ws ps h _ (Nat.le_refl _) x hx
  ·unfold endI at hx
   simp only [List.mem_cons, List.not_mem_nil, or_false] at hx
   rcases hx with rfl | rfl | rfl
   ·exact .inr (.inr (.inr (.inl rfl)))
   ·exact .inr (.inr (.inr (.inr (.inl rfl))))
   ·exact .inr (.inr (.inr (.inr (.inr rfl))))⟩
theorem box_kept {w w2 : World} {cs : Array Value} {t : TypeId} (hb : Below (w.alloc (.cells cs t)).heap.size (w.alloc (.cells cs t)) w2) (i : Nat) (u : Value) (h : cs[i]? = some u) : w2.cell? ⟨w.heap.size, i, none⟩ = some u :=
 (hb.cell (p := ⟨w.heap.size, i, none⟩) (by simp)).trans (by rw [World.cell?_alloc_at _ _ _ _ rfl]; exact h)
theorem isBad_any (n : Int) (w : World) : Calls Tryz.prog 58 #[.int .i64 n] w fun e w' => e = .returned (.bool (inB n 0 10000)) ∧ w = w' := by
 go_enter Tryz.func58, Tryz.ntmps58
 go_wp2_with (go_at_call 57; refine (in_any _ _ _ _).mono ?_; rintro e w' ⟨rfl, rfl⟩)
 go_ret
 exact ⟨rfl, rfl⟩
theorem isCost_any (n : Int) (h : (0 ≤ n ∧ n ≤ 10000) ∨ n = -10000) (w : World) : Calls Tryz.prog 190 #[.int .i64 n] w fun e w' => e = .returned (.bool true) ∧ w = w' := by
 rcases h with h | rfl
 ·have IN : Hid (inB n 0 10000 = true) := inB_yes h.1 h.2
  clear h
  go_enter Tryz.func190, Tryz.ntmps190
  go_wp2_with (go_at_call 58; refine (isBad_any _ _).mono ?_; rintro e w' ⟨rfl, rfl⟩; rw [IN.out])
  go_ret
  exact ⟨rfl, rfl⟩
 ·have IN : Hid (inB (-10000) 0 10000 = false) := inB_no (by omega)
  go_enter Tryz.func190, Tryz.ntmps190
  go_wp2_with (go_at_call 58; refine (isBad_any _ _).mono ?_; rintro e w' ⟨rfl, rfl⟩; rw [IN.out])
  go_ret
  exact ⟨rfl, rfl⟩
theorem implGlue_any (a b c d : Int) (h : GlueOk ⟨a, b, c, d⟩) (w : World) : Calls Tryz.prog 53 #[.agg #[.int .i64 a, .int .i64 b, .int .i64 c, .int .i64 d]] w (Ret (.bool true) w) := by
 unfold GlueOk at h
 simp only at h
 have I1 : Hid (inB a 0 1000 = true) := inB_yes (by omega) (by omega)
 have I2 : Hid (inB b 0 1000 = true) := inB_yes (by omega) (by omega)
 have I3 : Hid (inB c 0 a = true) := inB_yes (by omega) (by omega)
 have I4 : Hid (inB d 0 1 = true) := inB_yes (by omega) (by omega)
 have B0 := Lib.hid ((Below.refl w.heap.size w).alloc (Nat.le_refl _) (.cells #[.int .i64 a, .int .i64 b, .int .i64 c, .int .i64 d] 71))
 clear h
 go_enter Tryz.func53, Tryz.ntmps53
 go_wp2_with (go_at_call 57; refine (in_any _ _ _ _).mono ?_; rintro e w' ⟨rfl, rfl⟩; first | rw [I1.out] | rw [I2.out] | rw [I3.out] | rw [I4.out])
 go_ret
 exact ⟨rfl, B0.out⟩
theorem specGlue_any (a b c d : Int) (h : GlueOk ⟨a, b, c, d⟩) (w : World) : Calls Tryz.prog 176 #[.agg #[.int .i64 a, .int .i64 b, .int .i64 c, .int .i64 d]] w (Ret (.bool true) w) := by
 unfold GlueOk at h
 simp only at h
 have I1 : Hid (inB a 0 1000 = true) := inB_yes (by omega) (by omega)
 have I2 : Hid (inB b 0 1000 = true) := inB_yes (by omega) (by omega)
 have I3 : Hid (inB c 0 a = true) := inB_yes (by omega) (by omega)
 have I4 : Hid (inB d 0 1 = true) := inB_yes (by omega) (by omega)
 have B0 := Lib.hid ((Below.refl w.heap.size w).alloc (Nat.le_refl _) (.cells #[.int .i64 a, .int .i64 b, .int .i64 c, .int .i64 d] 71))
 clear h
 go_enter Tryz.func176, Tryz.ntmps176
 go_wp2_with (go_at_call 34; refine (l1In_any _ _ _ _).mono ?_; rintro e w' ⟨rfl, rfl⟩; first | rw [I1.out] | rw [I2.out] | rw [I3.out] | rw [I4.out])
 go_ret
 exact ⟨rfl, B0.out⟩
set_option maxHeartbeats 4000000 in
theorem implItem_any (x : DItem) (h : PIt x) (w : World) : Calls Tryz.prog 183 #[itV x] w (Ret (.bool true) w) := by
 rcases h with ⟨q, h1, h2, rfl⟩ | rfl | rfl | rfl | rfl | rfl
 ·have GV := Lib.hid (fun w => implGlue_any q 0 0 0 (⟨h1, h2, Int.le_refl _, (by show (0 : Int) ≤ 1000; decide), Int.le_refl _, h1, Int.le_refl _, (by show (0 : Int) ≤ 1; decide)⟩) w)
  have B0 := Lib.hid ((Below.refl w.heap.size w).alloc (Nat.le_refl _) (.cells #[.int .i64 1, .int .i64 q, .int .i64 0, .int .i64 0, .int .i64 0, .int .i64 0, .bool false] 113))
  clear h1 h2
  unfold itV
  unfold boxI
  simp only
  go_enter Tryz.func183, Tryz.ntmps183
  go_wp2_with (first | (go_at_call 53; refine (GV.out _).mono ?_; rintro e w2 ⟨rfl, hb2⟩; have c0 := box_kept hb2 0 _ rfl; have c2 := box_kept hb2 2 _ rfl; have c3 := box_kept hb2 3 _ rfl; have c4 := box_kept hb2 4 _ rfl; have c5 := box_kept hb2 5 _ rfl; have c6 := box_kept hb2 6 _ rfl))
  go_ret
  exact ⟨rfl, below_next B0.out hb2 (Nat.le_refl _)⟩
 ·have GV := Lib.hid (fun w => implGlue_any 3 0 0 0 (by unfold GlueOk; decide) w)
  have B0 := Lib.hid ((Below.refl w.heap.size w).alloc (Nat.le_refl _) (.cells #[.int .i64 3, .int .i64 3, .int .i64 0, .int .i64 0, .int .i64 0, .int .i64 50, .bool true] 113))
  have CV := Lib.hid (fun w => isCost_any 50 (by decide) w)
  unfold itV
  unfold hyI
  simp only
  go_enter Tryz.func183, Tryz.ntmps183
  go_wp2_with (first | (go_at_call 53; refine (GV.out _).mono ?_; rintro e w2 ⟨rfl, hb2⟩; have c0 := box_kept hb2 0 _ rfl; have c2 := box_kept hb2 2 _ rfl; have c3 := box_kept hb2 3 _ rfl; have c4 := box_kept hb2 4 _ rfl; have c5 := box_kept hb2 5 _ rfl; have c6 := box_kept hb2 6 _ rfl) | (go_at_call 190; refine (CV.out _).mono ?_; rintro e w' ⟨rfl, rfl⟩))
  go_ret
  exact ⟨rfl, below_next B0.out hb2 (Nat.le_refl _)⟩
 ·have GV := Lib.hid (fun w => implGlue_any 4 3 1 0 (by unfold GlueOk; decide) w)
  have B0 := Lib.hid ((Below.refl w.heap.size w).alloc (Nat.le_refl _) (.cells #[.int .i64 2, .int .i64 4, .int .i64 3, .int .i64 1, .int .i64 0, .int .i64 0, .bool false] 113))
  unfold itV
  unfold gluI
  simp only
  go_enter Tryz.func183, Tryz.ntmps183
  go_wp2_with (first | (go_at_call 53; refine (GV.out _).mono ?_; rintro e w2 ⟨rfl, hb2⟩; have c0 := box_kept hb2 0 _ rfl; have c2 := box_kept hb2 2 _ rfl; have c3 := box_kept hb2 3 _ rfl; have c4 := box_kept hb2 4 _ rfl; have c5 := box_kept hb2 5 _ rfl; have c6 := box_kept hb2 6 _ rfl))
  go_ret
  exact ⟨rfl, below_next B0.out hb2 (Nat.le_refl _)⟩
 ·have GV := Lib.hid (fun w => implGlue_any 0 0 0 0 (by unfold GlueOk; decide) w)
  have B0 := Lib.hid ((Below.refl w.heap.size w).alloc (Nat.le_refl _) (.cells #[.int .i64 3, .int .i64 0, .int .i64 0, .int .i64 0, .int .i64 0, .int .i64 10000, .bool false] 113))
  have CV := Lib.hid (fun w => isCost_any 10000 (by decide) w)
  unfold itV
  skip
  simp only
  go_enter Tryz.func183, Tryz.ntmps183
  go_wp2_with (first | (go_at_call 53; refine (GV.out _).mono ?_; rintro e w2 ⟨rfl, hb2⟩; have c0 := box_kept hb2 0 _ rfl; have c2 := box_kept hb2 2 _ rfl; have c3 := box_kept hb2 3 _ rfl; have c4 := box_kept hb2 4 _ rfl; have c5 := box_kept hb2 5 _ rfl; have c6 := box_kept hb2 6 _ rfl) | (go_at_call 190; refine (CV.out _).mono ?_; rintro e w' ⟨rfl, rfl⟩))
  go_ret
  exact ⟨rfl, below_next B0.out hb2 (Nat.le_refl _)⟩
 ·have GV := Lib.hid (fun w => implGlue_any 0 1 0 1 (by unfold GlueOk; decide) w)
  have B0 := Lib.hid ((Below.refl w.heap.size w).alloc (Nat.le_refl _) (.cells #[.int .i64 2, .int .i64 0, .int .i64 1, .int .i64 0, .int .i64 1, .int .i64 0, .bool false] 113))
  unfold itV
  skip
  simp only
  go_enter Tryz.func183, Tryz.ntmps183
  go_wp2_with (first | (go_at_call 53; refine (GV.out _).mono ?_; rintro e w2 ⟨rfl, hb2⟩; have c0 := box_kept hb2 0 _ rfl; have c2 := box_kept hb2 2 _ rfl; have c3 := box_kept hb2 3 _ rfl; have c4 := box_kept hb2 4 _ rfl; have c5 := box_kept hb2 5 _ rfl; have c6 := box_kept hb2 6 _ rfl))
  go_ret
  exact ⟨rfl, below_next B0.out hb2 (Nat.le_refl _)⟩
 ·have GV := Lib.hid (fun w => implGlue_any 0 0 0 0 (by unfold GlueOk; decide) w)
  have B0 := Lib.hid ((Below.refl w.heap.size w).alloc (Nat.le_refl _) (.cells #[.int .i64 3, .int .i64 0, .int .i64 0, .int .i64 0, .int .i64 0, .int .i64 (-10000), .bool false] 113))
  have CV := Lib.hid (fun w => isCost_any (-10000) (by decide) w)
  unfold itV
  skip
  simp only
  go_enter Tryz.func183, Tryz.ntmps183
  go_wp2_with (first | (go_at_call 53; refine (GV.out _).mono ?_; rintro e w2 ⟨rfl, hb2⟩; have c0 := box_kept hb2 0 _ rfl; have c2 := box_kept hb2 2 _ rfl; have c3 := box_kept hb2 3 _ rfl; have c4 := box_kept hb2 4 _ rfl; have c5 := box_kept hb2 5 _ rfl; have c6 := box_kept hb2 6 _ rfl) | (go_at_call 190; refine (CV.out _).mono ?_; rintro e w' ⟨rfl, rfl⟩))
  go_ret
  exact ⟨rfl, below_next B0.out hb2 (Nat.le_refl _)⟩
set_option maxHeartbeats 4000000 in
theorem specItem_any (x : DItem) (h : PIt x) (w : World) : Calls Tryz.prog 152 #[itV x] w (Ret (.bool true) w) := by
 rcases h with ⟨q, h1, h2, rfl⟩ | rfl | rfl | rfl | rfl | rfl
 ·have GV := Lib.hid (fun w => specGlue_any q 0 0 0 (⟨h1, h2, Int.le_refl _, (by show (0 : Int) ≤ 1000; decide), Int.le_refl _, h1, Int.le_refl _, (by show (0 : Int) ≤ 1; decide)⟩) w)
  have B0 := Lib.hid ((Below.refl w.heap.size w).alloc (Nat.le_refl _) (.cells #[.int .i64 1, .int .i64 q, .int .i64 0, .int .i64 0, .int .i64 0, .int .i64 0, .bool false] 113))
  clear h1 h2
  unfold itV
  unfold boxI
  simp only
  go_enter Tryz.func152, Tryz.ntmps152
  go_wp2_with (first | (go_at_call 176; refine (GV.out _).mono ?_; rintro e w2 ⟨rfl, hb2⟩; have c0 := box_kept hb2 0 _ rfl; have c2 := box_kept hb2 2 _ rfl; have c3 := box_kept hb2 3 _ rfl; have c4 := box_kept hb2 4 _ rfl; have c5 := box_kept hb2 5 _ rfl; have c6 := box_kept hb2 6 _ rfl))
  go_ret
  exact ⟨rfl, below_next B0.out hb2 (Nat.le_refl _)⟩
 ·have GV := Lib.hid (fun w => specGlue_any 3 0 0 0 (by unfold GlueOk; decide) w)
  have B0 := Lib.hid ((Below.refl w.heap.size w).alloc (Nat.le_refl _) (.cells #[.int .i64 3, .int .i64 3, .int .i64 0, .int .i64 0, .int .i64 0, .int .i64 50, .bool true] 113))
  have IN : Hid (inB 50 0 10000 = true) := by show _ = _; decide
  unfold itV
  unfold hyI
  simp only
  go_enter Tryz.func152, Tryz.ntmps152
  go_wp2_with (first | (go_at_call 176; refine (GV.out _).mono ?_; rintro e w2 ⟨rfl, hb2⟩; have c0 := box_kept hb2 0 _ rfl; have c2 := box_kept hb2 2 _ rfl; have c3 := box_kept hb2 3 _ rfl; have c4 := box_kept hb2 4 _ rfl; have c5 := box_kept hb2 5 _ rfl; have c6 := box_kept hb2 6 _ rfl) | (go_at_call 34; refine (l1In_any _ _ _ _).mono ?_; rintro e w' ⟨rfl, rfl⟩; rw [IN.out]))
  go_ret
  exact ⟨rfl, below_next B0.out hb2 (Nat.le_refl _)⟩
 ·have GV := Lib.hid (fun w => specGlue_any 4 3 1 0 (by unfold GlueOk; decide) w)
  have B0 := Lib.hid ((Below.refl w.heap.size w).alloc (Nat.le_refl _) (.cells #[.int .i64 2, .int .i64 4, .int .i64 3, .int .i64 1, .int .i64 0, .int .i64 0, .bool false] 113))
  unfold itV
  unfold gluI
  simp only
  go_enter Tryz.func152, Tryz.ntmps152
  go_wp2_with (first | (go_at_call 176; refine (GV.out _).mono ?_; rintro e w2 ⟨rfl, hb2⟩; have c0 := box_kept hb2 0 _ rfl; have c2 := box_kept hb2 2 _ rfl; have c3 := box_kept hb2 3 _ rfl; have c4 := box_kept hb2 4 _ rfl; have c5 := box_kept hb2 5 _ rfl; have c6 := box_kept hb2 6 _ rfl))
  go_ret
  exact ⟨rfl, below_next B0.out hb2 (Nat.le_refl _)⟩
 ·have GV := Lib.hid (fun w => specGlue_any 0 0 0 0 (by unfold GlueOk; decide) w)
  have B0 := Lib.hid ((Below.refl w.heap.size w).alloc (Nat.le_refl _) (.cells #[.int .i64 3, .int .i64 0, .int .i64 0, .int .i64 0, .int .i64 0, .int .i64 10000, .bool false] 113))
  have IN : Hid (inB 10000 0 10000 = true) := by show _ = _; decide
  unfold itV
  skip
  simp only
  go_enter Tryz.func152, Tryz.ntmps152
  go_wp2_with (first | (go_at_call 176; refine (GV.out _).mono ?_; rintro e w2 ⟨rfl, hb2⟩; have c0 := box_kept hb2 0 _ rfl; have c2 := box_kept hb2 2 _ rfl; have c3 := box_kept hb2 3 _ rfl; have c4 := box_kept hb2 4 _ rfl; have c5 := box_kept hb2 5 _ rfl; have c6 := box_kept hb2 6 _ rfl) | (go_at_call 34; refine (l1In_any _ _ _ _).mono ?_; rintro e w' ⟨rfl, rfl⟩; rw [IN.out]))
  go_ret
  exact ⟨rfl, below_next B0.out hb2 (Nat.le_refl _)⟩
 ·have GV := Lib.hid (fun w => specGlue_any 0 1 0 1 (by unfold GlueOk; decide) w)
  have B0 := Lib.hid ((Below.refl w.heap.size w).alloc (Nat.le_refl _) (.cells #[.int .i64 2, .int .i64 0, .int .i64 1, .int .i64 0, .int .i64 1, .int .i64 0, .bool false] 113))
  unfold itV
  skip
  simp only
  go_enter Tryz.func152, Tryz.ntmps152
  go_wp2_with (first | (go_at_call 176; refine (GV.out _).mono ?_; rintro e w2 ⟨rfl, hb2⟩; have c0 := box_kept hb2 0 _ rfl; have c2 := box_kept hb2 2 _ rfl; have c3 := box_kept hb2 3 _ rfl; have c4 := box_kept hb2 4 _ rfl; have c5 := box_kept hb2 5 _ rfl; have c6 := box_kept hb2 6 _ rfl))
  go_ret
  exact ⟨rfl, below_next B0.out hb2 (Nat.le_refl _)⟩
 ·have GV := Lib.hid (fun w => specGlue_any 0 0 0 0 (by unfold GlueOk; decide) w)
  have B0 := Lib.hid ((Below.refl w.heap.size w).alloc (Nat.le_refl _) (.cells #[.int .i64 3, .int .i64 0, .int .i64 0, .int .i64 0, .int .i64 0, .int .i64 (-10000), .bool false] 113))
  have IN : Hid (inB (-10000) 0 10000 = false) := by show _ = _; decide
  unfold itV
  skip
  simp only
  go_enter Tryz.func152, Tryz.ntmps152
  go_wp2_with (first | (go_at_call 176; refine (GV.out _).mono ?_; rintro e w2 ⟨rfl, hb2⟩; have c0 := box_kept hb2 0 _ rfl; have c2 := box_kept hb2 2 _ rfl; have c3 := box_kept hb2 3 _ rfl; have c4 := box_kept hb2 4 _ rfl; have c5 := box_kept hb2 5 _ rfl; have c6 := box_kept hb2 6 _ rfl) | (go_at_call 34; refine (l1In_any _ _ _ _).mono ?_; rintro e w' ⟨rfl, rfl⟩; rw [IN.out]))
  go_ret
  exact ⟨rfl, below_next B0.out hb2 (Nat.le_refl _)⟩
end Go.Proofs.YtofnchdijanikaaGreatDoor

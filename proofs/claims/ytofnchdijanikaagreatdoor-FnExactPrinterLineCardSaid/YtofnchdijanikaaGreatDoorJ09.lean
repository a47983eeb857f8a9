/-
  PROVED HERE: what the printer's lines need, part J09. Conditions: each theorem's own.
-/
import Derived.Test.YtofnchdijanikaaGreatDoorJ08
set_option linter.unusedVariables false
set_option linter.unusedSimpArgs false
/- PrQ2: PROVED HERE: the parts of a word: what both sides return. Conditions: each theorem's own. -/
namespace Go.Proofs.YtofnchdijanikaaGreatDoor
open Go.RowKit
theorem ints_getD (l : List Nat) (j : Nat) (h : j < l.length) : (ints l).getD j 0 = ((l.getD j 0 : Nat) : Int) := by simp [ints, List.getD, h]
theorem ints_len (l : List Nat) : (ints l).length = l.length := by simp [ints]
theorem drop_next {α : Type} (l : List α) (d : α) (j : Nat) (h : j < l.length) : l.drop j = l.getD j d :: l.drop (j + 1) := by
 rw [List.drop_eq_getElem_cons h]
 simp [List.getD, h]
theorem bs_rest (l : List UInt8) (a n : Nat) (h : n = l.length) : (bs l).extract a n = bs (l.drop a) := by
 subst h
 exact bs_extract l a
theorem parts_len (word : List UInt8) (ps : List (List UInt8)) : (parts word ps).length = (places word ps).length + 1 := cutAt_len word _ _
/-- Behind j places. -/
def PartAt (word : List UInt8) (pl : List Nat) (wl j a : Nat) (xs P : List (List UInt8)) : Prop :=
 xs ++ cutAt word a (pl.drop j) = P ∧ (pl.drop j).Pairwise (· < ·) ∧ (∀ q ∈ pl.drop j, a ≤ q ∧ q ≤ wl) ∧ a ≤ wl
theorem PartAt.next {word : List UInt8} {pl : List Nat} {wl j a : Nat} {xs P : List (List UInt8)} (h : PartAt word pl wl j a xs P) (hj : j < pl.length) :
  a ≤ pl.getD j 0 ∧ pl.getD j 0 ≤ wl ∧ PartAt word pl wl (j + 1) (pl.getD j 0) (xs ++ [(word.drop a).take (pl.getD j 0 - a)]) P := by
 obtain ⟨h1, h2, h3, h4⟩ := h
 rw [drop_next pl 0 j hj] at h1 h2 h3
 obtain ⟨p, hp⟩ : ∃ p, p = pl.getD j 0 := ⟨_, rfl⟩
 rw [← hp] at h1 h2 h3 ⊢
 rw [List.pairwise_cons] at h2
 obtain ⟨b1, b2⟩ := h3 p (by simp)
 refine ⟨b1, b2, ?_, h2.2, fun q hq => ⟨Nat.le_of_lt (h2.1 q hq), (h3 q (List.mem_cons_of_mem _ hq)).2⟩, b2⟩
 rw [cutAt] at h1
 rw [← h1]
 simp
theorem PartAt.fin {word : List UInt8} {pl : List Nat} {wl j a : Nat} {xs P : List (List UInt8)} (h : PartAt word pl wl j a xs P) (hj : pl.length ≤ j) : xs ++ [word.drop a] = P := by
 have := h.1
 rw [List.drop_of_length_le hj] at this
 exact this
theorem PartAt.start (word : List UInt8) (ps : List (List UInt8)) : PartAt word (places word ps) word.length 0 0 [] (parts word ps) :=
 ⟨rfl, places_sorted word ps, fun q hq => by have := places_in hq; omega, Nat.zero_le _⟩
theorem PartAt.len {word : List UInt8} {pl : List Nat} {wl j a : Nat} {xs P : List (List UInt8)} (h : PartAt word pl wl j a xs P) : xs.length ≤ P.length := by
 rw [← h.1, List.length_append]
 omega
theorem kept_strs {w w' : World} {v : Value} {b m : Nat} {f : Nat → Value} (hg : w.grownBy w' v.ownBlock) (hb : b < w.heap.size) (hne : some b ≠ v.ownBlock) (h : ∀ j, j < m → w.cell? ⟨b, j, none⟩ = some (f j)) : ∀ j, j < m → w'.cell? ⟨b, j, none⟩ = some (f j) := fun j hj => by
 rw [World.cell?_of_block (hg.block b hb hne)]
 exact h j hj
theorem moved_alloc {w : World} {o : Obj} {v v' : Value} {g : Nat} (h : Moved (w.alloc o) v v') (h1 : some g ≠ v.ownBlock) (h2 : g < w.heap.size) : some g ≠ v'.ownBlock := h.apart h1 (by simp; omega)
set_option maxRecDepth 100000 in
set_option maxHeartbeats 8000000 in
theorem implHParts_any (word : List UInt8) (hv : wordB word = true) (pv : Value) (ps : List (List UInt8)) (hps : patsB ps = true) (w : World) (hr : TxtS w pv ps) :
  Calls Tryz.prog 135 #[.string (bs word), pv] w (TxtsPost (parts word ps) w) := by
 have O0 : Hid (OwnT w w.heap.size (.slice none 0 0) []) := OwnT.nil w _
 have B0 := Lib.hid (Below.refl w.heap.size w)
 have hr2 : TxtS w pv ps := hr.below B0.out
 have WV := Lib.hid (fun w => implWord_any word (by have := (wordB_true hv).2.2; omega) w)
 rw [hv] at WV
 have PVV := Lib.hid (implPats_any pv ps w hr2 (sh_of_pats hps))
 rw [hps] at PVV
 have PQ := Lib.hid (implPlaces_any word hv pv ps hps w hr2)
 have ST := Lib.hid (PartAt.start word ps)
 have PLN := parts_len word ps
 have PL20 := places_len word ps
 obtain ⟨wl, hwl⟩ : ∃ wl, wl = word.length := ⟨_, rfl⟩
 have wl20 : wl ≤ 20 := by rw [hwl]; exact (wordB_true hv).2.2
 have hs : (bs word).size = wl := by rw [hwl, bs_len]
 rw [← hwl] at ST PL20
 have HWL := Lib.hid hwl
 obtain ⟨P, hP⟩ : ∃ P, P = parts word ps := ⟨_, rfl⟩
 rw [← hP] at ST PLN ⊢
 obtain ⟨pl, hpl⟩ : ∃ pl, pl = places word ps := ⟨_, rfl⟩
 rw [← hpl] at PQ ST PL20 PLN
 have P40 : P.length ≤ 40 := by omega
 clear hv hps hr hr2 hwl hP hpl PLN
 by_cases h0 : pl.length = 0
 ·obtain rfl : pl = [] := List.eq_nil_of_length_eq_zero h0
  have F0 := Lib.hid (ST.out.fin (Nat.le_refl _))
  have SR := bs_rest word 0 wl HWL.out
  rw [List.drop_zero] at SR F0
  go_enter Tryz.func135, Tryz.ntmps135
  go_wp2_with (first | (go_at_call 77; refine (WV.out _).mono ?_; rintro e w' ⟨rfl, rfl⟩) | (go_at_call 56; refine PVV.out.mono ?_; rintro e w' ⟨rfl, rfl⟩) | (go_at_call 160; refine PQ.out.mono ?_; rintro e w2 ⟨v, rfl, hlo, hbw⟩; obtain ⟨la, lcap, rfl⟩ := (OwnI.row hlo).empty))
  have O1 : Hid (OwnT w2 w.heap.size (.slice none 0 0) []) := O0.out.below hbw
  have B1 : Hid (Below w.heap.size w w2) := below_next B0.out hbw (Nat.le_refl _)
  clear O0 hbw hlo B0
  refine wp_loop_rounds 1 ?_
  rw [rounds_succ]
  go_wp2_with (at_builtin; refine append_str w w2 rfl _ _ rfl w.heap.size (.slice none 0 0) [] word rfl rfl O1.out (Nat.zero_le _) (Nat.le_refl _) B1.out ?_; intro v' w5 hown' hbel hmv hgr)
  go_ret
  exact ⟨_, rfl, by rw [← F0.out]; exact hown', hbel⟩
 ·obtain ⟨m, hm⟩ : ∃ m, m = pl.length := ⟨_, rfl⟩
  have m0 : 0 < m := by omega
  have m20 : m ≤ 21 := by omega
  have HLV : Hid (m = (ints pl).length) := by show _ = _; rw [ints_len, hm]
  have IG := Lib.hid (fun j (hj : j < m) => ints_getD pl j (by rw [← hm]; exact hj))
  have HM := Lib.hid hm
  clear h0 hm PL20
  go_enter Tryz.func135, Tryz.ntmps135
  go_wp2_with (first | (go_at_call 77; refine (WV.out _).mono ?_; rintro e w' ⟨rfl, rfl⟩) | (go_at_call 56; refine PVV.out.mono ?_; rintro e w' ⟨rfl, rfl⟩) | (go_at_call 160; refine PQ.out.mono ?_; rintro e w2 ⟨v, rfl, hlo, hbw⟩; obtain ⟨lb, lcap, rfl, hll, hlg, LC⟩ := nums_pos HLV.out m0 hlo))
  have O1 : Hid (OwnT w2 w.heap.size (.slice none 0 0) []) := O0.out.below hbw
  have B1 : Hid (Below w.heap.size w w2) := below_next B0.out hbw (Nat.le_refl _)
  have AP0 : some lb ≠ Value.ownBlock (.slice none 0 0) := fun h => by cases h
  have AP := Lib.hid AP0
  have HLL := Lib.hid hll
  clear O0 hbw hlo AP0 hll hlg B0
  go_loopw [5, 6, 21] (fun v av i wr => ∃ (j a : Nat) (xs : List (List UInt8)), j ≤ m ∧ av = .int .i64 a ∧ i = .int .i64 j ∧ Hid (PartAt word pl wl j a xs P) ∧ Hid (OwnT wr w.heap.size v xs) ∧ Hid (Below w.heap.size w wr) ∧ Hid (some lb ≠ v.ownBlock) ∧ Hid (lb < wr.heap.size) ∧ Hid (∀ j, j < m → wr.cell? ⟨lb, j, none⟩ = some (.int .i64 ((ints pl).getD j 0)))) (fun _ _ i _ => m - (intOf i).toNat)
  case atStart => exact ⟨0, 0, [], Nat.zero_le _, rfl, rfl, ST.out, O1.out, B1.out, AP.out, HLL.out, LC.out⟩
  case round =>
   obtain ⟨j, a, xs, hj, rfl, rfl, hpa, ho, hb, hap, hlb, hl⟩ := hrel
   clear O1 B1 AP HLL LC
   have hwr := hb.out.size
   have XL : xs.length ≤ 4000000 := by have := hpa.out.len; omega
   by_cases hlt : j < m
   ·have c1 := hl.out j hlt
    rw [IG.out j hlt] at c1
    obtain ⟨p1, p2, p3⟩ := hpa.out.next (by rw [← HM.out]; exact hlt)
    obtain ⟨p, hp⟩ : ∃ p, p = pl.getD j 0 := ⟨_, rfl⟩
    rw [← hp] at c1 p1 p2 p3
    have NX := Lib.hid p3
    have SB := bs_sub word a p
    clear hp p3
    go_wp2_with (at_builtin; refine append_str w wr rfl _ _ rfl w.heap.size u5 xs ((word.drop a).take (p - a)) rfl rfl ho.out XL (Nat.le_refl _) hb.out ?_; intro v' w5 hown' hbel hmv hgr)
    have K1 := Lib.hid (kept_cells hgr hlb.out hap.out hl.out)
    have K2 := Lib.hid (moved_alloc hmv hap.out hlb.out)
    have K3 : Hid (lb < w5.heap.size) := Nat.lt_of_lt_of_le hlb.out hgr.size
    go_roundw
    case rel => exact ⟨j + 1, p, _, by omega, rfl, by go_num, NX.out, hown', hbel, K2.out, K3.out, K1.out⟩
    case measure => simp [intOf]; omega
   ·obtain rfl : j = m := by omega
    have al := hpa.out.2.2.2
    have F0 := Lib.hid (hpa.out.fin (by rw [HM.out]; exact Nat.le_refl _))
    have SR := bs_rest word a wl HWL.out
    go_wp2_with (at_builtin; refine append_str w wr rfl _ _ rfl w.heap.size u5 xs (word.drop a) rfl rfl ho.out XL (Nat.le_refl _) hb.out ?_; intro v' w5 hown' hbel hmv hgr)
    go_ret
    exact ⟨_, rfl, by rw [← F0.out]; exact hown', hbel⟩
set_option maxRecDepth 100000 in
set_option maxHeartbeats 8000000 in
theorem specHParts_any (word : List UInt8) (hv : wordB word = true) (pv : Value) (ps : List (List UInt8)) (hps : patsB ps = true) (w : World) (hr : TxtS w pv ps) :
  Calls Tryz.prog 99 #[.string (bs word), pv] w (TxtsPost (parts word ps) w) := by
 have O0 : Hid (OwnT (w.alloc (.cells #[] 9)) w.heap.size (.slice (some ⟨w.heap.size, 0, none⟩) 0 0) []) := OwnT.made w (Nat.le_refl _)
 have B0 := Lib.hid ((Below.refl w.heap.size w).alloc (Nat.le_refl _) (.cells #[] 9))
 have hr2 : TxtS (w.alloc (.cells #[] 9)) pv ps := hr.below B0.out
 have WV := Lib.hid (fun w => specWord_any word (by have := (wordB_true hv).2.2; omega) w)
 rw [hv] at WV
 have PVV := Lib.hid (specPats_any pv ps (w.alloc (.cells #[] 9)) hr2 (sh_of_pats hps))
 rw [hps] at PVV
 have PQ := Lib.hid (specPlaces_any word hv pv ps hps (w.alloc (.cells #[] 9)) hr2)
 have ST := Lib.hid (PartAt.start word ps)
 have PLN := parts_len word ps
 have PL20 := places_len word ps
 obtain ⟨wl, hwl⟩ : ∃ wl, wl = word.length := ⟨_, rfl⟩
 have wl20 : wl ≤ 20 := by rw [hwl]; exact (wordB_true hv).2.2
 have hs : (bs word).size = wl := by rw [hwl, bs_len]
 rw [← hwl] at ST PL20
 have HWL := Lib.hid hwl
 obtain ⟨P, hP⟩ : ∃ P, P = parts word ps := ⟨_, rfl⟩
 rw [← hP] at ST PLN ⊢
 obtain ⟨pl, hpl⟩ : ∃ pl, pl = places word ps := ⟨_, rfl⟩
 rw [← hpl] at PQ ST PL20 PLN
 have P40 : P.length ≤ 40 := by omega
 clear hv hps hr hr2 hwl hP hpl PLN
 by_cases h0 : pl.length = 0
 ·obtain rfl : pl = [] := List.eq_nil_of_length_eq_zero h0
  have F0 := Lib.hid (ST.out.fin (Nat.le_refl _))
  have SR := bs_rest word 0 wl HWL.out
  rw [List.drop_zero] at SR F0
  go_enter Tryz.func99, Tryz.ntmps99
  go_wp2_with (first | (go_at_call 75; refine (WV.out _).mono ?_; rintro e w' ⟨rfl, rfl⟩) | (go_at_call 52; refine PVV.out.mono ?_; rintro e w' ⟨rfl, rfl⟩) | (go_at_call 129; refine PQ.out.mono ?_; rintro e w2 ⟨v, rfl, hlo, hbw⟩; obtain ⟨la, lcap, rfl⟩ := (OwnI.row hlo).empty))
  have O1 : Hid (OwnT w2 w.heap.size (.slice (some ⟨w.heap.size, 0, none⟩) 0 0) []) := O0.out.below hbw
  have B1 : Hid (Below w.heap.size w w2) := below_next B0.out hbw (Nat.le_refl _)
  clear O0 hbw hlo B0
  refine wp_loop_rounds 1 ?_
  rw [rounds_succ]
  go_wp2_with (at_builtin; refine append_str w w2 rfl _ _ rfl w.heap.size (.slice (some ⟨w.heap.size, 0, none⟩) 0 0) [] word rfl rfl O1.out (Nat.zero_le _) (Nat.le_refl _) B1.out ?_; intro v' w5 hown' hbel hmv hgr)
  go_ret
  exact ⟨_, rfl, by rw [← F0.out]; exact hown', hbel⟩
 ·obtain ⟨m, hm⟩ : ∃ m, m = pl.length := ⟨_, rfl⟩
  have m0 : 0 < m := by omega
  have m20 : m ≤ 21 := by omega
  have HLV : Hid (m = (ints pl).length) := by show _ = _; rw [ints_len, hm]
  have IG := Lib.hid (fun j (hj : j < m) => ints_getD pl j (by rw [← hm]; exact hj))
  have HM := Lib.hid hm
  clear h0 hm PL20
  go_enter Tryz.func99, Tryz.ntmps99
  go_wp2_with (first | (go_at_call 75; refine (WV.out _).mono ?_; rintro e w' ⟨rfl, rfl⟩) | (go_at_call 52; refine PVV.out.mono ?_; rintro e w' ⟨rfl, rfl⟩) | (go_at_call 129; refine PQ.out.mono ?_; rintro e w2 ⟨v, rfl, hlo, hbw⟩; obtain ⟨lb, lcap, rfl, hll, hlg, LC⟩ := nums_pos HLV.out m0 hlo))
  have O1 : Hid (OwnT w2 w.heap.size (.slice (some ⟨w.heap.size, 0, none⟩) 0 0) []) := O0.out.below hbw
  have B1 : Hid (Below w.heap.size w w2) := below_next B0.out hbw (Nat.le_refl _)
  have AP0 : some lb ≠ Value.ownBlock (.slice (some ⟨w.heap.size, 0, none⟩) 0 0) := by
   have e : w.heap.size < lb := by simp at hlg; omega
   intro h
   have this : lb = w.heap.size := Option.some.inj h
   omega
  have AP := Lib.hid AP0
  have HLL := Lib.hid hll
  clear O0 hbw hlo AP0 hll hlg B0
  go_loopw [5, 7, 8] (fun v av i wr => ∃ (j a : Nat) (xs : List (List UInt8)), j ≤ m ∧ av = .int .i64 a ∧ i = .int .i64 j ∧ Hid (PartAt word pl wl j a xs P) ∧ Hid (OwnT wr w.heap.size v xs) ∧ Hid (Below w.heap.size w wr) ∧ Hid (some lb ≠ v.ownBlock) ∧ Hid (lb < wr.heap.size) ∧ Hid (∀ j, j < m → wr.cell? ⟨lb, j, none⟩ = some (.int .i64 ((ints pl).getD j 0)))) (fun _ _ i _ => m - (intOf i).toNat)
  case atStart => exact ⟨0, 0, [], Nat.zero_le _, rfl, rfl, ST.out, O1.out, B1.out, AP.out, HLL.out, LC.out⟩
  case round =>
   obtain ⟨j, a, xs, hj, rfl, rfl, hpa, ho, hb, hap, hlb, hl⟩ := hrel
   clear O1 B1 AP HLL LC
   have hwr := hb.out.size
   have XL : xs.length ≤ 4000000 := by have := hpa.out.len; omega
   by_cases hlt : j < m
   ·have c1 := hl.out j hlt
    rw [IG.out j hlt] at c1
    obtain ⟨p1, p2, p3⟩ := hpa.out.next (by rw [← HM.out]; exact hlt)
    obtain ⟨p, hp⟩ : ∃ p, p = pl.getD j 0 := ⟨_, rfl⟩
    rw [← hp] at c1 p1 p2 p3
    have NX := Lib.hid p3
    have PG : Hid ((ints pl).getD j 0 = (p : Int)) := by show _ = _; rw [IG.out j hlt, ← hp]
    have SB := bs_sub word a p
    clear hp p3
    go_wp2_with (at_builtin; refine append_str w wr rfl _ _ rfl w.heap.size u5 xs ((word.drop a).take (p - a)) rfl rfl ho.out XL (Nat.le_refl _) hb.out ?_; intro v' w5 hown' hbel hmv hgr; have K1 := Lib.hid (kept_cells hgr hlb.out hap.out hl.out); have c2 := K1.out j hlt; rw [PG.out] at c2)
    have K2 := Lib.hid (moved_alloc hmv hap.out hlb.out)
    have K3 : Hid (lb < w5.heap.size) := Nat.lt_of_lt_of_le hlb.out hgr.size
    go_roundw
    case rel => exact ⟨j + 1, p, _, by omega, rfl, by go_num, NX.out, hown', hbel, K2.out, K3.out, K1.out⟩
    case measure => simp [intOf]; omega
   ·obtain rfl : j = m := by omega
    have al := hpa.out.2.2.2
    have F0 := Lib.hid (hpa.out.fin (by rw [HM.out]; exact Nat.le_refl _))
    have SR := bs_rest word a wl HWL.out
    go_wp2_with (at_builtin; refine append_str w wr rfl _ _ rfl w.heap.size u5 xs (word.drop a) rfl rfl ho.out XL (Nat.le_refl _) hb.out ?_; intro v' w5 hown' hbel hmv hgr)
    go_ret
    exact ⟨_, rfl, by rw [← F0.out]; exact hown', hbel⟩
end Go.Proofs.YtofnchdijanikaaGreatDoor
/- PrJ: PROVED HERE: what the tests of glues and items return, for the items of a paragraph. Conditions: each theorem's own. -/
namespace Go.Proofs.YtofnchdijanikaaGreatDoor
open Go.RowKit
/-- An item as a value; its cells. -/
def itV (x : DItem) : Value := .agg #[.int .i64 x.kind, .int .i64 x.w, .int .i64 x.st, .int .i64 x.sh, .int .i64 x.od, .int .i64 x.cost, .bool x.mark]
def encI (x : DItem) : List Value := [.int .i64 x.kind, .int .i64 x.w, .int .i64 x.st, .int .i64 x.sh, .int .i64 x.od, .int .i64 x.cost, .bool x.mark]
theorem encI_len (x : DItem) : (encI x).length = 7 := rfl
theorem encI_pos (x : DItem) : 0 < (encI x).length := by rw [encI_len]; decide
/-- The items of paragraphs. -/
def PIt (x : DItem) : Prop := (∃ w, 0 ≤ w ∧ w ≤ 1000 ∧ x = boxI w) ∨ x = hyI ∨ x = gluI ∨ x = ⟨3, 0, 0, 0, 0, 10000, false⟩ ∨ x = ⟨2, 0, 1, 0, 1, 0, false⟩ ∨ x = ⟨3, 0, 0, 0, 0, -10000, false⟩
structure PIs (xs : List DItem) : Prop where
 len : xs.length ≤ 60
 all : ∀ x ∈ xs, PIt x
theorem PIt.ok {x : DItem} (h : PIt x) : ItemOk x := by
 rcases h with ⟨w, h1, h2, rfl⟩ | rfl | rfl | rfl | rfl | rfl
 ·exact boxI_ok ⟨h1, h2⟩
 ·exact hyI_ok
 ·exact gluI_ok
 ·exact endI_ok _ (by simp [endI])
 ·exact endI_ok _ (by simp [endI])
 ·exact endI_ok _ (by simp [endI])
theorem PIs.ok {xs : List DItem} (h : PIs xs) : ItemsOk xs := ⟨h.len, fun x hx => (h.all x hx).ok⟩
theorem wordTo_pit (ps : List (List UInt8)) (h : ∀ x ∈ ps, wordB x = true) : ∀ k, k ≤ ps.length → ∀ x ∈ wordTo ps k, PIt x
 | 0, _ => fun x hx => by cases hx
 | k + 1, hk => fun x hx => by
  rw [wordTo, List.mem_append, List.mem_append, List.mem_singleton] at hx
  rcases hx with hx | hx | rfl
  ·exact wordTo_pit ps h k (by omega) x hx
  ·split at hx
   ·rw [List.mem_singleton] at hx; rw [hx]; exact .inr (.inl rfl)
   ·cases hx
  ·have e : ps.getD k [] = ps[k] := by simp [List.getD, show k < ps.length by omega]
   have := width_bd (h ps[k] (List.getElem_mem (by omega)))
   rw [e]
   exact .inl ⟨_, by omega, by omega, rfl⟩
theorem paraTo_pit (ws ps : List (List UInt8)) (h : ∀ x ∈ ws, wordB x = true) : ∀ k, k ≤ ws.length → ∀ x ∈ paraTo ws ps k, PIt x
 | 0, _ => fun x hx => by cases hx
 | k + 1, hk => fun x hx => by
  rw [paraTo, List.mem_append, List.mem_append] at hx
  have e : ws.getD k [] = ws[k] := by simp [List.getD, show k < ws.length by omega]
  rcases hx with hx | hx | hx
  ·exact paraTo_pit ws ps h k (by omega) x hx
  ·split at hx
   ·rw [List.mem_singleton] at hx; rw [hx]; exact .inr (.inr (.inl rfl))
   ·cases hx
  ·refine wordTo_pit _ ?_ _ (Nat.le_refl _) x hx
   rw [e]
   exact (parts_good ps (h ws[k] (List.getElem_mem (by omega)))).1
theorem paraI_pis {ws ps : List (List UInt8)} (h : ∀ x ∈ ws, wordB x = true) (hl : (paraI ws ps).length ≤ 60) : PIs (paraI ws ps) :=
 ⟨hl, fun x hx => by
  unfold paraI at hx
  rw [List.mem_append] at hx
  rcases hx with hx | hx
  ·exact paraTo_pit ws ps h _ (Nat.le_refl _) x hx
  ·unfold endI at hx
   simp only [List.mem_cons, List.not_mem_nil, or_false] at hx
   rcases hx with rfl | rfl | rfl
   ·exact .inr (.inr (.inr (.inl rfl)))
   ·exact .inr (.inr (.inr (.inr (.inl rfl))))
   ·exact .inr (.inr (.inr (.inr (.inr rfl))))⟩
theorem box_kept {w w2 : World} {cs : Array Value} {t : TypeId} (hb : Below (w.alloc (.cells cs t)).heap.size (w.alloc (.cells cs t)) w2) (i : Nat) (u : Value) (h : cs[i]? = some u) : w2.cell? ⟨w.heap.size, i, none⟩ = some u :=
 (hb.cell (p := ⟨w.heap.size, i, none⟩) (by simp)).trans (by rw [World.cell?_alloc_at _ _ _ _ rfl]; exact h)
theorem isBad_any (n : Int) (w : World) : Calls Tryz.prog 58 #[.int .i64 n] w fun e w' => e = .returned (.bool (inB n 0 10000)) ∧ w = w' := by
 go_enter Tryz.func58, Tryz.ntmps58
 go_wp2_with (go_at_call 57; refine (in_any _ _ _ _).mono ?_; rintro e w' ⟨rfl, rfl⟩)
 go_ret
 exact ⟨rfl, rfl⟩
/-- A cost that an item may have. -/
theorem isCost_any (n : Int) (h : (0 ≤ n ∧ n ≤ 10000) ∨ n = -10000) (w : World) : Calls Tryz.prog 190 #[.int .i64 n] w fun e w' => e = .returned (.bool true) ∧ w = w' := by
 rcases h with h | rfl
 ·have IN : Hid (inB n 0 10000 = true) := inB_yes h.1 h.2
  clear h
  go_enter Tryz.func190, Tryz.ntmps190
  go_wp2_with (go_at_call 58; refine (isBad_any _ _).mono ?_; rintro e w' ⟨rfl, rfl⟩; rw [IN.out])
  go_ret
  exact ⟨rfl, rfl⟩
 ·have IN : Hid (inB (-10000) 0 10000 = false) := inB_no (by omega)
  go_enter Tryz.func190, Tryz.ntmps190
  go_wp2_with (go_at_call 58; refine (isBad_any _ _).mono ?_; rintro e w' ⟨rfl, rfl⟩; rw [IN.out])
  go_ret
  exact ⟨rfl, rfl⟩
set_option maxRecDepth 100000 in
theorem implGlue_any (a b c d : Int) (h : GlueOk ⟨a, b, c, d⟩) (w : World) : Calls Tryz.prog 53 #[.agg #[.int .i64 a, .int .i64 b, .int .i64 c, .int .i64 d]] w (Ret (.bool true) w) := by
 unfold GlueOk at h
 simp only at h
 have I1 : Hid (inB a 0 1000 = true) := inB_yes (by omega) (by omega)
 have I2 : Hid (inB b 0 1000 = true) := inB_yes (by omega) (by omega)
 have I3 : Hid (inB c 0 a = true) := inB_yes (by omega) (by omega)
 have I4 : Hid (inB d 0 1 = true) := inB_yes (by omega) (by omega)
 have B0 := Lib.hid ((Below.refl w.heap.size w).alloc (Nat.le_refl _) (.cells #[.int .i64 a, .int .i64 b, .int .i64 c, .int .i64 d] 71))
 clear h
 go_enter Tryz.func53, Tryz.ntmps53
 go_wp2_with (go_at_call 57; refine (in_any _ _ _ _).mono ?_; rintro e w' ⟨rfl, rfl⟩; first | rw [I1.out] | rw [I2.out] | rw [I3.out] | rw [I4.out])
 go_ret
 exact ⟨rfl, B0.out⟩
set_option maxRecDepth 100000 in
theorem specGlue_any (a b c d : Int) (h : GlueOk ⟨a, b, c, d⟩) (w : World) : Calls Tryz.prog 176 #[.agg #[.int .i64 a, .int .i64 b, .int .i64 c, .int .i64 d]] w (Ret (.bool true) w) := by
 unfold GlueOk at h
 simp only at h
 have I1 : Hid (inB a 0 1000 = true) := inB_yes (by omega) (by omega)
 have I2 : Hid (inB b 0 1000 = true) := inB_yes (by omega) (by omega)
 have I3 : Hid (inB c 0 a = true) := inB_yes (by omega) (by omega)
 have I4 : Hid (inB d 0 1 = true) := inB_yes (by omega) (by omega)
 have B0 := Lib.hid ((Below.refl w.heap.size w).alloc (Nat.le_refl _) (.cells #[.int .i64 a, .int .i64 b, .int .i64 c, .int .i64 d] 71))
 clear h
 go_enter Tryz.func176, Tryz.ntmps176
 go_wp2_with (go_at_call 34; refine (l1In_any _ _ _ _).mono ?_; rintro e w' ⟨rfl, rfl⟩; first | rw [I1.out] | rw [I2.out] | rw [I3.out] | rw [I4.out])
 go_ret
 exact ⟨rfl, B0.out⟩
set_option maxRecDepth 100000 in
set_option maxHeartbeats 4000000 in
theorem implItem_any (x : DItem) (h : PIt x) (w : World) : Calls Tryz.prog 183 #[itV x] w (Ret (.bool true) w) := by
 rcases h with ⟨q, h1, h2, rfl⟩ | rfl | rfl | rfl | rfl | rfl
 ·have GV := Lib.hid (fun w => implGlue_any q 0 0 0 (⟨h1, h2, Int.le_refl _, (by show (0 : Int) ≤ 1000; decide), Int.le_refl _, h1, Int.le_refl _, (by show (0 : Int) ≤ 1; decide)⟩) w)
  have B0 := Lib.hid ((Below.refl w.heap.size w).alloc (Nat.le_refl _) (.cells #[.int .i64 1, .int .i64 q, .int .i64 0, .int .i64 0, .int .i64 0, .int .i64 0, .bool false] 113))
  clear h1 h2
  unfold itV
  unfold boxI
  simp only
  go_enter Tryz.func183, Tryz.ntmps183
  go_wp2_with (first | (go_at_call 53; refine (GV.out _).mono ?_; rintro e w2 ⟨rfl, hb2⟩; have c0 := box_kept hb2 0 _ rfl; have c2 := box_kept hb2 2 _ rfl; have c3 := box_kept hb2 3 _ rfl; have c4 := box_kept hb2 4 _ rfl; have c5 := box_kept hb2 5 _ rfl; have c6 := box_kept hb2 6 _ rfl))
  go_ret
  exact ⟨rfl, below_next B0.out hb2 (Nat.le_refl _)⟩
 ·have GV := Lib.hid (fun w => implGlue_any 3 0 0 0 (by unfold GlueOk; decide) w)
  have B0 := Lib.hid ((Below.refl w.heap.size w).alloc (Nat.le_refl _) (.cells #[.int .i64 3, .int .i64 3, .int .i64 0, .int .i64 0, .int .i64 0, .int .i64 50, .bool true] 113))
  have CV := Lib.hid (fun w => isCost_any 50 (by decide) w)
  unfold itV
  unfold hyI
  simp only
  go_enter Tryz.func183, Tryz.ntmps183
  go_wp2_with (first | (go_at_call 53; refine (GV.out _).mono ?_; rintro e w2 ⟨rfl, hb2⟩; have c0 := box_kept hb2 0 _ rfl; have c2 := box_kept hb2 2 _ rfl; have c3 := box_kept hb2 3 _ rfl; have c4 := box_kept hb2 4 _ rfl; have c5 := box_kept hb2 5 _ rfl; have c6 := box_kept hb2 6 _ rfl) | (go_at_call 190; refine (CV.out _).mono ?_; rintro e w' ⟨rfl, rfl⟩))
  go_ret
  exact ⟨rfl, below_next B0.out hb2 (Nat.le_refl _)⟩
 ·have GV := Lib.hid (fun w => implGlue_any 4 3 1 0 (by unfold GlueOk; decide) w)
  have B0 := Lib.hid ((Below.refl w.heap.size w).alloc (Nat.le_refl _) (.cells #[.int .i64 2, .int .i64 4, .int .i64 3, .int .i64 1, .int .i64 0, .int .i64 0, .bool false] 113))
  unfold itV
  unfold gluI
  simp only
  go_enter Tryz.func183, Tryz.ntmps183
  go_wp2_with (first | (go_at_call 53; refine (GV.out _).mono ?_; rintro e w2 ⟨rfl, hb2⟩; have c0 := box_kept hb2 0 _ rfl; have c2 := box_kept hb2 2 _ rfl; have c3 := box_kept hb2 3 _ rfl; have c4 := box_kept hb2 4 _ rfl; have c5 := box_kept hb2 5 _ rfl; have c6 := box_kept hb2 6 _ rfl))
  go_ret
  exact ⟨rfl, below_next B0.out hb2 (Nat.le_refl _)⟩
 ·have GV := Lib.hid (fun w => implGlue_any 0 0 0 0 (by unfold GlueOk; decide) w)
  have B0 := Lib.hid ((Below.refl w.heap.size w).alloc (Nat.le_refl _) (.cells #[.int .i64 3, .int .i64 0, .int .i64 0, .int .i64 0, .int .i64 0, .int .i64 10000, .bool false] 113))
  have CV := Lib.hid (fun w => isCost_any 10000 (by decide) w)
  unfold itV
  skip
  simp only
  go_enter Tryz.func183, Tryz.ntmps183
  go_wp2_with (first | (go_at_call 53; refine (GV.out _).mono ?_; rintro e w2 ⟨rfl, hb2⟩; have c0 := box_kept hb2 0 _ rfl; have c2 := box_kept hb2 2 _ rfl; have c3 := box_kept hb2 3 _ rfl; have c4 := box_kept hb2 4 _ rfl; have c5 := box_kept hb2 5 _ rfl; have c6 := box_kept hb2 6 _ rfl) | (go_at_call 190; refine (CV.out _).mono ?_; rintro e w' ⟨rfl, rfl⟩))
  go_ret
  exact ⟨rfl, below_next B0.out hb2 (Nat.le_refl _)⟩
 ·have GV := Lib.hid (fun w => implGlue_any 0 1 0 1 (by unfold GlueOk; decide) w)
  have B0 := Lib.hid ((Below.refl w.heap.size w).alloc (Nat.le_refl _) (.cells #[.int .i64 2, .int .i64 0, .int .i64 1, .int .i64 0, .int .i64 1, .int .i64 0, .bool false] 113))
  unfold itV
  skip
  simp only
  go_enter Tryz.func183, Tryz.ntmps183
  go_wp2_with (first | (go_at_call 53; refine (GV.out _).mono ?_; rintro e w2 ⟨rfl, hb2⟩; have c0 := box_kept hb2 0 _ rfl; have c2 := box_kept hb2 2 _ rfl; have c3 := box_kept hb2 3 _ rfl; have c4 := box_kept hb2 4 _ rfl; have c5 := box_kept hb2 5 _ rfl; have c6 := box_kept hb2 6 _ rfl))
  go_ret
  exact ⟨rfl, below_next B0.out hb2 (Nat.le_refl _)⟩
 ·have GV := Lib.hid (fun w => implGlue_any 0 0 0 0 (by unfold GlueOk; decide) w)
  have B0 := Lib.hid ((Below.refl w.heap.size w).alloc (Nat.le_refl _) (.cells #[.int .i64 3, .int .i64 0, .int .i64 0, .int .i64 0, .int .i64 0, .int .i64 (-10000), .bool false] 113))
  have CV := Lib.hid (fun w => isCost_any (-10000) (by decide) w)
  unfold itV
  skip
  simp only
  go_enter Tryz.func183, Tryz.ntmps183
  go_wp2_with (first | (go_at_call 53; refine (GV.out _).mono ?_; rintro e w2 ⟨rfl, hb2⟩; have c0 := box_kept hb2 0 _ rfl; have c2 := box_kept hb2 2 _ rfl; have c3 := box_kept hb2 3 _ rfl; have c4 := box_kept hb2 4 _ rfl; have c5 := box_kept hb2 5 _ rfl; have c6 := box_kept hb2 6 _ rfl) | (go_at_call 190; refine (CV.out _).mono ?_; rintro e w' ⟨rfl, rfl⟩))
  go_ret
  exact ⟨rfl, below_next B0.out hb2 (Nat.le_refl _)⟩
set_option maxRecDepth 100000 in
set_option maxHeartbeats 4000000 in
theorem specItem_any (x : DItem) (h : PIt x) (w : World) : Calls Tryz.prog 152 #[itV x] w (Ret (.bool true) w) := by
 rcases h with ⟨q, h1, h2, rfl⟩ | rfl | rfl | rfl | rfl | rfl
 ·have GV := Lib.hid (fun w => specGlue_any q 0 0 0 (⟨h1, h2, Int.le_refl _, (by show (0 : Int) ≤ 1000; decide), Int.le_refl _, h1, Int.le_refl _, (by show (0 : Int) ≤ 1; decide)⟩) w)
  have B0 := Lib.hid ((Below.refl w.heap.size w).alloc (Nat.le_refl _) (.cells #[.int .i64 1, .int .i64 q, .int .i64 0, .int .i64 0, .int .i64 0, .int .i64 0, .bool false] 113))
  clear h1 h2
  unfold itV
  unfold boxI
  simp only
  go_enter Tryz.func152, Tryz.ntmps152
  go_wp2_with (first | (go_at_call 176; refine (GV.out _).mono ?_; rintro e w2 ⟨rfl, hb2⟩; have c0 := box_kept hb2 0 _ rfl; have c2 := box_kept hb2 2 _ rfl; have c3 := box_kept hb2 3 _ rfl; have c4 := box_kept hb2 4 _ rfl; have c5 := box_kept hb2 5 _ rfl; have c6 := box_kept hb2 6 _ rfl))
  go_ret
  exact ⟨rfl, below_next B0.out hb2 (Nat.le_refl _)⟩
 ·have GV := Lib.hid (fun w => specGlue_any 3 0 0 0 (by unfold GlueOk; decide) w)
  have B0 := Lib.hid ((Below.refl w.heap.size w).alloc (Nat.le_refl _) (.cells #[.int .i64 3, .int .i64 3, .int .i64 0, .int .i64 0, .int .i64 0, .int .i64 50, .bool true] 113))
  have IN : Hid (inB 50 0 10000 = true) := by show _ = _; decide
  unfold itV
  unfold hyI
  simp only
  go_enter Tryz.func152, Tryz.ntmps152
  go_wp2_with (first | (go_at_call 176; refine (GV.out _).mono ?_; rintro e w2 ⟨rfl, hb2⟩; have c0 := box_kept hb2 0 _ rfl; have c2 := box_kept hb2 2 _ rfl; have c3 := box_kept hb2 3 _ rfl; have c4 := box_kept hb2 4 _ rfl; have c5 := box_kept hb2 5 _ rfl; have c6 := box_kept hb2 6 _ rfl) | (go_at_call 34; refine (l1In_any _ _ _ _).mono ?_; rintro e w' ⟨rfl, rfl⟩; rw [IN.out]))
  go_ret
  exact ⟨rfl, below_next B0.out hb2 (Nat.le_refl _)⟩
 ·have GV := Lib.hid (fun w => specGlue_any 4 3 1 0 (by unfold GlueOk; decide) w)
  have B0 := Lib.hid ((Below.refl w.heap.size w).alloc (Nat.le_refl _) (.cells #[.int .i64 2, .int .i64 4, .int .i64 3, .int .i64 1, .int .i64 0, .int .i64 0, .bool false] 113))
  unfold itV
  unfold gluI
  simp only
  go_enter Tryz.func152, Tryz.ntmps152
  go_wp2_with (first | (go_at_call 176; refine (GV.out _).mono ?_; rintro e w2 ⟨rfl, hb2⟩; have c0 := box_kept hb2 0 _ rfl; have c2 := box_kept hb2 2 _ rfl; have c3 := box_kept hb2 3 _ rfl; have c4 := box_kept hb2 4 _ rfl; have c5 := box_kept hb2 5 _ rfl; have c6 := box_kept hb2 6 _ rfl))
  go_ret
  exact ⟨rfl, below_next B0.out hb2 (Nat.le_refl _)⟩
 ·have GV := Lib.hid (fun w => specGlue_any 0 0 0 0 (by unfold GlueOk; decide) w)
  have B0 := Lib.hid ((Below.refl w.heap.size w).alloc (Nat.le_refl _) (.cells #[.int .i64 3, .int .i64 0, .int .i64 0, .int .i64 0, .int .i64 0, .int .i64 10000, .bool false] 113))
  have IN : Hid (inB 10000 0 10000 = true) := by show _ = _; decide
  unfold itV
  skip
  simp only
  go_enter Tryz.func152, Tryz.ntmps152
  go_wp2_with (first | (go_at_call 176; refine (GV.out _).mono ?_; rintro e w2 ⟨rfl, hb2⟩; have c0 := box_kept hb2 0 _ rfl; have c2 := box_kept hb2 2 _ rfl; have c3 := box_kept hb2 3 _ rfl; have c4 := box_kept hb2 4 _ rfl; have c5 := box_kept hb2 5 _ rfl; have c6 := box_kept hb2 6 _ rfl) | (go_at_call 34; refine (l1In_any _ _ _ _).mono ?_; rintro e w' ⟨rfl, rfl⟩; rw [IN.out]))
  go_ret
  exact ⟨rfl, below_next B0.out hb2 (Nat.le_refl _)⟩
 ·have GV := Lib.hid (fun w => specGlue_any 0 1 0 1 (by unfold GlueOk; decide) w)
  have B0 := Lib.hid ((Below.refl w.heap.size w).alloc (Nat.le_refl _) (.cells #[.int .i64 2, .int .i64 0, .int .i64 1, .int .i64 0, .int .i64 1, .int .i64 0, .bool false] 113))
  unfold itV
  skip
  simp only
  go_enter Tryz.func152, Tryz.ntmps152
  go_wp2_with (first | (go_at_call 176; refine (GV.out _).mono ?_; rintro e w2 ⟨rfl, hb2⟩; have c0 := box_kept hb2 0 _ rfl; have c2 := box_kept hb2 2 _ rfl; have c3 := box_kept hb2 3 _ rfl; have c4 := box_kept hb2 4 _ rfl; have c5 := box_kept hb2 5 _ rfl; have c6 := box_kept hb2 6 _ rfl))
  go_ret
  exact ⟨rfl, below_next B0.out hb2 (Nat.le_refl _)⟩
 ·have GV := Lib.hid (fun w => specGlue_any 0 0 0 0 (by unfold GlueOk; decide) w)
  have B0 := Lib.hid ((Below.refl w.heap.size w).alloc (Nat.le_refl _) (.cells #[.int .i64 3, .int .i64 0, .int .i64 0, .int .i64 0, .int .i64 0, .int .i64 (-10000), .bool false] 113))
  have IN : Hid (inB (-10000) 0 10000 = false) := by show _ = _; decide
  unfold itV
  skip
  simp only
  go_enter Tryz.func152, Tryz.ntmps152
  go_wp2_with (first | (go_at_call 176; refine (GV.out _).mono ?_; rintro e w2 ⟨rfl, hb2⟩; have c0 := box_kept hb2 0 _ rfl; have c2 := box_kept hb2 2 _ rfl; have c3 := box_kept hb2 3 _ rfl; have c4 := box_kept hb2 4 _ rfl; have c5 := box_kept hb2 5 _ rfl; have c6 := box_kept hb2 6 _ rfl) | (go_at_call 34; refine (l1In_any _ _ _ _).mono ?_; rintro e w' ⟨rfl, rfl⟩; rw [IN.out]))
  go_ret
  exact ⟨rfl, below_next B0.out hb2 (Nat.le_refl _)⟩
end Go.Proofs.YtofnchdijanikaaGreatDoor
/- PrJ2: PROVED HERE: rows of items: valid, where lines may end and begin: what both sides return. Conditions: each theorem's own. -/
namespace Go.Proofs.YtofnchdijanikaaGreatDoor
open Go.RowKit
/-- The seven cells of an item. -/
structure Cell7 (w : World) (b o : Nat) (x : DItem) : Prop where
 c0 : w.cell? ⟨b, o, none⟩ = some (.int .i64 x.kind)
 c1 : w.cell? ⟨b, o + 1, none⟩ = some (.int .i64 x.w)
 c2 : w.cell? ⟨b, o + 2, none⟩ = some (.int .i64 x.st)
 c3 : w.cell? ⟨b, o + 3, none⟩ = some (.int .i64 x.sh)
 c4 : w.cell? ⟨b, o + 4, none⟩ = some (.int .i64 x.od)
 c5 : w.cell? ⟨b, o + 5, none⟩ = some (.int .i64 x.cost)
 c6 : w.cell? ⟨b, o + 6, none⟩ = some (.bool x.mark)
/-- A row of n items lies there. -/
def ItC (w : World) (b off n : Nat) (xs : List DItem) : Prop := n = xs.length ∧ b < w.heap.size ∧ ∀ j, j < n → Cell7 w b (off + j * 7) (it xs j)
theorem Cell7.below {w w' : World} {b o : Nat} {x : DItem} (h : Cell7 w b o x) (hb : Below w.heap.size w w') (hl : b < w.heap.size) : Cell7 w' b o x :=
 ⟨(hb.cell (p := ⟨b, o, none⟩) hl).trans h.c0, (hb.cell (p := ⟨b, o + 1, none⟩) hl).trans h.c1, (hb.cell (p := ⟨b, o + 2, none⟩) hl).trans h.c2, (hb.cell (p := ⟨b, o + 3, none⟩) hl).trans h.c3, (hb.cell (p := ⟨b, o + 4, none⟩) hl).trans h.c4, (hb.cell (p := ⟨b, o + 5, none⟩) hl).trans h.c5, (hb.cell (p := ⟨b, o + 6, none⟩) hl).trans h.c6⟩
theorem ItC.below {w w' : World} {b off n : Nat} {xs : List DItem} (h : ItC w b off n xs) (hb : Below w.heap.size w w') : ItC w' b off n xs :=
 ⟨h.1, Nat.lt_of_lt_of_le h.2.1 hb.size, fun j hj => (h.2.2 j hj).below hb h.2.1⟩
theorem ItC.of_row {w : World} {v : Value} {xs : List DItem} (h : SRow 7 encI w v xs) (hp : 0 < xs.length) : ∃ b off cap, v = .slice (some ⟨b, off, none⟩) xs.length cap ∧ ItC w b off xs.length xs := by
 obtain ⟨b, off, cap, hv, hb, hc⟩ := h.pos encI_pos hp
 refine ⟨b, off, cap, hv, rfl, hb, fun j hj => ?_⟩
 rw [it_lt xs j hj]
 exact ⟨by simpa using hc j hj 0 _ rfl, hc j hj 1 _ rfl, hc j hj 2 _ rfl, hc j hj 3 _ rfl, hc j hj 4 _ rfl, hc j hj 5 _ rfl, hc j hj 6 _ rfl⟩
theorem pit_kind {x : DItem} (h : PIt x) : (x.kind = 1 ∧ x.cost = 0 ∧ x.st = 0 ∧ x.sh = 0 ∧ x.od = 0 ∧ x.mark = false) ∨ (x.kind = 2 ∧ x.cost = 0 ∧ x.mark = false) ∨ (x.kind = 3 ∧ 0 ≤ x.cost ∧ x.cost ≤ 10000) ∨ (x.kind = 3 ∧ x.cost = -10000) := by
 rcases h with ⟨q, h1, h2, rfl⟩ | rfl | rfl | rfl | rfl | rfl
 ·exact .inl ⟨rfl, rfl, rfl, rfl, rfl, rfl⟩
 ·exact .inr (.inr (.inl (by unfold hyI; decide)))
 ·exact .inr (.inl (by unfold gluI; decide))
 ·exact .inr (.inr (.inl (by decide)))
 ·exact .inr (.inl (by decide))
 ·exact .inr (.inr (.inr (by decide)))
theorem PIs.at {xs : List DItem} (h : PIs xs) {j : Nat} (hj : j < xs.length) : PIt (it xs j) := by
 rw [it_lt xs j hj]
 exact h.all _ (List.getElem_mem hj)
theorem noForced_bad {xs : List DItem} {a tz j : Nat} (h1 : a ≤ j) (h2 : j < tz) (h : isForced (it xs j) = true) : noForced xs a tz = false := by
 unfold noForced
 cases hh : (List.range (tz - a)).all fun j => !isForced (it xs (a + j))
 ·rfl
 ·rw [all_range] at hh
  have := hh (j - a) (by omega)
  rw [show a + (j - a) = j by omega, h] at this
  cases this
theorem noForced_good {xs : List DItem} {a tz : Nat} (h : ∀ j, a ≤ j → j < tz → isForced (it xs j) = false) : noForced xs a tz = true := by
 unfold noForced
 rw [all_range]
 intro j hj
 rw [h (a + j) (by omega) (by omega)]
 rfl
set_option maxRecDepth 100000 in
set_option maxHeartbeats 4000000 in
theorem implItems_any (b off cap n : Nat) (xs : List DItem) (hx : PIs xs) (w : World) (hc : ItC w b off n xs) : Calls Tryz.prog 164 #[.slice (some ⟨b, off, none⟩) n cap] w (Ret (.bool true) w) := by
 have hn := hc.1
 have n60 : n ≤ 60 := by rw [hn]; exact hx.len
 have HX := Lib.hid hx
 have HC := Lib.hid hc
 have HN := Lib.hid hn
 clear hc hx hn
 go_enter Tryz.func164, Tryz.ntmps164
 go_wp2
 go_loopw [7] (fun i wr => ∃ k : Nat, k ≤ n ∧ i = .int .i64 k ∧ Hid (Below w.heap.size w wr)) (fun i _ => n - (intOf i).toNat)
 case atStart => exact ⟨0, Nat.zero_le _, rfl, Below.refl _ _⟩
 case round =>
  obtain ⟨k, hk, rfl, hb⟩ := hrel
  by_cases hlt : k < n
  ·obtain ⟨c0, c1, c2, c3, c4, c5, c6⟩ := (HC.out.below hb.out).2.2 k hlt
   have hbl : b < wr.heap.size := Nat.lt_of_lt_of_le HC.out.2.1 hb.out.size
   have hp := HX.out.at (j := k) (by rw [← HN.out]; exact hlt)
   obtain ⟨x, hxx⟩ : ∃ x, x = it xs k := ⟨_, rfl⟩
   rw [← hxx] at c0 c1 c2 c3 c4 c5 c6 hp
   have IV := Lib.hid (fun w => implItem_any x hp w)
   unfold itV at IV
   have BB := Lib.hid (hb.out.alloc hb.out.size (.cells #[.int .i64 x.kind, .int .i64 x.w, .int .i64 x.st, .int .i64 x.sh, .int .i64 x.od, .int .i64 x.cost, .bool x.mark] 113))
   clear hp hxx
   go_wp2_with (go_at_call 183; refine (IV.out _).mono ?_; rintro e w2 ⟨rfl, hb2⟩)
   have B2 := Lib.hid (below_next BB.out hb2 (Nat.le_refl _))
   clear hb2
   first
    | exact ⟨⟨k + 1, by omega, by go_num, B2.out⟩, by simp [intOf]; omega⟩
    | (go_roundw
       case rel => exact ⟨k + 1, by omega, by go_num, B2.out⟩
       case measure => simp [intOf]; omega)
  ·obtain rfl : k = n := by omega
   have n60' : (k : Int) ≤ 60 := by omega
   go_wp2
   go_ret
   exact ⟨rfl, hb.out⟩
set_option maxRecDepth 100000 in
set_option maxHeartbeats 4000000 in
theorem specItems_any (b off cap n : Nat) (xs : List DItem) (hx : PIs xs) (w : World) (hc : ItC w b off n xs) : Calls Tryz.prog 122 #[.slice (some ⟨b, off, none⟩) n cap] w (Ret (.bool true) w) := by
 have hn := hc.1
 have n60 : n ≤ 60 := by rw [hn]; exact hx.len
 have HX := Lib.hid hx
 have HC := Lib.hid hc
 have HN := Lib.hid hn
 clear hc hx hn
 go_enter Tryz.func122, Tryz.ntmps122
 go_wp2
 go_loopw [3] (fun i wr => ∃ k : Nat, k ≤ n ∧ i = .int .i64 k ∧ Hid (Below w.heap.size w wr)) (fun i _ => n - (intOf i).toNat)
 case atStart => exact ⟨0, Nat.zero_le _, rfl, Below.refl _ _⟩
 case round =>
  obtain ⟨k, hk, rfl, hb⟩ := hrel
  by_cases hlt : k < n
  ·obtain ⟨c0, c1, c2, c3, c4, c5, c6⟩ := (HC.out.below hb.out).2.2 k hlt
   have hbl : b < wr.heap.size := Nat.lt_of_lt_of_le HC.out.2.1 hb.out.size
   have hp := HX.out.at (j := k) (by rw [← HN.out]; exact hlt)
   obtain ⟨x, hxx⟩ : ∃ x, x = it xs k := ⟨_, rfl⟩
   rw [← hxx] at c0 c1 c2 c3 c4 c5 c6 hp
   have IV := Lib.hid (fun w => specItem_any x hp w)
   unfold itV at IV
   have BB := Lib.hid (hb.out)
   clear hp hxx
   go_wp2_with (go_at_call 152; refine (IV.out _).mono ?_; rintro e w2 ⟨rfl, hb2⟩)
   have B2 := Lib.hid (below_next BB.out hb2 (Nat.le_refl _))
   clear hb2
   first
    | exact ⟨⟨k + 1, by omega, by go_num, B2.out⟩, by simp [intOf]; omega⟩
    | (go_roundw
       case rel => exact ⟨k + 1, by omega, by go_num, B2.out⟩
       case measure => simp [intOf]; omega)
  ·obtain rfl : k = n := by omega
   have n60' : (k : Int) ≤ 60 := by omega
   go_wp2
   go_ret
   exact ⟨rfl, hb.out⟩
end Go.Proofs.YtofnchdijanikaaGreatDoor
/- PrL1: PROVED HERE: the sum of two glues, as the reference reckons it. Conditions: each theorem's own. -/
namespace Go.Proofs.YtofnchdijanikaaGreatDoor
open Go.RowKit
def glV (g : DGlue) : Value := .agg #[.int .i64 g.w, .int .i64 g.st, .int .i64 g.sh, .int .i64 g.od]
/-- Glue that is not too wide to be added. -/
def GlueSm (g : DGlue) : Prop := 0 ≤ g.w ∧ g.w ≤ 100000 ∧ 0 ≤ g.st ∧ g.st ≤ 100000 ∧ 0 ≤ g.sh ∧ g.sh ≤ 100000 ∧ (g.od = 0 ∨ g.od = 1)
theorem GlueOk.sm {g : DGlue} (h : GlueOk g) : GlueSm g := by unfold GlueOk at h; unfold GlueSm; omega
/-- It returns this glue. -/
def GluePost (g : DGlue) (w : World) (e : Ending) (w' : World) : Prop := e = .returned (glV g) ∧ Below w.heap.size w w'
set_option maxRecDepth 100000 in
set_option maxHeartbeats 8000000 in
theorem specAdd_any (a b : DGlue) (ha : GlueSm a) (hb : GlueSm b) (w : World) : Calls Tryz.prog 177 #[glV a, glV b] w (GluePost (addG a b) w) := by
 obtain ⟨aw, ast, ash, aod⟩ := a
 obtain ⟨bw, bst, bsh, bod⟩ := b
 unfold GlueSm at ha hb
 simp only at ha hb
 obtain ⟨a1, a2, a3, a4, a5, a6, a7⟩ := ha
 obtain ⟨b1, b2, b3, b4, b5, b6, b7⟩ := hb
 unfold GluePost glV
 simp only
 by_cases h1 : ast = 0
 ·by_cases h2 : bst = 0
  ·skip
   have E : Hid (addG ⟨aw, ast, ash, aod⟩ ⟨bw, bst, bsh, bod⟩ = ⟨aw + bw, 0, ash + bsh, 0⟩) := by
    show _ = _
    unfold addG
    simp [h1, h2, show max (0 : Int) 1 = 1 from rfl, show max (1 : Int) 0 = 1 from rfl]
   rw [E.out]
   have z1 : (ast == 0) = true := by rw [h1]; rfl
   have z2 : (bst == 0) = true := by rw [h2]; rfl
   subst h1
   subst h2
   clear E
   go_enter Tryz.func177, Tryz.ntmps177
   go_wp2
   refine bodyPost_ret (v := .agg #[.int .i64 (aw + bw), .int .i64 (0), .int .i64 (ash + bsh), .int .i64 0]) (by simp [results, Tryz.results177, go_sem, show max (0 : Int) 1 = 1 from rfl, show max (1 : Int) 0 = 1 from rfl]) rfl ⟨rfl, ?_⟩
   repeat (first | exact Below.refl _ _ | refine Below.alloc ?_ (by simp; try omega) _)
  ·rcases b7 with h4 | h4
   ·skip
    have E : Hid (addG ⟨aw, ast, ash, aod⟩ ⟨bw, bst, bsh, bod⟩ = ⟨aw + bw, bst, ash + bsh, 0⟩) := by
     show _ = _
     unfold addG
     simp [h1, h2, h4, show max (0 : Int) 1 = 1 from rfl, show max (1 : Int) 0 = 1 from rfl]
    rw [E.out]
    have z1 : (ast == 0) = true := by rw [h1]; rfl
    have z2 : (bst == 0) = false := by rw [beq_eq_false_iff_ne]; exact h2
    subst h4
    subst h1
    clear h2
    clear E
    go_enter Tryz.func177, Tryz.ntmps177
    go_wp2
    refine bodyPost_ret (v := .agg #[.int .i64 (aw + bw), .int .i64 (bst), .int .i64 (ash + bsh), .int .i64 0]) (by simp [results, Tryz.results177, go_sem, show max (0 : Int) 1 = 1 from rfl, show max (1 : Int) 0 = 1 from rfl]) rfl ⟨rfl, ?_⟩
    repeat (first | exact Below.refl _ _ | refine Below.alloc ?_ (by simp; try omega) _)
   ·skip
    have E : Hid (addG ⟨aw, ast, ash, aod⟩ ⟨bw, bst, bsh, bod⟩ = ⟨aw + bw, bst, ash + bsh, 1⟩) := by
     show _ = _
     unfold addG
     simp [h1, h2, h4, show max (0 : Int) 1 = 1 from rfl, show max (1 : Int) 0 = 1 from rfl]
    rw [E.out]
    have z1 : (ast == 0) = true := by rw [h1]; rfl
    have z2 : (bst == 0) = false := by rw [beq_eq_false_iff_ne]; exact h2
    subst h4
    subst h1
    clear h2
    clear E
    go_enter Tryz.func177, Tryz.ntmps177
    go_wp2
    refine bodyPost_ret (v := .agg #[.int .i64 (aw + bw), .int .i64 (bst), .int .i64 (ash + bsh), .int .i64 1]) (by simp [results, Tryz.results177, go_sem, show max (0 : Int) 1 = 1 from rfl, show max (1 : Int) 0 = 1 from rfl]) rfl ⟨rfl, ?_⟩
    repeat (first | exact Below.refl _ _ | refine Below.alloc ?_ (by simp; try omega) _)
 ·by_cases h2 : bst = 0
  ·rcases a7 with h3 | h3
   ·skip
    have E : Hid (addG ⟨aw, ast, ash, aod⟩ ⟨bw, bst, bsh, bod⟩ = ⟨aw + bw, ast, ash + bsh, 0⟩) := by
     show _ = _
     unfold addG
     simp [h1, h2, h3, show max (0 : Int) 1 = 1 from rfl, show max (1 : Int) 0 = 1 from rfl]
    rw [E.out]
    have z1 : (ast == 0) = false := by rw [beq_eq_false_iff_ne]; exact h1
    have z2 : (bst == 0) = true := by rw [h2]; rfl
    subst h3
    clear h1
    subst h2
    clear E
    go_enter Tryz.func177, Tryz.ntmps177
    go_wp2
    refine bodyPost_ret (v := .agg #[.int .i64 (aw + bw), .int .i64 (ast), .int .i64 (ash + bsh), .int .i64 0]) (by simp [results, Tryz.results177, go_sem, show max (0 : Int) 1 = 1 from rfl, show max (1 : Int) 0 = 1 from rfl]) rfl ⟨rfl, ?_⟩
    repeat (first | exact Below.refl _ _ | refine Below.alloc ?_ (by simp; try omega) _)
   ·skip
    have E : Hid (addG ⟨aw, ast, ash, aod⟩ ⟨bw, bst, bsh, bod⟩ = ⟨aw + bw, ast, ash + bsh, 1⟩) := by
     show _ = _
     unfold addG
     simp [h1, h2, h3, show max (0 : Int) 1 = 1 from rfl, show max (1 : Int) 0 = 1 from rfl]
    rw [E.out]
    have z1 : (ast == 0) = false := by rw [beq_eq_false_iff_ne]; exact h1
    have z2 : (bst == 0) = true := by rw [h2]; rfl
    subst h3
    clear h1
    subst h2
    clear E
    go_enter Tryz.func177, Tryz.ntmps177
    go_wp2
    refine bodyPost_ret (v := .agg #[.int .i64 (aw + bw), .int .i64 (ast), .int .i64 (ash + bsh), .int .i64 1]) (by simp [results, Tryz.results177, go_sem, show max (0 : Int) 1 = 1 from rfl, show max (1 : Int) 0 = 1 from rfl]) rfl ⟨rfl, ?_⟩
    repeat (first | exact Below.refl _ _ | refine Below.alloc ?_ (by simp; try omega) _)
  ·rcases a7 with h3 | h3
   ·rcases b7 with h4 | h4
    ·skip
     have E : Hid (addG ⟨aw, ast, ash, aod⟩ ⟨bw, bst, bsh, bod⟩ = ⟨aw + bw, ast + bst, ash + bsh, 0⟩) := by
      show _ = _
      unfold addG
      simp [h1, h2, h3, h4, show max (0 : Int) 1 = 1 from rfl, show max (1 : Int) 0 = 1 from rfl]
     rw [E.out]
     have z1 : (ast == 0) = false := by rw [beq_eq_false_iff_ne]; exact h1
     have z2 : (bst == 0) = false := by rw [beq_eq_false_iff_ne]; exact h2
     subst h3
     subst h4
     clear h1
     clear h2
     clear E
     go_enter Tryz.func177, Tryz.ntmps177
     go_wp2
     refine bodyPost_ret (v := .agg #[.int .i64 (aw + bw), .int .i64 (ast + bst), .int .i64 (ash + bsh), .int .i64 0]) (by simp [results, Tryz.results177, go_sem, show max (0 : Int) 1 = 1 from rfl, show max (1 : Int) 0 = 1 from rfl]) rfl ⟨rfl, ?_⟩
     repeat (first | exact Below.refl _ _ | refine Below.alloc ?_ (by simp; try omega) _)
    ·skip
     have E : Hid (addG ⟨aw, ast, ash, aod⟩ ⟨bw, bst, bsh, bod⟩ = ⟨aw + bw, bst, ash + bsh, 1⟩) := by
      show _ = _
      unfold addG
      simp [h1, h2, h3, h4, show max (0 : Int) 1 = 1 from rfl, show max (1 : Int) 0 = 1 from rfl]
     rw [E.out]
     have z1 : (ast == 0) = false := by rw [beq_eq_false_iff_ne]; exact h1
     have z2 : (bst == 0) = false := by rw [beq_eq_false_iff_ne]; exact h2
     subst h3
     subst h4
     clear h1
     clear h2
     clear E
     go_enter Tryz.func177, Tryz.ntmps177
     go_wp2
     refine bodyPost_ret (v := .agg #[.int .i64 (aw + bw), .int .i64 (bst), .int .i64 (ash + bsh), .int .i64 1]) (by simp [results, Tryz.results177, go_sem, show max (0 : Int) 1 = 1 from rfl, show max (1 : Int) 0 = 1 from rfl]) rfl ⟨rfl, ?_⟩
     repeat (first | exact Below.refl _ _ | refine Below.alloc ?_ (by simp; try omega) _)
   ·rcases b7 with h4 | h4
    ·skip
     have E : Hid (addG ⟨aw, ast, ash, aod⟩ ⟨bw, bst, bsh, bod⟩ = ⟨aw + bw, ast, ash + bsh, 1⟩) := by
      show _ = _
      unfold addG
      simp [h1, h2, h3, h4, show max (0 : Int) 1 = 1 from rfl, show max (1 : Int) 0 = 1 from rfl]
     rw [E.out]
     have z1 : (ast == 0) = false := by rw [beq_eq_false_iff_ne]; exact h1
     have z2 : (bst == 0) = false := by rw [beq_eq_false_iff_ne]; exact h2
     subst h3
     subst h4
     clear h1
     clear h2
     clear E
     go_enter Tryz.func177, Tryz.ntmps177
     go_wp2
     refine bodyPost_ret (v := .agg #[.int .i64 (aw + bw), .int .i64 (ast), .int .i64 (ash + bsh), .int .i64 1]) (by simp [results, Tryz.results177, go_sem, show max (0 : Int) 1 = 1 from rfl, show max (1 : Int) 0 = 1 from rfl]) rfl ⟨rfl, ?_⟩
     repeat (first | exact Below.refl _ _ | refine Below.alloc ?_ (by simp; try omega) _)
    ·skip
     have E : Hid (addG ⟨aw, ast, ash, aod⟩ ⟨bw, bst, bsh, bod⟩ = ⟨aw + bw, ast + bst, ash + bsh, 1⟩) := by
      show _ = _
      unfold addG
      simp [h1, h2, h3, h4, show max (0 : Int) 1 = 1 from rfl, show max (1 : Int) 0 = 1 from rfl]
     rw [E.out]
     have z1 : (ast == 0) = false := by rw [beq_eq_false_iff_ne]; exact h1
     have z2 : (bst == 0) = false := by rw [beq_eq_false_iff_ne]; exact h2
     subst h3
     subst h4
     clear h1
     clear h2
     clear E
     go_enter Tryz.func177, Tryz.ntmps177
     go_wp2
     refine bodyPost_ret (v := .agg #[.int .i64 (aw + bw), .int .i64 (ast + bst), .int .i64 (ash + bsh), .int .i64 1]) (by simp [results, Tryz.results177, go_sem, show max (0 : Int) 1 = 1 from rfl, show max (1 : Int) 0 = 1 from rfl]) rfl ⟨rfl, ?_⟩
     repeat (first | exact Below.refl _ _ | refine Below.alloc ?_ (by simp; try omega) _)
end Go.Proofs.YtofnchdijanikaaGreatDoor

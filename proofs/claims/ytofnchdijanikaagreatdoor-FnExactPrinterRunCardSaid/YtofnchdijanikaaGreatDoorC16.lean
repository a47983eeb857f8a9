/-
  PROVED HERE: what the printer's lines need, part C16. Conditions: each theorem's own.
-/
import Derived.Test.YtofnchdijanikaaGreatDoorC15
import Derived.BigQuiet
set_option linter.unusedVariables false
set_option linter.unusedSimpArgs false
set_option maxRecDepth 100000
namespace Go.Proofs.YtofnchdijanikaaGreatDoor
open Go.RowKit
theorem bestP_some {ks : List Bool} {L : Nat} {p : Int × Nat} (h : pgB ks L 0 = some p) : bestP ks L = some (pgP ks L 0) := by unfold bestP; rw [h]; rfl
theorem bestP_none {ks : List Bool} {L : Nat} (h : pgB ks L 0 = none) : bestP ks L = none := by unfold bestP; rw [h]; rfl
theorem pgUp_succ (ks : List Bool) (L : Nat) (T : Nat → Option (Int × Nat)) (a k : Nat) : pgUp ks L T a (k + 1) =
  match pgN ks L T a (a + 1 + k) with
  | none => pgUp ks L T a k
  | some m => match pgUp ks L T a k with
   | none => some (m, a + 1 + k)
   | some (q, u) => if m ≤ q then some (m, a + 1 + k) else some (q, u) := rfl
theorem pgN_of (ks : List Bool) (L : Nat) (T : Nat → Option (Int × Nat)) (a k : Nat) (h : k + 1 ≤ L) : pgN ks L T a (a + 1 + k) =
  match (if a + 1 + k = ks.length then some (0 : Int) else if ks.getD (a + k) false = true then none else some (((L : Int) - ((k : Int) + 1)) * ((L : Int) - ((k : Int) + 1)))) with
  | none => none
  | some c => match T (a + 1 + k) with
   | none => none
   | some (r, _) => some (c + r) := by
 unfold pgN pgC
 rw [if_neg (by omega), show a + 1 + k - 1 = a + k by omega, show ((a + 1 + k : Nat) : Int) - (a : Int) = (k : Int) + 1 by omega]
 rfl
theorem sq_ok (x : Int) (h1 : 0 ≤ x) (h2 : x ≤ 30) : 0 ≤ x * x ∧ x * x ≤ 900 := by
 have := sq_bd x 30 (by omega) h2
 omega
set_option maxHeartbeats 16000000 in
theorem specPages_any (b off cap n L : Nat) (ks : List Bool) (w : World) (hc : RwC w b off n ks) (n30 : n ≤ 30) (n0 : 0 < n) (hL : 1 ≤ L ∧ L ≤ 30) :
  Calls Tryz.prog 61 #[.slice (some ⟨b, off, none⟩) n cap, .int .i64 L] w (BestPPost ks L w) := by
 obtain ⟨i0, hi, hz0, hz1, hz2⟩ := info_parts info_int
 have RV := Lib.hid (fun (w' : World) (hb : Below w.heap.size w w') => specRows_any b off cap n ks w' (hc.below hb) n30)
 have I1 : Hid (inB (L : Int) 1 1000 = true) := inB_yes (by omega) (by omega)
 have hnk := hc.1
 obtain ⟨P, hP⟩ : ∃ P, P = pgB ks L := ⟨_, rfl⟩
 have PN0 : P n = some (0, 0) := by rw [hP]; exact pgB_end ks L n (by omega)
 have PU := Lib.hid (fun a (ha : a < n) => (show P a = pgUp ks L P a (n - a) by rw [hP, hnk]; exact pgB_up ks L a (by omega)))
 have PB := Lib.hid (fun a m u (h : P a = some (m, u)) => (show 0 ≤ m ∧ m ≤ 30000000 by
  rw [hP] at h
  have := pgB_bd (ks := ks) (L := L) (by omega) (ks.length) a m u (by omega) h
  omega))
 have QB := Lib.hid (fun a k q v (ha : a < n) (_ : k ≤ n - a) (h : pgUp ks L P a k = some (q, v)) => (show 0 ≤ q by
  obtain ⟨h1, h2, _⟩ := (pgUp_is ks L P a k).2 q v h
  unfold pgN at h2
  split at h2
  ·cases h2
  ·rename_i c hc1
   have hc2 := pgC_bd (by omega : L ≤ 1000) (by omega) hc1
   split at h2
   ·cases h2
   ·rename_i r x hr
    have := PB.out _ _ _ hr
    simp only [Option.some.injEq] at h2
    omega))
 have PX := Lib.hid (fun a m u (ha : a < n) (h : P a = some (m, u)) => (show a < u ∧ u ≤ n ∧ (∃ r v, P u = some (r, v)) ∧ ∀ pre, pgP ks L 0 = pre ++ pgP ks L a → pgP ks L 0 = (pre ++ [u]) ++ pgP ks L u by
  rw [hP] at h ⊢
  have h1 := pgB_next (by omega : a < ks.length) h
  exact ⟨h1.1, by omega, pgB_some (by omega) h, fun pre hp => pgP_step (by omega) h hp⟩))
 have PE := Lib.hid (fun a (ha : n ≤ a) => pgP_end ks L a (by omega))
 have P0N : Hid (P 0 = none → bestP ks L = none) := fun h => bestP_none (by rw [← hP]; exact h)
 have P0S : Hid (∀ p, P 0 = some p → bestP ks L = some (pgP ks L 0)) := fun p h => bestP_some (p := p) (by rw [← hP]; exact h)
 have HC := Lib.hid hc
 have HP := Lib.hid hP
 have AW := Lib.hid ((Below.refl w.heap.size w).alloc (Nat.le_refl _) (.cells #[] 3))
 have OM := Lib.hid (OwnI.made w (B := w.heap.size) (Nat.le_refl _))
 have HNK := Lib.hid hnk
 have S1 : Hid ((w.alloc (.cells #[] 3)).heap.size = w.heap.size + 1) := by show _ = _; simp
 clear hP hc hnk
 go_enter Tryz.func61, Tryz.ntmps61
 go_wp2_with (first | (go_at_call 81; refine (RV.out _ AW.out).mono ?_; rintro e w2 ⟨rfl, hb2⟩) | (go_at_call 34; refine (l1In_any _ _ _ _).mono ?_; rintro e w' ⟨rfl, rfl⟩; rw [I1.out]) | (at_make; refine wpList_make_full _ rfl _ _ 72 rfl w2.heap.size 3 i0 (.int .i64 0) 1 Tryz.underlying72 hi hz0 hz1 .i64 .i64 _ _ (n + 1) rfl rfl rfl rfl (by rw [hz2]; omega) (by unfold maxLen; omega) (Nat.le_refl _) ?_; intro w3 hown3 hgrow3) | (at_make; refine wpList_make_full _ rfl _ _ 72 rfl w3.heap.size 3 i0 (.int .i64 0) 1 Tryz.underlying72 hi hz0 hz1 .i64 .i64 _ _ (n + 1) rfl rfl rfl rfl (by rw [hz2]; omega) (by unfold maxLen; omega) (Nat.le_refl _) ?_; intro w4 hown4 hgrow4))
 have hs2 : w.heap.size + 1 ≤ w2.heap.size := by have := hb2.size; have := S1.out; omega
 have hs3 := hgrow3.size
 have l3 := (World.ownsRow.lt hown3 w2.heap.size rfl)
 have b2 := below_next AW.out hb2 (Nat.le_refl _)
 have b3 := b2.grown hgrow3 (by omega) (fun k h => by cases h)
 have b4 := b3.grown hgrow4 (by omega) (fun k h => by cases h)
 have O4 : Hid (OwnI w4 w.heap.size (.slice (some ⟨w.heap.size, 0, none⟩) 0 0) []) := World.ownsRow.kept (World.ownsRow.kept (owns_below OM.out hb2) hgrow3 (.inr (by show some _ ≠ none; simp))) hgrow4 (.inr (by show some _ ≠ none; simp))
 obtain ⟨g1, hg1⟩ : ∃ g, g = w2.heap.size := ⟨_, rfl⟩
 obtain ⟨g2, hg2⟩ : ∃ g, g = w3.heap.size := ⟨_, rfl⟩
 have zr := rowF_start cst P n
 have zn := rowF_start nxt P n
 have T14 : Hid (Tb w4 w.heap.size g1 (n + 1) (rowF cst P n (P n))) := by
  refine Tb.made (fun j hj => zr j hj (by rw [PN0]; rfl)) ?_
  rw [hg1]
  refine World.ownsRow.mono (World.ownsRow.kept ?_ hgrow4 (.inr (by show some _ ≠ none; simp))) (by omega : w.heap.size ≤ w2.heap.size)
  simpa [madeCells, made_ints] using hown3
 have T24 : Hid (Tb w4 w.heap.size g2 (n + 1) (rowF nxt P n (P n))) := by
  refine Tb.made (fun j hj => zn j hj (by rw [PN0]; rfl)) ?_
  rw [hg2]
  refine World.ownsRow.mono ?_ (by omega : w.heap.size ≤ w3.heap.size)
  simpa [madeCells, made_ints] using hown4
 have GNE : Hid (g1 ≠ g2) := by show _ ≠ _; omega
 have GB : Hid (w.heap.size ≠ g1 ∧ w.heap.size ≠ g2) := ⟨by omega, by omega⟩
 have B4 := Lib.hid b4
 rw [← hg1, ← hg2]
 have Rows : Hid (∀ (wx : World), Below w.heap.size w wx → ∀ j, j < n → wx.cell? ⟨b, off + j * 4, none⟩ = some (.int .i64 1) ∧ wx.cell? ⟨b, off + j * 4 + 1, none⟩ = some (.bool (ks.getD j false))) := fun wx hb j hj => ⟨((HC.out.below hb).2.2 j hj).1, ((HC.out.below hb).2.2 j hj).2.1⟩
 clear hs2 hs3 l3 b2 b3 b4 zr zn hb2 hown3 hown4 hgrow3 hgrow4 hg1 hg2 hi hz0 hz1 hz2
 go_loopw [10] (fun i wr => ∃ a : Nat, a ≤ n ∧ i = .int .i64 ((a : Int) - 1) ∧ Hid (Tb wr w.heap.size g1 (n + 1) (rowF cst P a (P a))) ∧ Hid (Tb wr w.heap.size g2 (n + 1) (rowF nxt P a (P a))) ∧ Hid (OwnI wr w.heap.size (.slice (some ⟨w.heap.size, 0, none⟩) 0 0) []) ∧ Hid (Below w.heap.size w wr)) (fun i _ => (intOf i + 1).toNat)
 case atStart => exact ⟨n, Nat.le_refl _, rfl, T14.out, T24.out, O4.out, B4.out⟩
 case round =>
  obtain ⟨a0, ha0, rfl, t1, t2, t3, t4⟩ := hrel
  clear T14 T24 O4 B4
  by_cases hz : 0 < a0
  ·obtain ⟨a, rfl⟩ : ∃ a, a0 = a + 1 := ⟨a0 - 1, by omega⟩
   have han : a < n := by omega
   have e1 : (((a + 1 : Nat) : Int) - 1) = (a : Int) := by omega
   rw [e1]
   have u1 := t1.out.put a (-1)
   rw [rowF_down cst P a (-1) rfl] at u1
   have x1 := t1.out.at (j := a) (by omega)
   have y1 := t1.out.frozen a
   have u2 := t2.out.kept u1.2 (fun e => GNE.out (Option.some.inj e).symm)
   rw [rowF_zero nxt P a rfl] at u2
   have V1 := Lib.hid u1.1
   have V2 := Lib.hid u2
   have V3 := Lib.hid (World.ownsRow.kept t3.out u1.2 (.inr (fun e => GB.out.1 (Option.some.inj e))))
   have V4 := Lib.hid (t4.out.grown u1.2 t4.out.size (fun k' hk' => by cases hk'; exact t1.out.lt.1))
   have hanat : (0 : Int) ≤ (a : Int) := by omega
   clear t1 t2 t3 t4 u1 u2 e1 hz ha0
   go_wp2_with fail
   go_loopw [11, 12] (fun s t wx => ∃ k : Nat, k ≤ n - a ∧ s = .int .i64 k ∧ t = .int .i64 ((a : Int) + 1 + k) ∧ Hid (Tb wx w.heap.size g1 (n + 1) (rowF cst P a (pgUp ks L P a k))) ∧ Hid (Tb wx w.heap.size g2 (n + 1) (rowF nxt P a (pgUp ks L P a k))) ∧ Hid (OwnI wx w.heap.size (.slice (some ⟨w.heap.size, 0, none⟩) 0 0) []) ∧ Hid (Below w.heap.size w wx)) (fun _ t _ => ((n : Int) + 1 - intOf t).toNat)
   case atStart => exact ⟨0, Nat.zero_le _, rfl, by go_num, V1.out, V2.out, V3.out, V4.out⟩
   case round =>
    obtain ⟨k, hk, rfl, rfl, h1, h2, h3, h4⟩ := hrel
    clear V1 V2 V3 V4 x1 y1
    by_cases hto : k < n - a
    ·obtain ⟨j, hj⟩ : ∃ j, j = a + k := ⟨_, rfl⟩
     have ejn : (a : Int) + 1 + (k : Int) = (j : Int) + 1 := by omega
     have hjn : j < n := by omega
     have hcond : (j : Int) + 1 ≤ (n : Int) := by omega
     have c0 := (Rows.out wr h4.out j hjn).1
     have US := Lib.hid (pgUp_succ ks L P a k)
     have UN := Lib.hid (pgN_of ks L P a k)
     have eto : a + 1 + k = j + 1 := by omega
     rw [ejn]
     obtain ⟨S, hS⟩ : ∃ S : Int, S = (k : Int) + 1 := ⟨_, rfl⟩
     have hS' : (k : Int) + 1 = S := hS.symm
     by_cases hkL : k + 1 ≤ L
     ·have hSL : ¬ (L : Int) < S := by omega
      have hS30 : 0 ≤ S ∧ S ≤ 31 := by omega
      obtain ⟨hS1, hS2⟩ := hS30
      have UN1 := UN.out hkL
      clear UN
      have d0 := h1.out.at (j := j + 1) (by omega)
      rw [rowF_past cst P a _ (j + 1) (by omega)] at d0
      have HJ := Lib.hid hj
      have ETO := Lib.hid eto
      have HLK := Lib.hid (show (L : Int) - ((k : Int) + 1) = (L : Int) - S by rw [hS'])
      rw [eto, HLK.out, HNK.out.symm] at UN1
      clear hj eto ejn hS hkL hcond
      cases hp : P (j + 1) with
      | none =>
       have e0 : cst (P (j + 1)) = -1 := by rw [hp]; rfl
       rw [e0] at d0
       have PN : Hid (pgN ks L P a (a + 1 + k) = none) := by
        show _ = _
        rw [ETO.out, UN1, hp]
        (split <;> rfl)
       clear UN1 hp e0
       have UE : Hid (pgUp ks L P a (k + 1) = pgUp ks L P a k) := by show _ = _; rw [US.out, PN.out]
       clear US
       have T1 := UE.out ▸ h1
       have T2 := UE.out ▸ h2
       go_wp2_with fail
       first
        | exact ⟨⟨k + 1, by omega, by go_num, by have hj5 := HJ.out; go_num, T1, T2, h3, h4⟩, by (simp [intOf]) <;> omega⟩
        | (go_roundw
           case rel => exact ⟨k + 1, by omega, by go_num, by have hj5 := HJ.out; go_num, T1, T2, h3, h4⟩
           case measure => (simp [intOf]) <;> omega)
      | some p =>
       obtain ⟨m, u⟩ := p
       obtain ⟨m0, m1⟩ := PB.out (j + 1) m u hp
       have e0 : cst (P (j + 1)) = m := by rw [hp]; rfl
       rw [e0] at d0
       have mneg : ¬ m < 0 := by omega
       rw [hp] at UN1
       clear hp e0
       by_cases hjn2 : j + 1 < n
       ·have jlt : (j : Int) + 1 < (n : Int) := by omega
        have c1 := (Rows.out wr h4.out j hjn).2
        rw [if_neg (by omega), show a + k = j from HJ.out.symm] at UN1
        cases hkp : ks.getD j false
        ·rw [hkp] at c1 UN1
         obtain ⟨D, hD⟩ : ∃ D : Int, D = ((L : Int) - S) * ((L : Int) - S) := ⟨_, rfl⟩
         have hD' : ((L : Int) - S) * ((L : Int) - S) = D := hD.symm
         have sq := sq_ok ((L : Int) - S) (by omega) (by omega)
         rw [hD'] at sq
         obtain ⟨sq1, sq2⟩ := sq
         have PN : pgN ks L P a (a + 1 + k) = some (m + D) := by
          rw [ETO.out, UN1]
          simp only [Bool.false_eq_true, if_false]
          rw [hD', Int.add_comm]
         clear UN1 hkp hD hjn2
         have a0 := h1.out.at (j := a) (by omega)
         rw [rowF_at] at a0
         cases hq : pgUp ks L P a k with
         | none =>
          have e0 : cst (pgUp ks L P a k) = -1 := by rw [hq]; rfl
          rw [e0] at a0
          have HQ := Lib.hid hq
          clear hq e0
          have UE : Hid (pgUp ks L P a (k + 1) = some (m + D, a + 1 + k)) := by show _ = _; rw [US.out, PN]; simp only [HQ.out]
          clear US
          have u1 := (h1.out.put a (m + D))
          rw [show (fun i => if i = a then (m + D : Int) else rowF cst P a (pgUp ks L P a k) i) = rowF cst P a (some (m + D, a + 1 + k)) from rowF_put cst P a _ (some (m + D, a + 1 + k)), ← UE.out] at u1
          have v2 := h2.out.kept u1.2 (fun e => GNE.out (Option.some.inj e).symm)
          have u2 := v2.put a ((j : Int) + 1)
          rw [show ((j : Int) + 1) = nxt (some (m + D, a + 1 + k)) by show ((j : Int) + 1) = ((a + 1 + k : Nat) : Int); have := HJ.out; omega, rowF_put nxt P a _ (some (m + D, a + 1 + k)), ← UE.out] at u2
          have u3 := u1.1.kept u2.2 (fun e => GNE.out (Option.some.inj e))
          have y0 := h1.out.frozen a
          have y1 := v2.frozen a
          have x1 := v2.at (j := a) (by omega)
          have w3 := Lib.hid (World.ownsRow.kept (World.ownsRow.kept h3.out u1.2 (.inr (fun e => GB.out.1 (Option.some.inj e)))) u2.2 (.inr (fun e => GB.out.2 (Option.some.inj e))))
          have w4 := Lib.hid ((h4.out.grown u1.2 h4.out.size (fun k' hk' => by cases hk'; exact h1.out.lt.1)).grown u2.2 (by have := h4.out.size; have := u1.2.size; omega) (fun k' hk' => by cases hk'; exact h2.out.lt.1))
          have T1 := Lib.hid u3
          have T2 := Lib.hid u2.1
          have EN : Hid (nxt (pgUp ks L P a (k + 1)) = (j : Int) + 1) := by show _ = _; rw [UE.out]; show ((a + 1 + k : Nat) : Int) = _; have := HJ.out; omega
          rw [EN.out] at T1 T2 w3 w4
          clear u1 v2 u2 u3 h1 h2 h3 h4
          go_wp2_with fail
          first
           | exact ⟨⟨k + 1, by omega, by go_num, by have hj5 := HJ.out; go_num, T1, T2, w3, w4⟩, by (simp [intOf]) <;> omega⟩
           | (go_roundw
              case rel => exact ⟨k + 1, by omega, by go_num, by have hj5 := HJ.out; go_num, T1, T2, w3, w4⟩
              case measure => (simp [intOf]) <;> omega)
         | some p =>
          obtain ⟨q, v⟩ := p
          have e0 : cst (pgUp ks L P a k) = q := by rw [hq]; rfl
          rw [e0] at a0
          have HQ := Lib.hid hq
          have qb := QB.out a k q v han hk HQ.out
          clear hq e0
          have qneg : ¬ q < 0 := by omega
          by_cases hle : m + D ≤ q
          ·have HLE := Lib.hid hle
           have UE : Hid (pgUp ks L P a (k + 1) = some (m + D, a + 1 + k)) := by show _ = _; rw [US.out, PN]; simp only [HQ.out]; rw [if_pos HLE.out]
           clear US
           have u1 := (h1.out.put a (m + D))
           rw [show (fun i => if i = a then (m + D : Int) else rowF cst P a (pgUp ks L P a k) i) = rowF cst P a (some (m + D, a + 1 + k)) from rowF_put cst P a _ (some (m + D, a + 1 + k)), ← UE.out] at u1
           have v2 := h2.out.kept u1.2 (fun e => GNE.out (Option.some.inj e).symm)
           have u2 := v2.put a ((j : Int) + 1)
           rw [show ((j : Int) + 1) = nxt (some (m + D, a + 1 + k)) by show ((j : Int) + 1) = ((a + 1 + k : Nat) : Int); have := HJ.out; omega, rowF_put nxt P a _ (some (m + D, a + 1 + k)), ← UE.out] at u2
           have u3 := u1.1.kept u2.2 (fun e => GNE.out (Option.some.inj e))
           have y0 := h1.out.frozen a
           have y1 := v2.frozen a
           have x1 := v2.at (j := a) (by omega)
           have w3 := Lib.hid (World.ownsRow.kept (World.ownsRow.kept h3.out u1.2 (.inr (fun e => GB.out.1 (Option.some.inj e)))) u2.2 (.inr (fun e => GB.out.2 (Option.some.inj e))))
           have w4 := Lib.hid ((h4.out.grown u1.2 h4.out.size (fun k' hk' => by cases hk'; exact h1.out.lt.1)).grown u2.2 (by have := h4.out.size; have := u1.2.size; omega) (fun k' hk' => by cases hk'; exact h2.out.lt.1))
           have T1 := Lib.hid u3
           have T2 := Lib.hid u2.1
           have EN : Hid (nxt (pgUp ks L P a (k + 1)) = (j : Int) + 1) := by show _ = _; rw [UE.out]; show ((a + 1 + k : Nat) : Int) = _; have := HJ.out; omega
           rw [EN.out] at T1 T2 w3 w4
           clear u1 v2 u2 u3 h1 h2 h3 h4
           go_wp2_with fail
           first
            | exact ⟨⟨k + 1, by omega, by go_num, by have hj5 := HJ.out; go_num, T1, T2, w3, w4⟩, by (simp [intOf]) <;> omega⟩
            | (go_roundw
               case rel => exact ⟨k + 1, by omega, by go_num, by have hj5 := HJ.out; go_num, T1, T2, w3, w4⟩
               case measure => (simp [intOf]) <;> omega)
          ·have HLE := Lib.hid hle
           have UE : Hid (pgUp ks L P a (k + 1) = pgUp ks L P a k) := by show _ = _; rw [US.out, PN]; simp only [HQ.out]; rw [if_neg HLE.out]
           clear US
           have T1 := UE.out ▸ h1
           have T2 := UE.out ▸ h2
           go_wp2_with fail
           first
            | exact ⟨⟨k + 1, by omega, by go_num, by have hj5 := HJ.out; go_num, T1, T2, h3, h4⟩, by (simp [intOf]) <;> omega⟩
            | (go_roundw
               case rel => exact ⟨k + 1, by omega, by go_num, by have hj5 := HJ.out; go_num, T1, T2, h3, h4⟩
               case measure => (simp [intOf]) <;> omega)
        ·rw [hkp] at c1 UN1
         have PN : Hid (pgN ks L P a (a + 1 + k) = none) := by
          show _ = _
          rw [ETO.out, UN1]
          rfl
         clear UN1 hkp hjn2
         have UE : Hid (pgUp ks L P a (k + 1) = pgUp ks L P a k) := by show _ = _; rw [US.out, PN.out]
         clear US
         have T1 := UE.out ▸ h1
         have T2 := UE.out ▸ h2
         go_wp2_with fail
         first
          | exact ⟨⟨k + 1, by omega, by go_num, by have hj5 := HJ.out; go_num, T1, T2, h3, h4⟩, by (simp [intOf]) <;> omega⟩
          | (go_roundw
             case rel => exact ⟨k + 1, by omega, by go_num, by have hj5 := HJ.out; go_num, T1, T2, h3, h4⟩
             case measure => (simp [intOf]) <;> omega)
       ·have jlt : ¬ (j : Int) + 1 < (n : Int) := by omega
        have PN : pgN ks L P a (a + 1 + k) = some m := by
         rw [ETO.out, UN1, if_pos (by omega)]
         show some ((0 : Int) + m) = some m
         rw [Int.zero_add]
        clear UN1 hjn2
        have a0 := h1.out.at (j := a) (by omega)
        rw [rowF_at] at a0
        cases hq : pgUp ks L P a k with
        | none =>
         have e0 : cst (pgUp ks L P a k) = -1 := by rw [hq]; rfl
         rw [e0] at a0
         have HQ := Lib.hid hq
         clear hq e0
         have UE : Hid (pgUp ks L P a (k + 1) = some (m, a + 1 + k)) := by show _ = _; rw [US.out, PN]; simp only [HQ.out]
         clear US
         have u1 := (h1.out.put a (m))
         rw [show (fun i => if i = a then (m : Int) else rowF cst P a (pgUp ks L P a k) i) = rowF cst P a (some (m, a + 1 + k)) from rowF_put cst P a _ (some (m, a + 1 + k)), ← UE.out] at u1
         have v2 := h2.out.kept u1.2 (fun e => GNE.out (Option.some.inj e).symm)
         have u2 := v2.put a ((j : Int) + 1)
         rw [show ((j : Int) + 1) = nxt (some (m, a + 1 + k)) by show ((j : Int) + 1) = ((a + 1 + k : Nat) : Int); have := HJ.out; omega, rowF_put nxt P a _ (some (m, a + 1 + k)), ← UE.out] at u2
         have u3 := u1.1.kept u2.2 (fun e => GNE.out (Option.some.inj e))
         have y0 := h1.out.frozen a
         have y1 := v2.frozen a
         have x1 := v2.at (j := a) (by omega)
         have w3 := Lib.hid (World.ownsRow.kept (World.ownsRow.kept h3.out u1.2 (.inr (fun e => GB.out.1 (Option.some.inj e)))) u2.2 (.inr (fun e => GB.out.2 (Option.some.inj e))))
         have w4 := Lib.hid ((h4.out.grown u1.2 h4.out.size (fun k' hk' => by cases hk'; exact h1.out.lt.1)).grown u2.2 (by have := h4.out.size; have := u1.2.size; omega) (fun k' hk' => by cases hk'; exact h2.out.lt.1))
         have T1 := Lib.hid u3
         have T2 := Lib.hid u2.1
         have EN : Hid (nxt (pgUp ks L P a (k + 1)) = (j : Int) + 1) := by show _ = _; rw [UE.out]; show ((a + 1 + k : Nat) : Int) = _; have := HJ.out; omega
         rw [EN.out] at T1 T2 w3 w4
         clear u1 v2 u2 u3 h1 h2 h3 h4
         go_wp2_with fail
         first
          | exact ⟨⟨k + 1, by omega, by go_num, by have hj5 := HJ.out; go_num, T1, T2, w3, w4⟩, by (simp [intOf]) <;> omega⟩
          | (go_roundw
             case rel => exact ⟨k + 1, by omega, by go_num, by have hj5 := HJ.out; go_num, T1, T2, w3, w4⟩
             case measure => (simp [intOf]) <;> omega)
        | some p =>
         obtain ⟨q, v⟩ := p
         have e0 : cst (pgUp ks L P a k) = q := by rw [hq]; rfl
         rw [e0] at a0
         have HQ := Lib.hid hq
         have qb := QB.out a k q v han hk HQ.out
         clear hq e0
         have qneg : ¬ q < 0 := by omega
         by_cases hle : m ≤ q
         ·have HLE := Lib.hid hle
          have UE : Hid (pgUp ks L P a (k + 1) = some (m, a + 1 + k)) := by show _ = _; rw [US.out, PN]; simp only [HQ.out]; rw [if_pos HLE.out]
          clear US
          have u1 := (h1.out.put a (m))
          rw [show (fun i => if i = a then (m : Int) else rowF cst P a (pgUp ks L P a k) i) = rowF cst P a (some (m, a + 1 + k)) from rowF_put cst P a _ (some (m, a + 1 + k)), ← UE.out] at u1
          have v2 := h2.out.kept u1.2 (fun e => GNE.out (Option.some.inj e).symm)
          have u2 := v2.put a ((j : Int) + 1)
          rw [show ((j : Int) + 1) = nxt (some (m, a + 1 + k)) by show ((j : Int) + 1) = ((a + 1 + k : Nat) : Int); have := HJ.out; omega, rowF_put nxt P a _ (some (m, a + 1 + k)), ← UE.out] at u2
          have u3 := u1.1.kept u2.2 (fun e => GNE.out (Option.some.inj e))
          have y0 := h1.out.frozen a
          have y1 := v2.frozen a
          have x1 := v2.at (j := a) (by omega)
          have w3 := Lib.hid (World.ownsRow.kept (World.ownsRow.kept h3.out u1.2 (.inr (fun e => GB.out.1 (Option.some.inj e)))) u2.2 (.inr (fun e => GB.out.2 (Option.some.inj e))))
          have w4 := Lib.hid ((h4.out.grown u1.2 h4.out.size (fun k' hk' => by cases hk'; exact h1.out.lt.1)).grown u2.2 (by have := h4.out.size; have := u1.2.size; omega) (fun k' hk' => by cases hk'; exact h2.out.lt.1))
          have T1 := Lib.hid u3
          have T2 := Lib.hid u2.1
          have EN : Hid (nxt (pgUp ks L P a (k + 1)) = (j : Int) + 1) := by show _ = _; rw [UE.out]; show ((a + 1 + k : Nat) : Int) = _; have := HJ.out; omega
          rw [EN.out] at T1 T2 w3 w4
          clear u1 v2 u2 u3 h1 h2 h3 h4
          go_wp2_with fail
          first
           | exact ⟨⟨k + 1, by omega, by go_num, by have hj5 := HJ.out; go_num, T1, T2, w3, w4⟩, by (simp [intOf]) <;> omega⟩
           | (go_roundw
              case rel => exact ⟨k + 1, by omega, by go_num, by have hj5 := HJ.out; go_num, T1, T2, w3, w4⟩
              case measure => (simp [intOf]) <;> omega)
         ·have HLE := Lib.hid hle
          have UE : Hid (pgUp ks L P a (k + 1) = pgUp ks L P a k) := by show _ = _; rw [US.out, PN]; simp only [HQ.out]; rw [if_neg HLE.out]
          clear US
          have T1 := UE.out ▸ h1
          have T2 := UE.out ▸ h2
          go_wp2_with fail
          first
           | exact ⟨⟨k + 1, by omega, by go_num, by have hj5 := HJ.out; go_num, T1, T2, h3, h4⟩, by (simp [intOf]) <;> omega⟩
           | (go_roundw
              case rel => exact ⟨k + 1, by omega, by go_num, by have hj5 := HJ.out; go_num, T1, T2, h3, h4⟩
              case measure => (simp [intOf]) <;> omega)
     ·have hSL : (L : Int) < S := by omega
      have hS30 : 0 ≤ S ∧ S ≤ 31 := by omega
      obtain ⟨hS1, hS2⟩ := hS30
      have UE : Hid (pgUp ks L P a k = P a) := by
       show _ = _
       rw [PU.out a han, show n - a = k + (n - a - k) by omega, pgUp_stop ks L P a k (by omega)]
      have T1 := UE.out ▸ h1
      have T2 := UE.out ▸ h2
      clear h1 h2 US UN hS eto hj ejn
      go_wp2_with fail
      first
       | exact ⟨⟨a, by omega, by go_num, T1.out, T2.out, h3.out, h4.out⟩, by (simp [intOf]) <;> omega⟩
       | (go_roundw
          case rel => exact ⟨a, by omega, by go_num, T1.out, T2.out, h3.out, h4.out⟩
          case measure => (simp [intOf]) <;> omega)
    ·obtain rfl : k = n - a := by omega
     have hcond : ¬ (a : Int) + 1 + ((n - a : Nat) : Int) ≤ (n : Int) := by omega
     have UE := PU.out a han
     rw [← UE] at h1 h2
     have T1 := h1
     have T2 := h2
     clear h1 h2 UE
     go_wp2_with fail
     first
      | exact ⟨⟨a, by omega, by go_num, T1.out, T2.out, h3.out, h4.out⟩, by (simp [intOf]) <;> omega⟩
      | (go_roundw
         case rel => exact ⟨a, by omega, by go_num, T1.out, T2.out, h3.out, h4.out⟩
         case measure => (simp [intOf]) <;> omega)
  ·obtain rfl : a0 = 0 := by omega
   rw [show (((0 : Nat) : Int) - 1) = -1 by omega]
   have x1 := t1.out.at (j := 0) (by omega)
   rw [rowF_at] at x1
   clear hz ha0 t1
   cases hp : P 0 with
   | none =>
    have e0 : cst (P 0) = -1 := by rw [hp]; rfl
    rw [e0] at x1
    have HB := Lib.hid (P0N.out hp)
    clear hp e0 t2
    go_wp2
    go_ret2
    exact ⟨_, by rw [HB.out]; rfl, by rw [HB.out]; exact t3.out, t4.out⟩
   | some p =>
    obtain ⟨m, u⟩ := p
    have e0 : cst (P 0) = m := by rw [hp]; rfl
    rw [e0] at x1
    have mneg : ¬ m < 0 := by have := PB.out 0 m u hp; omega
    have HB := Lib.hid (P0S.out _ hp)
    have HP0 : Hid (∃ m u, P 0 = some (m, u)) := ⟨m, u, hp⟩
    have RN : Hid (∀ a, rowF nxt P 0 (P 0) a = nxt (P a)) := fun a => by
     by_cases h : a = 0
     ·subst h; exact rowF_at nxt P 0 _
     ·exact rowF_past nxt P 0 _ a (by omega)
    have NE0 : Hid (some g2 ≠ (Value.slice (some ⟨w.heap.size, 0, none⟩) 0 0).ownBlock) := fun e => GB.out.2 (Option.some.inj e).symm
    clear hp e0
    go_wp2_with fail
    go_loopw [6, 14] (fun v i wr => ∃ (a : Nat) (pre : List Nat), a ≤ n ∧ i = .int .i64 a ∧ pre.length ≤ a ∧ Hid (pgP ks L 0 = pre ++ pgP ks L a) ∧ Hid (∃ m u, P a = some (m, u)) ∧ Hid (OwnI wr w.heap.size v (ints pre)) ∧ Hid (some g2 ≠ v.ownBlock) ∧ Hid (Tb wr w.heap.size g2 (n + 1) (rowF nxt P 0 (P 0))) ∧ Hid (Below w.heap.size w wr)) (fun _ i _ => n - (intOf i).toNat)
    case atStart => exact ⟨0, [], Nat.zero_le _, rfl, Nat.zero_le _, rfl, HP0.out, t3.out, NE0.out, t2.out, t4.out⟩
    case round =>
     obtain ⟨a, pre, ha, rfl, hpl, hpp, hpm, ho, hne, ht, hb⟩ := hrel
     clear t2 t3 t4 HP0 NE0
     by_cases hlt : a < n
     ·obtain ⟨m', u', hpu⟩ := hpm.out
      obtain ⟨q1, q2, q3, q4⟩ := PX.out a m' u' hlt hpu
      have c1 := ht.out.at (j := a) (by omega)
      rw [RN.out a, show nxt (P a) = (u' : Int) by rw [hpu]; rfl] at c1
      have CE : Hid (nxt (P a) = (u' : Int)) := by show _ = _; rw [hpu]; rfl
      have Q4 := Lib.hid (q4 pre hpp.out)
      have Q3 := Lib.hid q3
      have XL : (ints pre).length ≤ 4000000 := by show (pre.map _).length ≤ _; rw [List.length_map]; omega
      have SA : Hid (ints pre ++ [(u' : Int)] = ints (pre ++ [u'])) := by show _ = _; rw [ints_app]; rfl
      have HLT := Lib.hid hlt
      have hlt' : (a : Int) < (n : Int) := by omega
      obtain ⟨X, hX⟩ : ∃ X, X = ints pre := ⟨_, rfl⟩
      rw [← hX] at ho XL SA
      clear hX hpu hpm hpp q3 q4 hlt
      go_wp2_with (at_builtin; refine append_num w wr rfl _ _ rfl w.heap.size u6 X (u' : Int) rfl rfl ho.out XL (Nat.le_refl _) hb.out ?_; intro v' w5 hown' hbel hmv hgr; have TT := Lib.hid (ht.out.kept hgr hne.out); have c2 := TT.out.at (j := a) (by have := HLT.out; omega); rw [RN.out a, CE.out] at c2)
      have NE := Lib.hid (moved_alloc hmv hne.out ht.out.lt.2)
      first
       | exact ⟨⟨u', pre ++ [u'], q2, rfl, by rw [List.length_append]; simp; omega, Q4.out, Q3.out, by rw [← SA.out]; exact hown', NE.out, TT.out, hbel⟩, by (simp [intOf]) <;> omega⟩
       | (go_roundw
          case rel => exact ⟨u', pre ++ [u'], q2, rfl, by rw [List.length_append]; simp; omega, Q4.out, Q3.out, by rw [← SA.out]; exact hown', NE.out, TT.out, hbel⟩
          case measure => (simp [intOf]) <;> omega)
     ·obtain rfl : a = n := by omega
      have E : Hid (bestP ks L = some pre) := by
       show _ = _
       rw [HB.out, hpp.out, PE.out a (Nat.le_refl _), List.append_nil]
      go_wp2
      go_ret2
      exact ⟨_, by rw [E.out]; rfl, by rw [E.out]; exact ho.out, hb.out⟩
end Go.Proofs.YtofnchdijanikaaGreatDoor
namespace Go.Proofs.YtofnchdijanikaaGreatDoor
open Go.RowKit
theorem Tb.drew {w : World} {B g m : Nat} {f : Nat → Int} (h : Tb w B g m f) : Tb w.drew B g m f := h
theorem Tb.drewN {w : World} {B g m : Nat} {f : Nat → Int} (h : Tb w B g m f) (q : Nat) : Tb (w.drewN q) B g m f := h
theorem below_drewN {B : Nat} {w w' : World} (h : Below B w w') (q : Nat) : Below B w (w'.drewN q) := ⟨h.os, h.tape, h.output, h.size, h.block⟩
theorem put_both {w0 w : World} {B g1 g2 m : Nat} {f1 f2 : Nat → Int} (h1 : Tb w B g1 m f1) (h2 : Tb w B g2 m f2) (h3 : Below B w0 w) (hB : B = w0.heap.size) (ne : g1 ≠ g2) (a : Nat) (x y : Int) (e1 e2 : Nat → Int) (E1 : (fun i => if i = a then x else f1 i) = e1) (E2 : (fun i => if i = a then y else f2 i) = e2) :
  Tb ((w.setCell ⟨g1, a, none⟩ (.int .i64 x)).setCell ⟨g2, a, none⟩ (.int .i64 y)) B g1 m e1 ∧ Tb ((w.setCell ⟨g1, a, none⟩ (.int .i64 x)).setCell ⟨g2, a, none⟩ (.int .i64 y)) B g2 m e2 ∧ Below B w0 ((w.setCell ⟨g1, a, none⟩ (.int .i64 x)).setCell ⟨g2, a, none⟩ (.int .i64 y)) := by
 have F1 := h1.put a x
 rw [E1] at F1
 have v2 := h2.kept F1.2 (fun e => ne (Option.some.inj e).symm)
 have F2 := v2.put a y
 rw [E2] at F2
 have s1 := h3.size
 have s2 := F1.2.size
 exact ⟨F1.1.kept F2.2 (fun e => ne (Option.some.inj e)), F2.1, (h3.grown F1.2 (by omega) (fun k hk => by cases hk; exact h1.lt.1)).grown F2.2 (by omega) (fun k hk => by cases hk; exact h2.lt.1)⟩
theorem pgN_no1 {ks : List Bool} {L : Nat} {T : Nat → Option (Int × Nat)} {a t : Nat} (h : pgC ks L a t = none) : pgN ks L T a t = none := by unfold pgN; rw [h]
theorem pgN_no2 {ks : List Bool} {L : Nat} {T : Nat → Option (Int × Nat)} {a t : Nat} {c : Int} (h : pgC ks L a t = some c) (hT : T t = none) : pgN ks L T a t = none := by simp [pgN, h, hT]
theorem pgN_yes {ks : List Bool} {L : Nat} {T : Nat → Option (Int × Nat)} {a t v : Nat} {c r : Int} (h : pgC ks L a t = some c) (hT : T t = some (r, v)) : pgN ks L T a t = some (c + r) := by simp [pgN, h, hT]
theorem pageArgs_any (b off cap n L : Nat) (ks : List Bool) (w : World) (hc : RwC w b off n ks) (n30 : n ≤ 30) (hL : 1 ≤ L ∧ L ≤ 30) :
  Calls Tryz.prog 86 #[.slice (some ⟨b, off, none⟩) n cap, .int .i64 L] w (Ret (.bool true) w) := by
 have IV := Lib.hid (implRows_any b off cap n ks w hc n30)
 have I1 : Hid (inB (L : Int) 1 1000 = true) := inB_yes (by omega) (by omega)
 clear hc
 go_enter Tryz.func86, Tryz.ntmps86
 go_wp2_with (first | (go_at_call 108; refine IV.out.mono ?_; rintro e w2 ⟨rfl, hb2⟩) | (go_at_call 88; refine (isHeight_any _ _).mono ?_; rintro e w' ⟨rfl, rfl⟩; rw [I1.out]))
 go_ret
 exact ⟨rfl, hb2⟩
set_option maxHeartbeats 16000000 in
theorem implPages_any (b off cap n L : Nat) (ks : List Bool) (w : World) (hc : RwC w b off n ks) (n30 : n ≤ 30) (n0 : 0 < n) (hcap : n ≤ cap) (hL : 1 ≤ L ∧ L ≤ 30) :
  Calls Tryz.prog 65 #[.slice (some ⟨b, off, none⟩) n cap, .int .i64 L] w (BestPPost ks L w) := by
 obtain ⟨i0, hi, hz0, hz1, hz2⟩ := info_parts info_int
 have RV := Lib.hid (fun (w' : World) (hb : Below w.heap.size w w') => pageArgs_any b off cap n L ks w' (hc.below hb) n30 hL)
 have I1 : Hid (inB (L : Int) 1 1000 = true) := inB_yes (by omega) (by omega)
 have hnk := hc.1
 obtain ⟨P, hP⟩ : ∃ P, P = pgB ks L := ⟨_, rfl⟩
 have PN0 : P n = some (0, 0) := by rw [hP]; exact pgB_end ks L n (by omega)
 have PU := Lib.hid (fun a (ha : a < n) => (show P a = pgDn ks L P a (n - a) by rw [hP, hnk]; exact pgB_at ks L a (by omega)))
 have PDS : Hid (∀ a k, pgDn ks L P a (k + 1) = match pgN ks L P a (n - k) with | none => pgDn ks L P a k | some m => match pgDn ks L P a k with | none => some (m, n - k) | some (q, u) => if m < q then some (m, n - k) else some (q, u)) := fun a k => by rw [hnk]; rfl
 have L1000 : Hid (L ≤ 1000) := by show _ ≤ _; omega
 have PCO := Lib.hid (fun a t (hat : a < t) (htn : t ≤ n) (w' : World) (hb : Below w.heap.size w w') => implPage_any b off cap n a t L ks w' (hc.below hb) n30 hat htn hL.2 hcap)
 have PB := Lib.hid (fun a m u (h : P a = some (m, u)) => (show 0 ≤ m ∧ m ≤ 30000000 by
  rw [hP] at h
  have := pgB_bd (ks := ks) (L := L) (by omega) (ks.length) a m u (by omega) h
  omega))
 have QB := Lib.hid (fun a k q v (ha : a < n) (hk : k ≤ n - a) (h : pgDn ks L P a k = some (q, v)) => (show 0 ≤ q by
  obtain ⟨h1, h2, _⟩ := (pgDn_is ks L P a k (by omega)).2 q v h
  unfold pgN at h2
  split at h2
  ·cases h2
  ·rename_i c hc1
   have hc2 := pgC_bd (by omega : L ≤ 1000) (by omega) hc1
   split at h2
   ·cases h2
   ·rename_i r x hr
    have := PB.out _ _ _ hr
    simp only [Option.some.injEq] at h2
    omega))
 have PX := Lib.hid (fun a m u (ha : a < n) (h : P a = some (m, u)) => (show a < u ∧ u ≤ n ∧ (∃ r v, P u = some (r, v)) ∧ ∀ pre, pgP ks L 0 = pre ++ pgP ks L a → pgP ks L 0 = (pre ++ [u]) ++ pgP ks L u by
  rw [hP] at h ⊢
  have h1 := pgB_next (by omega : a < ks.length) h
  exact ⟨h1.1, by omega, pgB_some (by omega) h, fun pre hp => pgP_step (by omega) h hp⟩))
 have PE := Lib.hid (fun a (ha : n ≤ a) => pgP_end ks L a (by omega))
 have P0N : Hid (P 0 = none → bestP ks L = none) := fun h => bestP_none (by rw [← hP]; exact h)
 have P0S : Hid (∀ p, P 0 = some p → bestP ks L = some (pgP ks L 0)) := fun p h => bestP_some (p := p) (by rw [← hP]; exact h)
 have HC := Lib.hid hc
 have HP := Lib.hid hP
 have HNK := Lib.hid hnk
 clear hP hc hnk
 go_enter Tryz.func65, Tryz.ntmps65
 go_wp2_with (first | (go_at_call 86; refine (RV.out _ (Below.refl _ _)).mono ?_; rintro e w2 ⟨rfl, hb2⟩) | (at_make; refine wpList_make_full _ rfl _ _ 72 rfl w2.heap.size 3 i0 (.int .i64 0) 1 Tryz.underlying72 hi hz0 hz1 .i64 .i64 _ _ (n + 1) rfl rfl rfl rfl (by rw [hz2]; omega) (by unfold maxLen; omega) (Nat.le_refl _) ?_; intro w3 hown3 hgrow3) | (at_make; refine wpList_make_full _ rfl _ _ 72 rfl w3.heap.size 3 i0 (.int .i64 0) 1 Tryz.underlying72 hi hz0 hz1 .i64 .i64 _ _ (n + 1) rfl rfl rfl rfl (by rw [hz2]; omega) (by unfold maxLen; omega) (Nat.le_refl _) ?_; intro w4 hown4 hgrow4))
 have hs2 := hb2.size
 have hs3 := hgrow3.size
 have l3 := (World.ownsRow.lt hown3 w2.heap.size rfl)
 have b2 := hb2
 have b3 := b2.grown hgrow3 (by omega) (fun k h => by cases h)
 have b4 := b3.grown hgrow4 (by omega) (fun k h => by cases h)
 obtain ⟨g1, hg1⟩ : ∃ g, g = w2.heap.size := ⟨_, rfl⟩
 obtain ⟨g2, hg2⟩ : ∃ g, g = w3.heap.size := ⟨_, rfl⟩
 have zr := rowF_start cst P n
 have zn := rowF_start nxt P n
 have T14 : Hid (Tb w4 w.heap.size g1 (n + 1) (rowF cst P n (P n))) := by
  refine Tb.made (fun j hj => zr j hj (by rw [PN0]; rfl)) ?_
  rw [hg1]
  refine World.ownsRow.mono (World.ownsRow.kept ?_ hgrow4 (.inr (by show some _ ≠ none; simp))) (by omega : w.heap.size ≤ w2.heap.size)
  simpa [madeCells, made_ints] using hown3
 have T24 : Hid (Tb w4 w.heap.size g2 (n + 1) (rowF nxt P n (P n))) := by
  refine Tb.made (fun j hj => zn j hj (by rw [PN0]; rfl)) ?_
  rw [hg2]
  refine World.ownsRow.mono ?_ (by omega : w.heap.size ≤ w3.heap.size)
  simpa [madeCells, made_ints] using hown4
 have GNE : Hid (g1 ≠ g2) := by show _ ≠ _; omega
 have B4 := Lib.hid b4
 rw [← hg1, ← hg2]
 clear hs2 hs3 l3 b2 b3 b4 zr zn hb2 hown3 hown4 hgrow3 hgrow4 hg1 hg2 hi hz0 hz1 hz2
 go_loopw [9] (fun i wr => ∃ a : Nat, a ≤ n ∧ i = .int .i64 ((a : Int) - 1) ∧ Hid (Tb wr w.heap.size g1 (n + 1) (rowF cst P a (P a))) ∧ Hid (Tb wr w.heap.size g2 (n + 1) (rowF nxt P a (P a))) ∧ Hid (Below w.heap.size w wr)) (fun i _ => (intOf i + 1).toNat)
 case atStart => exact ⟨n, Nat.le_refl _, rfl, T14.out, T24.out, B4.out⟩
 case round =>
  obtain ⟨a0, ha0, rfl, t1, t2, t4⟩ := hrel
  clear T14 T24 B4
  by_cases hz : 0 < a0
  ·obtain ⟨a, rfl⟩ : ∃ a, a0 = a + 1 := ⟨a0 - 1, by omega⟩
   have han : a < n := by omega
   have e1 : (((a + 1 : Nat) : Int) - 1) = (a : Int) := by omega
   rw [e1]
   have u1 := t1.out.put a (-1)
   rw [rowF_down cst P a (-1) rfl] at u1
   have x1 := t1.out.at (j := a) (by omega)
   have y1 := t1.out.frozen a
   have u2 := t2.out.kept u1.2 (fun e => GNE.out (Option.some.inj e).symm)
   rw [rowF_zero nxt P a rfl] at u2
   have V1 := Lib.hid u1.1
   have V2 := Lib.hid u2
   have V4 := Lib.hid (t4.out.grown u1.2 t4.out.size (fun k' hk' => by cases hk'; exact t1.out.lt.1))
   have hanat : (0 : Int) ≤ (a : Int) := by omega
   clear t1 t2 t4 u1 u2 e1 hz ha0
   go_wp2_with fail
   go_loopw [10] (fun t wx => ∃ k : Nat, k ≤ n - a ∧ t = .int .i64 ((n : Int) - k) ∧ Hid (Tb wx w.heap.size g1 (n + 1) (rowF cst P a (pgDn ks L P a k))) ∧ Hid (Tb wx w.heap.size g2 (n + 1) (rowF nxt P a (pgDn ks L P a k))) ∧ Hid (Below w.heap.size w wx)) (fun t _ => (intOf t - a).toNat)
   case atStart => exact ⟨0, Nat.zero_le _, by go_num, V1.out, V2.out, V4.out⟩
   case round =>
    obtain ⟨k, hk, rfl, h1, h2, h4⟩ := hrel
    clear V1 V2 V4 x1 y1
    by_cases hto : k < n - a
    ·obtain ⟨t, ht⟩ : ∃ t : Nat, (t : Int) = (n : Int) - k := ⟨n - k, by omega⟩
     rw [← ht]
     have hat : a < t := by omega
     have htn : t ≤ n := by omega
     have htk : n - k = t := by omega
     have US := Lib.hid (PDS.out a k)
     rw [htk] at US
     have hgt : (a : Int) < (t : Int) := by omega
     have hib1 : (a : Int) < (n : Int) + 1 := by omega
     have hib2 : (t : Int) < (n : Int) + 1 := by omega
     have PC := Lib.hid (PCO.out a t hat htn)
     have HT := Lib.hid ht
     clear ht htk
     cases hc : pgC ks L a t with
     | none =>
      rw [hc] at PC
      simp only [costO] at PC
      have PN := Lib.hid (pgN_no1 (T := P) hc)
      clear hc
      have UE : Hid (pgDn ks L P a (k + 1) = pgDn ks L P a k) := by show _ = _; rw [US.out, PN.out]
      clear US
      go_wp2_with (go_at_call 87; refine (PC.out wr h4.out).mono ?_; rintro e w6 ⟨rfl, hb6⟩; have k1 := Lib.hid (h1.out.below hb6); have k2 := Lib.hid (h2.out.below hb6); have k4 := Lib.hid (below_next h4.out hb6 (Nat.le_refl _)))
      first
       | exact ⟨⟨k + 1, by omega, by have ht5 := HT.out; go_num, by rw [UE.out]; exact k1.out, by rw [UE.out]; exact k2.out, k4.out⟩, by (simp [intOf]) <;> (have ht5 := HT.out; omega)⟩
       | (go_roundw
          case rel => exact ⟨k + 1, by omega, by have ht5 := HT.out; go_num, by rw [UE.out]; exact k1.out, by rw [UE.out]; exact k2.out, k4.out⟩
          case measure => (simp [intOf]) <;> (have ht5 := HT.out; omega))
     | some c =>
      rw [hc] at PC
      simp only [costO] at PC
      have cb := pgC_bd L1000.out (Nat.le_of_lt hat) hc
      obtain ⟨cb1, cb2⟩ := cb
      have cneg : ¬ c < 0 := by omega
      cases hp : P t with
      | none =>
       have PN := Lib.hid (pgN_no2 (T := P) hc hp)
       have CST : Hid (cst (P t) = -1) := by show _ = _; rw [hp]; rfl
       clear hc hp
       have UE : Hid (pgDn ks L P a (k + 1) = pgDn ks L P a k) := by show _ = _; rw [US.out, PN.out]
       clear US
       go_wp2_with (go_at_call 87; refine (PC.out wr h4.out).mono ?_; rintro e w6 ⟨rfl, hb6⟩; have k1 := Lib.hid (h1.out.below hb6); have k2 := Lib.hid (h2.out.below hb6); have k4 := Lib.hid (below_next h4.out hb6 (Nat.le_refl _)); have c0 := k1.out.at (j := t) (by omega); rw [rowF_past cst P a _ t hat] at c0; rw [CST.out] at c0; have c1 := k1.out.at (j := a) (by omega); rw [rowF_at] at c1)
       first
        | exact ⟨⟨k + 1, by omega, by have ht5 := HT.out; go_num, by rw [UE.out]; exact k1.out, by rw [UE.out]; exact k2.out, k4.out⟩, by (simp [intOf]) <;> (have ht5 := HT.out; omega)⟩
        | (go_roundw
           case rel => exact ⟨k + 1, by omega, by have ht5 := HT.out; go_num, by rw [UE.out]; exact k1.out, by rw [UE.out]; exact k2.out, k4.out⟩
           case measure => (simp [intOf]) <;> (have ht5 := HT.out; omega))
      | some p =>
       obtain ⟨r, v⟩ := p
       obtain ⟨m0, m1⟩ := PB.out t r v hp
       have PN := Lib.hid (pgN_yes (T := P) hc hp)
       have CST : Hid (cst (P t) = r) := by show _ = _; rw [hp]; rfl
       have rneg : ¬ r < 0 := by omega
       have hwr : IntKind.i64.wrap (c + r) = c + r := i64_ok _ (by omega)
       clear hc hp
       cases hq : pgDn ks L P a k with
       | none =>
        have HQ := Lib.hid hq
        have HQ0 : Hid (cst (pgDn ks L P a k) = -1) := by show _ = _; rw [hq]; rfl
        clear hq
        have UE : Hid (pgDn ks L P a (k + 1) = some (c + r, t)) := by show _ = _; rw [US.out, PN.out]; simp only [HQ.out]
        clear US
        go_wp2_with (go_at_call 87; refine (PC.out wr h4.out).mono ?_; rintro e w6 ⟨rfl, hb6⟩; have k1 := Lib.hid (h1.out.below hb6); have k2 := Lib.hid (h2.out.below hb6); have k4 := Lib.hid (below_next h4.out hb6 (Nat.le_refl _)); have c0 := k1.out.at (j := t) (by omega); rw [rowF_past cst P a _ t hat] at c0; rw [CST.out] at c0; have c1 := k1.out.at (j := a) (by omega); rw [rowF_at] at c1; rw [HQ0.out] at c1)
        go_quiet (fail)
        have FF := fun (qn : Nat) => put_both (k1.out.drewN qn) (k2.out.drewN qn) (below_drewN k4.out qn) rfl GNE.out a (c + r) (t : Int) (rowF cst P a (pgDn ks L P a (k + 1))) (rowF nxt P a (pgDn ks L P a (k + 1))) (by rw [UE.out]; exact rowF_put cst P a _ (some (c + r, t))) (by rw [UE.out]; exact rowF_put nxt P a _ (some (c + r, t)))
        have y0 := (k1.out.drewN nq).frozen a
        have F1 := (k1.out.drewN nq).put a (c + r)
        have v2 := (k2.out.drewN nq).kept F1.2 (fun e => GNE.out (Option.some.inj e).symm)
        have y1 := v2.frozen a
        have x1 := v2.at (j := a) (by omega)
        have z1 := (k1.out.drewN nq).at (j := a) (by omega)
        have FH := Lib.hid FF
        clear FF F1 v2
        go_wp2_with fail
        first
         | exact ⟨⟨k + 1, by omega, by have ht5 := HT.out; go_num, (FH.out _).1, (FH.out _).2.1, (FH.out _).2.2⟩, by (simp [intOf]) <;> (have ht5 := HT.out; omega)⟩
         | (go_roundw
            case rel => exact ⟨k + 1, by omega, by have ht5 := HT.out; go_num, (FH.out _).1, (FH.out _).2.1, (FH.out _).2.2⟩
            case measure => (simp [intOf]) <;> (have ht5 := HT.out; omega))
       | some p =>
        obtain ⟨q, u⟩ := p
        have HQ := Lib.hid hq
        have HQ0 : Hid (cst (pgDn ks L P a k) = q) := by show _ = _; rw [hq]; rfl
        have qb := QB.out a k q u han hk hq
        have qneg : ¬ q < 0 := by omega
        clear hq qb
        by_cases hlt : c + r < q
        ·have HLT := Lib.hid hlt
         have UE : Hid (pgDn ks L P a (k + 1) = some (c + r, t)) := by show _ = _; rw [US.out, PN.out]; simp only [HQ.out]; rw [if_pos HLT.out]
         clear US
         go_wp2_with (go_at_call 87; refine (PC.out wr h4.out).mono ?_; rintro e w6 ⟨rfl, hb6⟩; have k1 := Lib.hid (h1.out.below hb6); have k2 := Lib.hid (h2.out.below hb6); have k4 := Lib.hid (below_next h4.out hb6 (Nat.le_refl _)); have c0 := k1.out.at (j := t) (by omega); rw [rowF_past cst P a _ t hat] at c0; rw [CST.out] at c0; have c1 := k1.out.at (j := a) (by omega); rw [rowF_at] at c1; rw [HQ0.out] at c1)
         go_quiet (fail)
         have FF := fun (qn : Nat) => put_both (k1.out.drewN qn) (k2.out.drewN qn) (below_drewN k4.out qn) rfl GNE.out a (c + r) (t : Int) (rowF cst P a (pgDn ks L P a (k + 1))) (rowF nxt P a (pgDn ks L P a (k + 1))) (by rw [UE.out]; exact rowF_put cst P a _ (some (c + r, t))) (by rw [UE.out]; exact rowF_put nxt P a _ (some (c + r, t)))
         have y0 := (k1.out.drewN nq).frozen a
         have F1 := (k1.out.drewN nq).put a (c + r)
         have v2 := (k2.out.drewN nq).kept F1.2 (fun e => GNE.out (Option.some.inj e).symm)
         have y1 := v2.frozen a
         have x1 := v2.at (j := a) (by omega)
         have z1 := (k1.out.drewN nq).at (j := a) (by omega)
         have FH := Lib.hid FF
         clear FF F1 v2
         go_wp2_with fail
         first
          | exact ⟨⟨k + 1, by omega, by have ht5 := HT.out; go_num, (FH.out _).1, (FH.out _).2.1, (FH.out _).2.2⟩, by (simp [intOf]) <;> (have ht5 := HT.out; omega)⟩
          | (go_roundw
             case rel => exact ⟨k + 1, by omega, by have ht5 := HT.out; go_num, (FH.out _).1, (FH.out _).2.1, (FH.out _).2.2⟩
             case measure => (simp [intOf]) <;> (have ht5 := HT.out; omega))
        ·have HLT := Lib.hid hlt
         have UE : Hid (pgDn ks L P a (k + 1) = pgDn ks L P a k) := by show _ = _; rw [US.out, PN.out]; simp only [HQ.out]; rw [if_neg HLT.out]
         clear US
         go_wp2_with (go_at_call 87; refine (PC.out wr h4.out).mono ?_; rintro e w6 ⟨rfl, hb6⟩; have k1 := Lib.hid (h1.out.below hb6); have k2 := Lib.hid (h2.out.below hb6); have k4 := Lib.hid (below_next h4.out hb6 (Nat.le_refl _)); have c0 := k1.out.at (j := t) (by omega); rw [rowF_past cst P a _ t hat] at c0; rw [CST.out] at c0; have c1 := k1.out.at (j := a) (by omega); rw [rowF_at] at c1; rw [HQ0.out] at c1)
         go_quiet (fail)
         go_wp2_with fail
         first
          | exact ⟨⟨k + 1, by omega, by have ht5 := HT.out; go_num, by rw [UE.out]; exact k1.out.drewN _, by rw [UE.out]; exact k2.out.drewN _, below_drewN k4.out _⟩, by (simp [intOf]) <;> (have ht5 := HT.out; omega)⟩
          | (go_roundw
             case rel => exact ⟨k + 1, by omega, by have ht5 := HT.out; go_num, by rw [UE.out]; exact k1.out.drewN _, by rw [UE.out]; exact k2.out.drewN _, below_drewN k4.out _⟩
             case measure => (simp [intOf]) <;> (have ht5 := HT.out; omega))
    ·obtain rfl : k = n - a := by omega
     have hcond : ¬ (a : Int) < (n : Int) - ((n - a : Nat) : Int) := by omega
     have UE := PU.out a han
     rw [← UE] at h1 h2
     have T1 := h1
     have T2 := h2
     clear h1 h2 UE
     go_wp2_with fail
     first
      | exact ⟨⟨a, by omega, by go_num, T1.out, T2.out, h4.out⟩, by (simp [intOf]) <;> omega⟩
      | (go_roundw
         case rel => exact ⟨a, by omega, by go_num, T1.out, T2.out, h4.out⟩
         case measure => (simp [intOf]) <;> omega)
  ·obtain rfl : a0 = 0 := by omega
   rw [show (((0 : Nat) : Int) - 1) = -1 by omega]
   have x1 := t1.out.at (j := 0) (by omega)
   rw [rowF_at] at x1
   clear hz ha0 t1
   cases hp : P 0 with
   | none =>
    have e0 : cst (P 0) = -1 := by rw [hp]; rfl
    rw [e0] at x1
    have HB := Lib.hid (P0N.out hp)
    clear hp e0 t2
    go_wp2
    go_ret2
    exact ⟨_, by rw [HB.out]; rfl, by rw [HB.out]; exact OwnI.nil _ _, t4.out⟩
   | some p =>
    obtain ⟨m, u⟩ := p
    have e0 : cst (P 0) = m := by rw [hp]; rfl
    rw [e0] at x1
    have mneg : ¬ m < 0 := by have := PB.out 0 m u hp; omega
    have HB := Lib.hid (P0S.out _ hp)
    have HP0 : Hid (∃ m u, P 0 = some (m, u)) := ⟨m, u, hp⟩
    have RN : Hid (∀ a, rowF nxt P 0 (P 0) a = nxt (P a)) := fun a => by
     by_cases h : a = 0
     ·subst h; exact rowF_at nxt P 0 _
     ·exact rowF_past nxt P 0 _ a (by omega)
    have NE0 : Hid (some g2 ≠ (Value.slice none 0 0).ownBlock) := fun e => by cases e
    clear hp e0
    go_wp2_with fail
    go_loopw [12, 13] (fun v i wr => ∃ (a : Nat) (pre : List Nat), a ≤ n ∧ i = .int .i64 a ∧ pre.length ≤ a ∧ Hid (pgP ks L 0 = pre ++ pgP ks L a) ∧ Hid (∃ m u, P a = some (m, u)) ∧ Hid (OwnI wr w.heap.size v (ints pre)) ∧ Hid (some g2 ≠ v.ownBlock) ∧ Hid (Tb wr w.heap.size g2 (n + 1) (rowF nxt P 0 (P 0))) ∧ Hid (Below w.heap.size w wr)) (fun _ i _ => n - (intOf i).toNat)
    case atStart => exact ⟨0, [], Nat.zero_le _, rfl, Nat.zero_le _, rfl, HP0.out, OwnI.nil _ _, NE0.out, t2.out, t4.out⟩
    case round =>
     obtain ⟨a, pre, ha, rfl, hpl, hpp, hpm, ho, hne, ht, hb⟩ := hrel
     clear t2 t4 HP0 NE0
     by_cases hlt : a < n
     ·obtain ⟨m', u', hpu⟩ := hpm.out
      obtain ⟨q1, q2, q3, q4⟩ := PX.out a m' u' hlt hpu
      have c1 := ht.out.at (j := a) (by omega)
      rw [RN.out a, show nxt (P a) = (u' : Int) by rw [hpu]; rfl] at c1
      have CE : Hid (nxt (P a) = (u' : Int)) := by show _ = _; rw [hpu]; rfl
      have Q4 := Lib.hid (q4 pre hpp.out)
      have Q3 := Lib.hid q3
      have XL : (ints pre).length ≤ 4000000 := by show (pre.map _).length ≤ _; rw [List.length_map]; omega
      have SA : Hid (ints pre ++ [(u' : Int)] = ints (pre ++ [u'])) := by show _ = _; rw [ints_app]; rfl
      have HLT := Lib.hid hlt
      have hlt' : (a : Int) < (n : Int) := by omega
      obtain ⟨X, hX⟩ : ∃ X, X = ints pre := ⟨_, rfl⟩
      rw [← hX] at ho XL SA
      clear hX hpu hpm hpp q3 q4 hlt
      go_wp2_with (at_builtin; refine append_num w wr rfl _ _ rfl w.heap.size u12 X (u' : Int) rfl rfl ho.out XL (Nat.le_refl _) hb.out ?_; intro v' w5 hown' hbel hmv hgr; have TT := Lib.hid (ht.out.kept hgr hne.out); have c2 := TT.out.at (j := a) (by have := HLT.out; omega); rw [RN.out a, CE.out] at c2)
      have NE := Lib.hid (moved_alloc hmv hne.out ht.out.lt.2)
      first
       | exact ⟨⟨u', pre ++ [u'], q2, rfl, by rw [List.length_append]; simp; omega, Q4.out, Q3.out, by rw [← SA.out]; exact hown', NE.out, TT.out, hbel⟩, by (simp [intOf]) <;> omega⟩
       | (go_roundw
          case rel => exact ⟨u', pre ++ [u'], q2, rfl, by rw [List.length_append]; simp; omega, Q4.out, Q3.out, by rw [← SA.out]; exact hown', NE.out, TT.out, hbel⟩
          case measure => (simp [intOf]) <;> omega)
     ·obtain rfl : a = n := by omega
      have E : Hid (bestP ks L = some pre) := by
       show _ = _
       rw [HB.out, hpp.out, PE.out a (Nat.le_refl _), List.append_nil]
      go_wp2
      go_ret2
      exact ⟨_, by rw [E.out]; rfl, by rw [E.out]; exact ho.out, hb.out⟩
end Go.Proofs.YtofnchdijanikaaGreatDoor

/-
  PROVED HERE: what the printer's lines need, part J27. Conditions: each theorem's own.
-/
import Derived.Test.YtofnchdijanikaaGreatDoorJ26
import Derived.Deep.AppendLies
set_option linter.unusedVariables false
set_option linter.unusedSimpArgs false
/- PtC: PROVED HERE: rows of rows of texts, marked: one row's texts turn. Conditions: each theorem's own. -/
namespace Go.Proofs.YtofnchdijanikaaGreatDoor
open Go.RowKit
theorem OwnSU.grown' {w w' : World} {base hi : Nat} {v : Value} {xs : List (List (List UInt8))} {us : List Value} {row : Option Nat} (h : OwnSU w base hi v xs us) (hg : w.grownBy w' row) (hv : ∀ k, row = some k → v.ownBlock ≠ some k) (hu : ∀ k, row = some k → ∀ u ∈ us, u.ownBlock ≠ some k) : OwnSU w' base hi v xs us := by
 have key : ∀ z : Value, (∀ k, row = some k → z.ownBlock ≠ some k) → z.ownBlock = none ∨ z.ownBlock ≠ row := fun z hz => by
  cases row with
  | none => cases hb : z.ownBlock with
   | none => exact .inl rfl
   | some k => exact .inr (by simp)
  | some k => exact .inr (hz k rfl)
 obtain ⟨h1, h2, h2', h3, h4⟩ := h
 refine ⟨h1, World.ownsRow.kept h2 hg (key v hv), h2', fun j hj => ?_, h4⟩
 obtain ⟨u, e, ho, hk, ha⟩ := h3 j hj
 exact ⟨u, e, World.ownsRow.kept ho hg (key u fun k hk => hu k hk u (List.mem_of_getElem? e)), hk, ha⟩
/-- One row's texts have turned, all else stands. -/
theorem OwnSU.turn {w w' : World} {base hi j : Nat} {v u : Value} {xs : List (List (List UInt8))} {us : List Value} {x : List (List UInt8)} (h : OwnSU w base hi v xs us) (hj : j < xs.length) (hu : us[j]? = some u)
  (hg : w.grownBy w' u.ownBlock) (ho : OwnT w' base u x) : OwnSU w' base hi v (xs.set j x) us := by
 obtain ⟨h1, h2, h2', h3, h4⟩ := h
 obtain ⟨u0, e0, hu0, hk0, ha0⟩ := h3 j hj
 obtain rfl : u = u0 := by rw [hu] at e0; exact Option.some.inj e0
 refine ⟨by simp [h1], ?_, h2', fun i hi' => ?_, h4⟩
 ·rw [List.length_set]
  refine h2.kept hg ?_
  cases hv : v.ownBlock with
  | none => exact .inl rfl
  | some k =>
   right
   rcases ha0 with ha | ha
   ·rw [ha]; simp
   ·rw [← hv]; exact Ne.symm ha
 ·rw [List.length_set] at hi'
  by_cases hij : j = i
  ·subst hij
   refine ⟨u, hu, ?_, hk0, ha0⟩
   rw [List.getElem_set_self]
   exact ho
  ·obtain ⟨u', e', hu', hk', ha'⟩ := h3 i hi'
   refine ⟨u', e', ?_, hk', ha'⟩
   rw [List.getElem_set_ne hij]
   refine World.ownsRow.kept hu' hg ?_
   exact h4 i j u' u e' hu (Ne.symm hij)
theorem mix_set {α : Type} (A B : List α) (j : Nat) (hA : j < A.length) (hB : j < B.length) : (A.take j ++ B.drop j).set j A[j] = A.take (j + 1) ++ B.drop (j + 1) := by
 rw [List.set_append_right _ _ (by simp; omega), List.length_take, show j - min j A.length = 0 by omega, List.drop_eq_getElem_cons hB, List.set_cons_zero, List.take_succ_eq_append_getElem hA, List.append_assoc]
 rfl
set_option maxRecDepth 100000 in
set_option maxHeartbeats 8000000 in
theorem markSS_any (v : Value) (xs : List (List (List UInt8))) (us : List Value) (k : Int) (base hi : Nat) (w : World) (h : OwnSU w base hi v xs us) (hk : 1 ≤ k) (hk2 : k ≤ 1000) (ht : totT xs ≤ 100000000) :
  Calls Tryz.prog 44 #[v, .int .i64 k] w fun e w' => e = .returned (.int .i64 (k + totT xs)) ∧ OwnSU w' base hi v (mkSS k xs) us ∧ OnlyU us w w' := by
 obtain ⟨a, ca, rfl⟩ := h.form
 obtain ⟨_, _, _, hl, _⟩ := ss_idx h.read
 obtain ⟨n, hn⟩ : ∃ n, n = xs.length := ⟨_, rfl⟩
 rw [← hn] at hl h ⊢
 have HN := Lib.hid hn
 have H0 := Lib.hid h
 obtain ⟨T, hT⟩ : ∃ T, T = totT xs := ⟨_, rfl⟩
 rw [← hT] at ht ⊢
 have HT := Lib.hid hT
 clear h hn hT
 go_enter Tryz.func44, Tryz.ntmps44
 go_wp2
 go_loopw [1, 5] (fun kk i wr => ∃ j t : Nat, j ≤ n ∧ t ≤ T ∧ i = .int .i64 j ∧ kk = .int .i64 (k + t) ∧ Hid (t = totT (xs.take j)) ∧ Hid (OwnSU wr base hi (.slice a n ca) ((mkSS k xs).take j ++ xs.drop j) us) ∧ Hid (OnlyU us w wr)) (fun _ i _ => n - (intOf i).toNat)
 case atStart => exact ⟨0, 0, Nat.zero_le _, Nat.zero_le _, rfl, by simp, rfl, by show OwnSU _ _ _ _ _ _; simpa using H0.out, OnlyU.refl _ _⟩
 case round =>
  obtain ⟨j, t, hj, htT, rfl, rfl, htj, ho, hb⟩ := hrel
  by_cases hlt : j < n
  ·have hj' : j < xs.length := by rw [← HN.out]; exact hlt
   have hA : j < (mkSS k xs).length := by rw [mkSS_len]; exact hj'
   have ho1 : OwnSU wr base hi (.slice a n ca) ((mkSS k xs).take j ++ xs.drop j) us := ho.out
   have hlen : ((mkSS k xs).take j ++ xs.drop j).length = n := by
    rw [List.length_append, List.length_take, List.length_drop, mkSS_len, ← HN.out]; omega
   obtain ⟨u, eu, hu, hk3, ha⟩ := ho1.2.2.2.1 j (by rw [hlen]; exact hlt)
   have ex : ((mkSS k xs).take j ++ xs.drop j)[j]'(by rw [hlen]; exact hlt) = xs[j] := by
    rw [List.getElem_append_right (by rw [List.length_take]; omega)]
    simp only [List.length_take, List.getElem_drop, Nat.min_eq_left (Nat.le_of_lt hA), Nat.sub_self, Nat.add_zero]
   rw [ex] at hu
   have hs1 := ho1.2.1
   rw [hlen] at hs1
   obtain ⟨g, cap, eg, _, hgl⟩ := hs1.form (by omega)
   cases eg
   have d1 := (hs1.cellAt j (by omega)).trans eu
   have ts := totT_succ xs j hj'
   rw [← htj.out] at ts
   have tt := totT_take xs (j + 1)
   rw [ts, ← HT.out] at tt
   have g1 := mkSS_get xs k j hj'
   rw [← htj.out] at g1
   have g2 : (mkSS k xs)[j]'hA = mkTs (k + t) xs[j].length := (List.getElem?_eq_some_iff.1 g1).2
   have TURN : Hid (∀ w', wr.grownBy w' u.ownBlock → OwnT w' base u (mkTs (k + t) xs[j].length) → OwnSU w' base hi (.slice (some ⟨g, 0, none⟩) n ca) ((mkSS k xs).take (j + 1) ++ xs.drop (j + 1)) us) := by
    intro w' hg' ho'
    have := ho1.turn (x := mkTs (k + t) xs[j].length) (by rw [hlen]; exact hlt) eu hg' ho'
    rwa [← g2, mix_set _ _ j hA hj'] at this
   have HU := Lib.hid hu
   have NB : Hid (u ∈ us) := List.mem_of_getElem? eu
   have TS := Lib.hid ts
   obtain ⟨x, hx⟩ : ∃ x, x = xs[j] := ⟨_, rfl⟩
   rw [← hx] at tt TS HU TURN
   clear hx g1 g2 ts hu hk3 ha ho1 ho htj hs1 ex hlen hA H0
   go_wp2_with (go_at_call 24; refine (markT_any u x (k + t) base wr HU.out (by omega) (by omega) (by omega)).mono ?_; rintro e w2 ⟨rfl, ho2, hg2⟩)
   have T2 := Lib.hid (TURN.out _ hg2 ho2)
   have B2 := Lib.hid (hb.out.trans (OnlyU.of_grown hg2 NB.out))
   clear ho2 hg2 TURN HU NB hb
   go_roundw
   case rel => exact ⟨j + 1, t + x.length, by omega, by omega, by go_num, by go_num, TS.out.symm, T2.out, B2.out⟩
   case measure => simp [intOf]; omega
  ·have e : t = T := by rw [htj.out, HT.out, List.take_of_length_le (by have := HN.out; omega)]
   have e2 : (mkSS k xs).take j ++ xs.drop j = mkSS k xs := by
    rw [List.take_of_length_le (by rw [mkSS_len]; have := HN.out; omega), List.drop_of_length_le (by have := HN.out; omega), List.append_nil]
   have O2 : Hid (OwnSU wr base hi (.slice a n ca) (mkSS k xs) us) := by rw [← e2]; exact ho.out
   have E := Lib.hid e
   clear e e2 ho H0 htj
   go_wp2
   go_ret
   exact ⟨by rw [← E.out]; rfl, O2.out, hb.out⟩
end Go.Proofs.YtofnchdijanikaaGreatDoor
/- PtK0: PROVED HERE: small facts of a line's words and numbers. Conditions: each theorem's own. -/
namespace Go.Proofs.YtofnchdijanikaaGreatDoor
open Go.RowKit
theorem isNumW_false {w0 : List UInt8} (h : isNumW w0 = false) : (w0 == [119, 105, 100, 116, 104]) = false ∧ (w0 == [109, 111, 115, 116]) = false ∧ (w0 == [108, 105, 110, 101, 115]) = false ∧ (w0 == [112, 97, 103, 101]) = false := by
 unfold isNumW tWidth tMost tLines tPage at h
 simp only [Bool.or_eq_false_iff] at h
 exact ⟨h.1, h.2.1, h.2.2.1, h.2.2.2⟩
theorem isNumW_true {w0 : List UInt8} (h : isNumW w0 = true) : w0 = tWidth ∨ w0 = tMost ∨ w0 = tLines ∨ w0 = tPage := by
 unfold isNumW at h
 simpa only [Bool.or_eq_true, beq_iff_eq] using h
theorem dec_lt : ∀ (k n : Nat), (Lib.decDigits n).length ≤ k → n < 10 ^ k
 | 0, n, h => by have := dec_pos n; omega
 | k + 1, n, h => by
  rw [Lib.decDigits] at h
  have hp : 10 ^ (k + 1) = 10 * 10 ^ k := by rw [Nat.pow_succ]; omega
  have h1 : 1 ≤ 10 ^ k := Nat.one_le_pow _ _ (by decide)
  split at h
  ·omega
  ·rw [List.length_append] at h
   have := dec_lt k (n / 10) (by simpa using h)
   omega
theorem numV_le {s : List UInt8} {n : Nat} (h : numV s = some n) : n ≤ 999999 := by
 obtain ⟨rfl, h6⟩ := numV_some h
 have := dec_lt 6 n h6
 omega
theorem bookP_few {b : DBook} {p : List (List (List UInt8))} (h : bookP b = some p) : p.length ≤ 30 := by
 unfold bookP at h
 cases hl : bookL b with
 | none => rw [hl] at h; cases h
 | some ls =>
  rw [hl] at h
  simp only at h
  split at h
  ·rename_i h30
   cases hb : bestP (keeps (counts ls)) b.lines.toNat with
   | none => rw [hb] at h; cases h
   | some t =>
    rw [hb] at h
    simp only [Option.some.injEq] at h
    subst h
    have h1 := (bestP_ends hb).2
    have h2 := (bookTo_len _ ls hl).2.2.1
    rw [keeps_len] at h1
    rw [cutP_len]
    omega
  ·cases h
end Go.Proofs.YtofnchdijanikaaGreatDoor

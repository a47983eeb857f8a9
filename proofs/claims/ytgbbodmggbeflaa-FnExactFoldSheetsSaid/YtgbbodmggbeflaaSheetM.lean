/-
  PROVED HERE: rows of sheets, marked: one sheet's numbers turn. Conditions: each theorem's own.
-/
import Derived.Test.YtgbbodmggbeflaaSheetH
import Derived.Deep.AppendLies
namespace Go.Proofs.Ytgbbodmggbeflaa
open Go.RowKit

/-- One sheet's row of numbers has turned, all else of it stands. -/
theorem OwnShU.turn {w w' : World} {base hi j : Nat} {v u : Value} {xs : List (List Int)} {us : List Value} {x : List Int} (h : OwnShU w base hi v xs us) (hj : j < xs.length) (hu : us[j]? = some u) (hx : x.length = xs[j].length)
    (hg : w.grownBy w' u.ownBlock) (ho : w'.ownsRow base 3 1 u x.length (x.map (Value.int .i64))) : OwnShU w' base hi v (xs.set j x) us := by
  obtain ⟨h1, h2, h2', h3, h4⟩ := h
  obtain ⟨u0, e0, hu0, hk0, ha0⟩ := h3 j hj
  obtain rfl : u = u0 := by rw [hu] at e0; exact Option.some.inj e0
  refine ⟨by simp [h1], ?_, h2', fun i hi' => ?_, h4⟩
  · rw [List.length_set]
    refine h2.kept hg ?_
    cases hv : v.ownBlock with
    | none => exact .inl rfl
    | some k =>
      right
      rcases ha0 with ha | ha
      · rw [ha]; simp
      · rw [← hv]; exact Ne.symm ha
  · rw [List.length_set] at hi'
    by_cases hij : j = i
    · subst hij
      refine ⟨u, hu, ?_, hk0, ha0⟩
      rw [List.getElem_set_self]
      exact ho
    · obtain ⟨u', e', hu', hk', ha'⟩ := h3 i hi'
      refine ⟨u', e', ?_, hk', ha'⟩
      rw [List.getElem_set_ne hij]
      refine hu'.kept hg ?_
      exact h4 i j u' u e' hu (Ne.symm hij)
theorem mix_set {α : Type} (A B : List α) (j : Nat) (hA : j < A.length) (hB : j < B.length) : (A.take j ++ B.drop j).set j A[j] = A.take (j + 1) ++ B.drop (j + 1) := by
  rw [List.set_append_right _ _ (by simp; omega), List.length_take, show j - min j A.length = 0 by omega, List.drop_eq_getElem_cons hB, List.set_cons_zero, List.take_succ_eq_append_getElem hA, List.append_assoc]
  rfl

set_option maxHeartbeats 4000000 in
theorem markSheetS_any (v : Value) (xs : List (List Int)) (us : List Value) (k : Int) (base hi : Nat) (w : World) (h : OwnShU w base hi v xs us) (hk : 0 ≤ k) (hk2 : k ≤ 1000) (ht : totS xs ≤ 100000000) :
    Calls Try.prog 39 #[v, .int .i64 k] w fun e w' => e = .returned (.int .i64 (k + totS xs)) ∧ OwnShU w' base hi v (mkS k xs) us ∧ Only base hi w w' := by
  obtain ⟨a, ca, rfl, hl, _⟩ := (OwnSheets.read ⟨us, h⟩).len
  obtain ⟨n, hn⟩ : ∃ n, n = xs.length := ⟨_, rfl⟩
  rw [← hn] at hl h ⊢
  have HN := Lib.hid hn
  have H0 := Lib.hid h
  obtain ⟨T, hT⟩ : ∃ T, T = totS xs := ⟨_, rfl⟩
  rw [← hT] at ht ⊢
  have HT := Lib.hid hT
  clear h hn hT
  go_enter Try.func39, Try.ntmps39
  go_wp2
  go_loopw [1, 5] (fun kk i wr => ∃ j t : Nat, j ≤ n ∧ t ≤ T ∧ i = .int .i64 j ∧ kk = .int .i64 (k + t) ∧ Hid (t = totS (xs.take j)) ∧ Hid (OwnShU wr base hi (.slice a n ca) ((mkS k xs).take j ++ xs.drop j) us) ∧ Hid (Only base hi w wr)) (fun _ i _ => n - (intOf i).toNat)
  case atStart => exact ⟨0, 0, Nat.zero_le _, Nat.zero_le _, rfl, by simp, rfl, by show OwnShU _ _ _ _ _ _; simpa using H0.out, Only.refl _ _ _⟩
  case round =>
    obtain ⟨j, t, hj, htT, rfl, rfl, htj, ho, hb⟩ := hrel
    by_cases hlt : j < n
    · have hj' : j < xs.length := by rw [← HN.out]; exact hlt
      have hA : j < (mkS k xs).length := by rw [mkS_len]; exact hj'
      have ho1 : OwnShU wr base hi (.slice a n ca) ((mkS k xs).take j ++ xs.drop j) us := ho.out
      have hlen : ((mkS k xs).take j ++ xs.drop j).length = n := by
        rw [List.length_append, List.length_take, List.length_drop, mkS_len, ← HN.out]; omega
      obtain ⟨u, eu, hu, hk3, ha⟩ := ho1.2.2.2.1 j (by rw [hlen]; exact hlt)
      have ex : ((mkS k xs).take j ++ xs.drop j)[j]'(by rw [hlen]; exact hlt) = xs[j] := by
        rw [List.getElem_append_right (by rw [List.length_take]; omega)]
        simp only [List.length_take, List.getElem_drop, Nat.min_eq_left (Nat.le_of_lt hA), Nat.sub_self, Nat.add_zero]
      rw [ex] at hu
      have hs1 := ho1.2.1
      rw [hlen] at hs1
      obtain ⟨g, cap, eg, _, hgl⟩ := hs1.form (by omega)
      cases eg
      have d1 := (hs1.cellAt j (by omega)).trans eu
      have ts := totS_succ xs j hj'
      rw [← htj.out] at ts
      have tt := totS_take xs (j + 1)
      rw [ts, ← HT.out] at tt
      have g1 := mkS_get xs k j hj'
      rw [← htj.out] at g1
      have g2 : (mkS k xs)[j]'hA = iota (k + t) xs[j].length := (List.getElem?_eq_some_iff.1 g1).2
      have TURN : Hid (∀ w', wr.grownBy w' u.ownBlock → w'.ownsRow base 3 1 u xs[j].length ((iota (k + t) xs[j].length).map (Value.int .i64)) → OwnShU w' base hi (.slice (some ⟨g, 0, none⟩) n ca) ((mkS k xs).take (j + 1) ++ xs.drop (j + 1)) us) := by
        intro w' hg' ho'
        have il : (iota (k + t) xs[j].length).length = xs[j].length := iota_length _ _
        have := ho1.turn (x := iota (k + t) xs[j].length) (by rw [hlen]; exact hlt) eu (by rw [ex, il]) hg' (by rw [il]; exact ho')
        rwa [← g2, mix_set _ _ j hA hj'] at this
      have HU := Lib.hid hu
      have NB : Hid (∀ q, u.ownBlock = some q → base ≤ q ∧ q < hi) := fun q hq => ⟨(hu.lt q hq).1, hk3 q hq⟩
      have TS := Lib.hid ts
      obtain ⟨x, hx⟩ : ∃ x, x = xs[j] := ⟨_, rfl⟩
      rw [← hx] at tt TS HU TURN
      clear hx g1 g2 ts hu hk3 ha ho1 ho htj hs1 ex hlen hA H0
      go_wp2_with (go_at_call 22; refine (markIntS_any u x (k + t) base wr HU.out (by omega) (by omega) (by omega)).mono ?_; rintro e w2 ⟨rfl, ho2, hg2⟩)
      have T2 := Lib.hid (TURN.out _ hg2 ho2)
      have B2 := Lib.hid (hb.out.trans (Only.of_grown hg2 NB.out))
      clear ho2 hg2 TURN HU NB hb
      go_roundw
      case rel => exact ⟨j + 1, t + x.length, by omega, by omega, by go_num, by go_num, TS.out.symm, T2.out, B2.out⟩
      case measure => simp [intOf]; omega
    · have e : t = T := by rw [htj.out, HT.out, List.take_of_length_le (by have := HN.out; omega)]
      have e2 : (mkS k xs).take j ++ xs.drop j = mkS k xs := by
        rw [List.take_of_length_le (by rw [mkS_len]; have := HN.out; omega), List.drop_of_length_le (by have := HN.out; omega), List.append_nil]
      have O2 : Hid (OwnShU wr base hi (.slice a n ca) (mkS k xs) us) := by rw [← e2]; exact ho.out
      have E := Lib.hid e
      clear e e2 ho H0 htj
      go_wp2
      go_ret
      exact ⟨by rw [← E.out]; rfl, O2.out, hb.out⟩
end Go.Proofs.Ytgbbodmggbeflaa

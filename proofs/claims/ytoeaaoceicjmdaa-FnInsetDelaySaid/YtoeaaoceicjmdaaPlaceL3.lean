/-
  PROVED HERE: more room delays no picture; with all the room nothing waits: plain laws, without any program. Conditions: each lemma's own.
-/
import Derived.Test.YtoeaaoceicjmdaaPlaceL2
import Derived.Test.YtoeaaoceicjmdaaDelay
namespace Go.Proofs.Ytoeaaoceicjmdaa
open Go.RowKit

theorem insSkip_le (h : Int) (L : List Int) (p q : Nat) (hp : p ≤ q) (hq : L.length ≤ q ∨ h ≤ L.getD q 0) : insSkip h L p ≤ q := by
  by_cases hc : p < L.length ∧ L.getD p 0 < h
  · rw [insSkip_next hc.1 hc.2]
    have hne : p ≠ q := by
      rintro rfl
      rcases hq with hq | hq <;> omega
    exact insSkip_le h L (p + 1) q (by omega) hq
  · rw [insSkip_stop hc]
    exact hp
termination_by L.length - p
decreasing_by omega

theorem getD_set (L : List Int) (q j : Nat) (z : Int) : (L.set q z).getD j 0 = if q = j ∧ j < L.length then z else L.getD j 0 := by
  simp only [List.getD_eq_getElem?_getD, List.getElem?_set]
  by_cases h : q = j
  · subst h
    by_cases h2 : q < L.length
    · simp [h2]
    · simp [h2]
  · simp [h]

/-- With more room (L') nothing comes later. -/
theorem insGo_more : ∀ (xs : List DInset) (p p' : Nat) (L L' O O' R : List Int), (∀ x ∈ xs, 1 ≤ x.f0) → insGo xs p L O = some R → L'.length = L.length → O'.length = O.length → p' ≤ p →
    (∀ j, p ≤ j → L.getD j 0 ≤ L'.getD j 0) → (∀ j, p' < j → L.getD j 0 ≤ L'.getD j 0) → (∀ j, O'.getD j 0 ≤ O.getD j 0) →
    ∃ R', insGo xs p' L' O' = some R' ∧ R'.length = R.length ∧ ∀ j, R'.getD j 0 ≤ R.getD j 0
  | [], p, p', L, L', O, O', R, _, h, hL, hO, hp, h1, h2, h3 => by
    rw [insGo] at h
    cases h
    exact ⟨O', rfl, hO, h3⟩
  | x :: t, p, p', L, L', O, O', R, hx, h, hL, hO, hp, h1, h2, h3 => by
    obtain ⟨q, _, hq, hpq, hfq, hqm, hroom, hnx⟩ := place_step h
    have hx0 := hx x List.mem_cons_self
    obtain ⟨q', hq'⟩ : ∃ q', q' = insSkip x.f0 L' (max p' x.f1.toNat) := ⟨_, rfl⟩
    have hle : q' ≤ q := by
      rw [hq']
      exact insSkip_le _ _ _ _ (by omega) (.inr (Int.le_trans hroom (h1 q hpq)))
    have hge : max p' x.f1.toNat ≤ q' := by rw [hq']; exact insSkip_ge _ _ _
    have hroom' : x.f0 ≤ L'.getD q' 0 := by rw [hq']; exact insSkip_room _ _ _ (by rw [← hq']; omega)
    have ih := insGo_more t q q' (L.set q (L.getD q 0 - x.f0)) (L'.set q' (L'.getD q' 0 - x.f0)) (O ++ [(q : Int)]) (O' ++ [(q' : Int)]) R (fun y hy => hx y (List.mem_cons_of_mem _ hy)) hnx (by simp [hL]) (by simp [hO]) hle ?_ ?_ ?_
    · obtain ⟨R', r1, r2, r3⟩ := ih
      refine ⟨R', ?_, r2, r3⟩
      rw [insGo]
      simp only [← hq']
      rw [if_pos (by omega)]
      exact r1
    · intro j hj
      have a := h1 j (by omega)
      have b := h1 q hpq
      rw [getD_set, getD_set]
      by_cases e : q = j
      · subst e
        by_cases e2 : q' = q
        · subst e2
          rw [if_pos ⟨rfl, by omega⟩, if_pos ⟨rfl, by omega⟩]
          omega
        · rw [if_pos ⟨rfl, by omega⟩, if_neg (fun h => e2 h.1)]
          omega
      · rw [if_neg (fun h => e h.1), if_neg (fun h => by omega)]
        exact a
    · intro j hj
      have a := h2 j (by omega)
      rw [getD_set, getD_set]
      rw [if_neg (fun (h : q' = j ∧ _) => by omega)]
      split
      · rename_i h
        obtain ⟨rfl, _⟩ := h
        omega
      · exact a
    · intro j
      have a := h3 j
      simp only [List.getD_eq_getElem?_getD, List.getElem?_append] at a ⊢
      rw [hO]
      split
      · exact a
      · by_cases e : j - O.length = 0
        · rw [e]; simp; omega
        · obtain ⟨i, hi⟩ : ∃ i, j - O.length = i + 1 := ⟨j - O.length - 1, by omega⟩
          rw [hi]; simp

/-- With all the room there may be each picture stands on its own page. -/
theorem insGo_wide : ∀ (xs : List DInset) (p : Nat) (L O : List Int) (S : Int), L.length = 20 → (∀ x ∈ xs, 1 ≤ x.f0 ∧ 0 ≤ x.f1 ∧ x.f1 ≤ 19) → insFrom (p : Int) xs = true → (∀ j, j < 20 → 1000 - S ≤ L.getD j 0) → S + (xs.map (·.f0)).sum ≤ 1000 →
    insGo xs p L O = some (O ++ xs.map (·.f1))
  | [], p, L, O, S, _, _, _, _, _ => by rw [insGo]; simp
  | x :: t, p, L, O, S, hl, hx, hf, hL, hS => by
    obtain ⟨x1, x2, x3⟩ := hx x List.mem_cons_self
    rw [insFrom] at hf
    simp only [Bool.and_eq_true, decide_eq_true_eq] at hf
    obtain ⟨f, hfx⟩ := Int.eq_ofNat_of_zero_le x2
    have hsum : 0 ≤ (t.map (·.f0)).sum := by
      clear hf hS hL
      induction t with
      | nil => simp
      | cons y s ih =>
        have := (hx y (by simp)).1
        have := ih (fun z hz => hx z (by
          rcases List.mem_cons.1 hz with rfl | hz
          · simp
          · exact List.mem_cons_of_mem _ (List.mem_cons_of_mem _ hz)))
        simp
        omega
    rw [List.map_cons, List.sum_cons] at hS
    have hLf := hL f (by omega)
    have hsk : insSkip x.f0 L (max p x.f1.toNat) = f := by
      have e : max p x.f1.toNat = f := by omega
      rw [e, insSkip_stop (fun h => by omega)]
    rw [insGo]
    simp only [hsk]
    rw [if_pos (by omega)]
    have ih := insGo_wide t f (L.set f (L.getD f 0 - x.f0)) (O ++ [(f : Int)]) (S + x.f0) (by simp [hl]) (fun y hy => hx y (List.mem_cons_of_mem _ hy)) (by rw [← hfx]; exact hf.2.2.2) (fun j hj => by
      rw [getD_set]
      split
      · omega
      · have := hL j hj; omega) (by omega)
    rw [ih, List.append_assoc, List.map_cons, hfx]
    rfl
theorem dsum_zero : ∀ xs : List DInset, dsum (xs.map (·.f1)) xs = 0
  | [] => rfl
  | x :: t => by rw [List.map_cons, dsum, dsum_zero t]; omega
theorem dsum_pos : ∀ (xs : List DInset) (p : Nat) (L O R : List Int), (∀ x ∈ xs, 0 ≤ x.f1) → insGo xs p L O = some R → 0 ≤ dsum (R.drop O.length) xs
  | [], p, L, O, R, _, h => by
    rw [insGo] at h
    cases h
    simp [dsum]
  | x :: t, p, L, O, R, hx, h => by
    have hlen := insGo_len _ _ _ _ _ h
    obtain ⟨q, hRq, -, -, hfq, -, -, hnx⟩ := place_step h
    have ih := dsum_pos t _ _ _ _ (fun y hy => hx y (List.mem_cons_of_mem _ hy)) hnx
    rw [List.length_append, List.length_cons, List.length_nil, Nat.zero_add] at ih
    have hk : O.length < R.length := by rw [hlen, List.length_cons]; omega
    have hd : R.drop O.length = (q : Int) :: R.drop (O.length + 1) := by
      rw [List.drop_eq_getElem_cons hk]
      congr 1
      rw [← hRq]
      simp [List.getD, hk]
    have := hx x List.mem_cons_self
    rw [hd, dsum]
    omega

def wideOf (rs : List Int) : List Int := rs.map fun r => min 1000 (r + 5)
theorem place_get {xs : List DInset} {rs : List Int} (h : placeB xs rs = true) : insB xs = true ∧ roomsB rs = true ∧ insGo xs 0 rs [] = some (placeXs xs rs) := by
  unfold placeB placeO at h
  unfold placeXs placeO
  split at h
  · rename_i hc
    rw [if_pos hc]
    refine ⟨hc.1, hc.2, ?_⟩
    cases e : insGo xs 0 rs [] with
    | none => rw [e] at h; cases h
    | some R => rfl
  · cases h
theorem place_of {xs : List DInset} {rs R : List Int} (h1 : insB xs = true) (h2 : roomsB rs = true) (h : insGo xs 0 rs [] = some R) : placeB xs rs = true ∧ placeXs xs rs = R := by
  unfold placeB placeXs placeO
  rw [if_pos ⟨h1, h2⟩, h]
  exact ⟨rfl, rfl⟩
theorem wide_getD (rs : List Int) (j : Nat) (hj : j < rs.length) : (wideOf rs).getD j 0 = min 1000 (rs.getD j 0 + 5) := by simp [wideOf, List.getD, hj]
theorem room_law {xs : List DInset} {rs : List Int} (h : placeB xs rs = true) : placeB xs (wideOf rs) = true ∧ (placeXs xs (wideOf rs)).length = (placeXs xs rs).length ∧ ∀ j, (placeXs xs (wideOf rs)).getD j 0 ≤ (placeXs xs rs).getD j 0 := by
  obtain ⟨h1, h2, h3⟩ := place_get h
  obtain ⟨hl, hb⟩ := roomsB_true h2
  have hw : ∀ j, rs.getD j 0 ≤ (wideOf rs).getD j 0 := by
    intro j
    have := hb j
    by_cases hj : j < rs.length
    · rw [wide_getD rs j hj]; omega
    · simp [wideOf, List.getD, hj]
  have hwb : roomsB (wideOf rs) = true := by
    unfold roomsB
    rw [Bool.and_eq_true]
    refine ⟨decide_eq_true (by simpa [wideOf] using hl), List.all_eq_true.2 fun y hy => ?_⟩
    obtain ⟨r, hr, rfl⟩ := List.mem_map.1 hy
    obtain ⟨j, hj, rfl⟩ := List.getElem_of_mem hr
    have := hb j
    simp only [List.getD, hj, List.getElem?_eq_getElem, Option.getD_some] at this
    exact inB_yes (by omega) (by omega)
  obtain ⟨R', r1, r2, r3⟩ := insGo_more xs 0 0 rs (wideOf rs) [] [] _ (fun x hx => ((insB_true h1).2 x hx).1) h3 (by simp [wideOf]) rfl (Nat.le_refl _) (fun j _ => hw j) (fun j _ => hw j) (fun j => Int.le_refl _)
  obtain ⟨e1, e2⟩ := place_of h1 hwb r1
  rw [e2]
  exact ⟨e1, r2, r3⟩
theorem rep_getD (n j : Nat) (z : Int) (h : j < n) : (List.replicate n z).getD j 0 = z := by
  rw [List.getD_eq_getElem?_getD, List.getElem?_replicate, if_pos h]
  rfl
theorem full_law {xs : List DInset} (h1 : insB xs = true) (hS : (xs.map (·.f0)).sum ≤ 1000) : delayOf xs (List.replicate 20 1000) = 0 := by
  have hx := (insB_true h1).2
  have hf : insFrom ((0 : Nat) : Int) xs = true := by
    unfold insB at h1
    rw [Bool.and_eq_true] at h1
    cases xs with
    | nil => rfl
    | cons x t =>
      have h := h1.1
      rw [insFrom] at h ⊢
      simp only [Bool.and_eq_true, decide_eq_true_eq] at h ⊢
      have := inB_true h.2.1
      exact ⟨h.1, h.2.1, by omega, h.2.2.2⟩
  have g := insGo_wide xs 0 (List.replicate 20 1000) [] 0 (by simp) (fun x h => ⟨(hx x h).1, (hx x h).2.2.1, (hx x h).2.2.2⟩) hf (fun j hj => by rw [rep_getD 20 j 1000 hj]; omega) (by omega)
  obtain ⟨e1, e2⟩ := place_of h1 (by decide) g
  unfold delayOf
  rw [if_pos e1, e2, List.nil_append, dsum_zero]
theorem delay_bd (xs : List DInset) (rs : List Int) : -1 ≤ delayOf xs rs := by
  unfold delayOf
  split
  · rename_i h
    obtain ⟨h1, _, h3⟩ := place_get h
    have := dsum_pos xs 0 rs [] _ (fun x hx => ((insB_true h1).2 x hx).2.2.1) h3
    simp only [List.length_nil, List.drop_zero] at this
    omega
  · omega
end Go.Proofs.Ytoeaaoceicjmdaa

/-
  PROVED HERE: rivers: the plain laws. Conditions: each lemma's own.
-/
import Derived.Test.YtaolkplecdbadaaRivG
namespace Go.Proofs.Ytaolkplecdbadaa
open Go.RowKit

theorem rv_filter (fl : Nat → Bool) (c : Nat) (L : Int) (n : Nat) (hL : 2 ≤ L) : ∀ f k st, rv fl c L n f k st = (rv fl c 2 n f k st).filter fun r => decide (L ≤ r.f2)
  | 0, k, st => rfl
  | f + 1, k, st => by
    rw [rv, rv]
    split
    · rfl
    · split
      · exact rv_filter fl c L n hL f _ _
      · rw [List.filter_append, ← rv_filter fl c L n hL f _ _]
        congr 1
        by_cases h : L ≤ (k : Int) - st
        · rw [if_pos h, if_pos (by omega), List.filter_cons]
          simp [h]
        · rw [if_neg h]
          split
          · rw [List.filter_cons]
            simp [h]
          · rfl
theorem rvTo_filter (xs : List ByteArray) (L : Int) (hL : 2 ≤ L) : ∀ m, rvTo xs L m = (rvTo xs 2 m).filter fun r => decide (L ≤ r.f2)
  | 0 => rfl
  | m + 1 => by
    rw [rvTo_succ, rvTo_succ, List.filter_append, ← rvTo_filter xs L hL m]
    congr 1
    exact rv_filter _ _ _ _ hL _ _ _
theorem rvAll_filter (xs : List ByteArray) (L : Int) (hL : 2 ≤ L) : rvAll xs L = (rvAll xs 2).filter fun r => decide (L ≤ r.f2) := by
  unfold rvAll rvOk
  rw [decide_eq_true hL, decide_eq_true (show (2 : Int) ≤ 2 by decide)]
  split
  · exact rvTo_filter xs L hL 59
  · rfl
theorem rv_mem (fl : Nat → Bool) (c : Nat) (L : Int) (n : Nat) (r : DRiver) : ∀ f k st, st ≤ k → (∀ i, st ≤ i → i < k → fl i = true) → r ∈ rv fl c L n f k st → ∃ a b : Nat, r = ⟨c, a, b⟩ ∧ a + b ≤ n ∧ L ≤ b ∧ ∀ i, a ≤ i → i < a + b → fl i = true
  | 0, k, st, _, _, h => by cases h
  | f + 1, k, st, h1, h2, h => by
    rw [rv] at h
    split at h
    · cases h
    · split at h
      · rename_i hf
        refine rv_mem fl c L n r f (k + 1) st (by omega) (fun i a b => ?_) h
        by_cases hik : i < k
        · exact h2 i a hik
        · obtain rfl : i = k := by omega
          exact hf
      · rcases List.mem_append.1 h with h | h
        · split at h
          · rename_i hk _ hl
            obtain rfl := List.mem_singleton.1 h
            refine ⟨st, k - st, by rw [show ((k - st : Nat) : Int) = (k : Int) - st by omega], by omega, by omega, fun i a b => h2 i a (by omega)⟩
          · cases h
        · exact rv_mem fl c L n r f (k + 1) (k + 1) (by omega) (fun i a b => by omega) h
/-- What holds of every river. -/
theorem river_law (xs : List ByteArray) (L : Int) (r : DRiver) (h : r ∈ rvAll xs L) : xs.length ≤ 60 ∧ 2 ≤ L ∧ ∃ c a b : Nat, r = ⟨c, a, b⟩ ∧ c ≤ 59 ∧ a + b ≤ xs.length ∧ L ≤ b ∧ ∀ i, a ≤ i → i < a + b → flowB xs c i = true := by
  unfold rvAll at h
  split at h
  · rename_i hok
    obtain ⟨o1, o2, _⟩ := rvOk_true hok
    refine ⟨o1, o2, ?_⟩
    unfold rvTo at h
    obtain ⟨i, hi, h⟩ := List.mem_flatMap.1 h
    rw [List.mem_range] at hi
    obtain ⟨a, b, e, q1, q2, q3⟩ := rv_mem _ _ _ _ r _ 0 0 (Nat.le_refl _) (fun i a b => absurd b (Nat.not_lt_zero _)) h
    exact ⟨i + 1, a, b, e, by omega, q1, q2, q3⟩
  · cases h
theorem flow_true {xs : List ByteArray} {c k : Nat} (h : flowB xs c k = true) : ∃ h1 : k < xs.length, ∃ h2 : c + 1 < xs[k].size, (xs[k][c].toNat : Int) = 32 := by
  unfold flowB at h
  split at h
  · rename_i h1
    unfold chrB at h
    split at h
    · rename_i h2
      exact ⟨h1, h2, by simpa using h⟩
    · cases h
  · cases h
theorem fold_max : ∀ (rs : List DRiver) (m : Int), m ≤ rs.foldl (fun m r => max m r.f2) m ∧ (∀ r ∈ rs, r.f2 ≤ rs.foldl (fun m r => max m r.f2) m) ∧ (rs.foldl (fun m r => max m r.f2) m = m ∨ ∃ r ∈ rs, r.f2 = rs.foldl (fun m r => max m r.f2) m)
  | [], m => ⟨Int.le_refl _, (fun r h => by cases h), .inl rfl⟩
  | x :: t, m => by
    obtain ⟨a, b, c⟩ := fold_max t (max m x.f2)
    rw [List.foldl_cons]
    obtain ⟨M, hM⟩ : ∃ M, M = t.foldl (fun m r => max m r.f2) (max m x.f2) := ⟨_, rfl⟩
    rw [← hM] at a b c ⊢
    refine ⟨by omega, fun r hr => ?_, ?_⟩
    · rcases List.mem_cons.1 hr with rfl | hr
      · omega
      · exact b r hr
    · rcases c with c | ⟨r, hr, hc⟩
      · by_cases hx : m ≤ x.f2
        · exact .inr ⟨x, List.mem_cons_self, by omega⟩
        · exact .inl (by omega)
      · exact .inr ⟨r, List.mem_cons_of_mem _ hr, hc⟩
theorem lgst_law (xs : List ByteArray) : 0 ≤ lgst (rvAll xs 2) ∧ lgst (rvAll xs 2) ≤ 60 ∧ (lgst (rvAll xs 2) = 0 ∨ (2 ≤ lgst (rvAll xs 2) ∧ 0 < (rvAll xs (lgst (rvAll xs 2))).length)) ∧ rvAll xs (max 2 (lgst (rvAll xs 2) + 1)) = [] := by
  obtain ⟨a, b, c⟩ := fold_max (rvAll xs 2) 0
  have e : lgst (rvAll xs 2) = (rvAll xs 2).foldl (fun m r => max m r.f2) 0 := rfl
  rw [← e] at a b c
  have hb : ∀ r ∈ rvAll xs 2, 2 ≤ r.f2 ∧ r.f2 ≤ 60 := fun r hr => by
    obtain ⟨h1, _, c, a, b, rfl, _, h2, h3, _⟩ := river_law xs 2 r hr
    exact ⟨h3, by show ((b : Nat) : Int) ≤ 60; omega⟩
  refine ⟨a, ?_, ?_, ?_⟩
  · rcases c with c | ⟨r, hr, c⟩
    · omega
    · have := hb r hr; omega
  · rcases c with c | ⟨r, hr, c⟩
    · exact .inl c
    · have h2 := hb r hr
      right
      refine ⟨by omega, ?_⟩
      rw [rvAll_filter xs _ (by omega)]
      exact List.length_pos_of_mem (List.mem_filter.2 ⟨hr, decide_eq_true (by omega)⟩)
  · rw [rvAll_filter xs _ (by omega), List.filter_eq_nil_iff]
    intro r hr
    have := b r hr
    simp
    omega
end Go.Proofs.Ytaolkplecdbadaa

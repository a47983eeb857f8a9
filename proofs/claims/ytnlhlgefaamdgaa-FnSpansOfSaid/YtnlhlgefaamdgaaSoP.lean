/-
  PROVED HERE: pages as ranges, in plain Lean: sorted and made compact they are the numbers from 1 to 999 that are in the list. Conditions: each theorem's own.
-/
import Derived.Lib.SlicesCompact
set_option linter.unusedVariables false
set_option linter.unusedSimpArgs false
namespace Go.Proofs.Ytnlhlgefaamdgaa
open Go.Lib

theorem eq_of_sorted : ∀ (a b : List Int), a.Pairwise (· < ·) → b.Pairwise (· < ·) → (∀ x, x ∈ a ↔ x ∈ b) → a = b
  | [], [], _, _, _ => rfl
  | [], y :: b, _, _, h => by have := (h y).2 (by simp); cases this
  | x :: a, [], _, _, h => by have := (h x).1 (by simp); cases this
  | x :: a, y :: b, ha, hb, h => by
    rw [List.pairwise_cons] at ha hb
    have e : x = y := by
      have h1 := (h x).1 (by simp)
      have h2 := (h y).2 (by simp)
      rw [List.mem_cons] at h1 h2
      rcases h1 with h1 | h1
      · exact h1
      · rcases h2 with h2 | h2
        · exact h2.symm
        · have := hb.1 x h1; have := ha.1 y h2; omega
    subst e
    congr 1
    refine eq_of_sorted a b ha.2 hb.2 fun z => ⟨fun hz => ?_, fun hz => ?_⟩
    · have h1 := (h z).1 (List.mem_cons_of_mem _ hz)
      rw [List.mem_cons] at h1
      rcases h1 with h1 | h1
      · have := ha.1 z hz; omega
      · exact h1
    · have h1 := (h z).2 (List.mem_cons_of_mem _ hz)
      rw [List.mem_cons] at h1
      rcases h1 with h1 | h1
      · have := hb.1 z hz; omega
      · exact h1
/-- The numbers from 1 to 999 that are in the list. -/
def pgs (zs : List Int) : List Int := ((List.range 999).map fun i : Nat => (i : Int) + 1).filter fun n => zs.contains n
theorem pgs_sorted (zs : List Int) : (pgs zs).Pairwise (· < ·) := by
  unfold pgs
  refine List.Pairwise.filter _ ?_
  rw [List.pairwise_map]
  exact List.pairwise_lt_range.imp (fun h => by omega)
theorem pgs_mem (zs : List Int) (x : Int) : x ∈ pgs zs ↔ 1 ≤ x ∧ x ≤ 999 ∧ x ∈ zs := by
  unfold pgs
  simp only [List.mem_filter, List.mem_map, List.mem_range, List.contains_iff_mem]
  constructor
  · rintro ⟨⟨i, hi, rfl⟩, h⟩
    exact ⟨by omega, by omega, h⟩
  · rintro ⟨h1, h2, h⟩
    exact ⟨⟨(x - 1).toNat, by omega, by omega⟩, h⟩
theorem arr_at (l : List Int) (i : Nat) (h : i < l.length) : l.toArray[i]! = l[i] := by simp [h]
theorem compact_sorted (l : List Int) (hs : l.Pairwise (· ≤ ·)) : (compact l).Pairwise (· < ·) := by
  unfold compact compactUpTo
  rw [List.pairwise_map]
  have hr : ((List.range l.length).filter (keeps l.toArray)).Pairwise (· < ·) := List.Pairwise.filter _ List.pairwise_lt_range
  refine hr.imp_of_mem ?_
  intro i j hi hj hij
  rw [List.mem_filter, List.mem_range] at hi hj
  have hk := hj.2
  unfold keeps at hk
  have hk := of_decide_eq_true hk
  rcases hk with h0 | h0
  · omega
  · rw [arr_at _ _ hj.1, arr_at _ _ (by omega)] at h0
    rw [arr_at _ _ hi.1, arr_at _ _ hj.1]
    have hle : ∀ p q (hp : p < l.length) (hq : q < l.length), p ≤ q → l[p] ≤ l[q] := fun p q hp hq hpq => by
      rcases Nat.lt_or_eq_of_le hpq with h | h
      · exact List.pairwise_iff_getElem.1 hs p q hp hq h
      · subst h; exact Int.le_refl _
    have a := hle i (j - 1) hi.1 (by omega) (by omega)
    have b := hle (j - 1) j (by omega) hj.1 (by omega)
    omega
theorem compact_mem (l : List Int) (x : Int) : x ∈ compact l ↔ x ∈ l := by
  unfold compact compactUpTo
  simp only [List.mem_map, List.mem_filter, List.mem_range]
  constructor
  · rintro ⟨i, ⟨hi, _⟩, rfl⟩
    rw [arr_at _ _ hi]
    exact List.getElem_mem hi
  · intro hx
    obtain ⟨j, hj, e⟩ := List.getElem_of_mem hx
    have key : ∀ n j, j ≤ n → ∀ (hj : j < l.length), l[j] = x → ∃ i, (i < l.length ∧ keeps l.toArray i = true) ∧ l.toArray[i]! = x := by
      intro n
      induction n with
      | zero =>
        intro j hjn hj e
        obtain rfl : j = 0 := by omega
        exact ⟨0, ⟨hj, by simp [keeps]⟩, by rw [arr_at _ _ hj]; exact e⟩
      | succ n ih =>
        intro j hjn hj e
        by_cases hk : keeps l.toArray j = true
        · exact ⟨j, ⟨hj, hk⟩, by rw [arr_at _ _ hj]; exact e⟩
        · unfold keeps at hk
          simp only [decide_eq_true_eq, not_or] at hk
          have h2 : l.toArray[j]! = l.toArray[j - 1]! := by
            by_cases h3 : l.toArray[j]! = l.toArray[j - 1]!
            · exact h3
            · exact absurd h3 hk.2
          rw [arr_at _ _ hj, arr_at _ _ (by omega)] at h2
          exact ih (j - 1) (by omega) (by omega) (by rw [← h2]; exact e)
    exact key j j (Nat.le_refl _) hj e
/-- Sorted and made compact the pages are the numbers from 1 to 999 that are in the list. -/
theorem compact_pgs (zs : List Int) (h : ∀ z ∈ zs, 1 ≤ z ∧ z ≤ 999) : compact (zs.mergeSort fun x y => decide (x ≤ y)) = pgs zs := by
  have hs : (zs.mergeSort fun x y => decide (x ≤ y)).Pairwise (· ≤ ·) :=
    (List.pairwise_mergeSort (le := fun x y => decide (x ≤ y)) (fun a b c h1 h2 => by simp at *; omega) (fun a b => by simp; omega) zs).imp (fun h => by simpa using h)
  refine eq_of_sorted _ _ (compact_sorted _ hs) (pgs_sorted zs) fun x => ?_
  rw [compact_mem, List.mem_mergeSort, pgs_mem]
  exact ⟨fun hx => ⟨(h x hx).1, (h x hx).2, hx⟩, fun hx => hx.2.2⟩
end Go.Proofs.Ytnlhlgefaamdgaa

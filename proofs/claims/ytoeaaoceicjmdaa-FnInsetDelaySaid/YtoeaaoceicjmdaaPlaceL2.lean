/-
  PROVED HERE: one step of placing pictures, seen from its result, without any program. Conditions: each lemma's own.
-/
import Derived.Test.YtoeaaoceicjmdaaPlaceL
namespace Go.Proofs.Ytoeaaoceicjmdaa
open Go.RowKit

theorem insSkip_ge (h : Int) (L : List Int) (p : Nat) : p ≤ insSkip h L p := by
  rw [insSkip]
  split
  · have := insSkip_ge h L (p + 1)
    omega
  · exact Nat.le_refl _
termination_by L.length - p
theorem insSkip_room (h : Int) (L : List Int) (p : Nat) (hq : insSkip h L p < L.length) : h ≤ L.getD (insSkip h L p) 0 := by
  by_cases hc : p < L.length ∧ L.getD p 0 < h
  · rw [insSkip_next hc.1 hc.2] at hq ⊢
    exact insSkip_room h L (p + 1) hq
  · rw [insSkip_stop hc] at hq ⊢
    by_cases h2 : L.getD p 0 < h
    · exact absurd ⟨hq, h2⟩ hc
    · omega
termination_by L.length - p
decreasing_by omega
theorem insGo_prefix : ∀ (xs : List DInset) (p : Nat) (L O R : List Int), insGo xs p L O = some R → ∃ T, R = O ++ T
  | [], _, _, O, R, h => by rw [insGo] at h; cases h; exact ⟨[], by simp⟩
  | x :: t, p, L, O, R, h => by
    rw [insGo] at h
    split at h
    · obtain ⟨T, hT⟩ := insGo_prefix t _ _ _ _ h
      exact ⟨_, by rw [hT, List.append_assoc]⟩
    · cases h
theorem place_step {x : DInset} {t : List DInset} {p : Nat} {L O R : List Int} (h : insGo (x :: t) p L O = some R) :
    ∃ q : Nat, R.getD O.length 0 = (q : Int) ∧ q = insSkip x.f0 L (max p x.f1.toNat) ∧ p ≤ q ∧ x.f1.toNat ≤ q ∧ q < L.length ∧ x.f0 ≤ L.getD q 0 ∧ insGo t q (L.set q (L.getD q 0 - x.f0)) (O ++ [(q : Int)]) = some R := by
  rw [insGo] at h
  obtain ⟨q, hq⟩ : ∃ q, q = insSkip x.f0 L (max p x.f1.toNat) := ⟨_, rfl⟩
  have h1 := insSkip_ge x.f0 L (max p x.f1.toNat)
  have h2 := insSkip_room x.f0 L (max p x.f1.toNat)
  simp only [← hq] at h h1 h2
  split at h
  · rename_i hlt
    obtain ⟨T, hT⟩ := insGo_prefix _ _ _ _ _ h
    refine ⟨q, ?_, hq, by omega, by omega, hlt, h2 hlt, h⟩
    rw [hT]
    simp [List.getD]
  · cases h
end Go.Proofs.Ytoeaaoceicjmdaa

/-
  PROVED HERE: the pages of ranges are in a range, at most the number of pages, and ascend: the plain law. Conditions: each lemma's own.
-/
import Derived.Test.YtjkahdmmejmilaaSpanP
namespace Go.Proofs.Ytjkahdmmejmilaa
open Go.RowKit

def inR (y : Int) (x : DSpan) : Bool := decide (x.f0 ≤ y) && decide (y ≤ x.f1)
theorem iota_mem {a : Int} {n : Nat} {y : Int} (h : y ∈ iota a n) : a ≤ y ∧ y < a + n := by
  simp only [iota, List.mem_map, List.mem_range] at h
  obtain ⟨i, hi, rfl⟩ := h
  omega
theorem iota_asc (a : Int) : ∀ n : Nat, (iota a n).Pairwise (· < ·)
  | 0 => by simp [iota]
  | n + 1 => by
    rw [iota_succ, List.pairwise_append]
    refine ⟨iota_asc a n, by simp, fun x hx y hy => ?_⟩
    have := iota_mem hx
    rw [List.mem_singleton.1 hy]
    omega
theorem spP_law (many : Int) : ∀ (p : Int) (xs : List DSpan), spFrom p xs = true → (spP many xs).Pairwise (· < ·) ∧ ∀ y ∈ spP many xs, p + 2 ≤ y ∧ y ≤ many ∧ xs.any (inR y) = true
  | _, [], _ => by simp [spP]
  | p, x :: t, h => by
    rw [spFrom, Bool.and_eq_true, Bool.and_eq_true] at h
    obtain ⟨h1, h2, h3⟩ := h
    have h2 := of_decide_eq_true h2
    obtain ⟨o1, o2, o3⟩ := spOk_true h1
    obtain ⟨i1, i2⟩ := spP_law many x.f1 t h3
    have e : spP many (x :: t) = iota x.f0 (spN many x) ++ spP many t := by unfold spP; rw [List.flatMap_cons]
    have hm : ∀ y ∈ iota x.f0 (spN many x), x.f0 ≤ y ∧ y ≤ x.f1 ∧ y ≤ many := by
      intro y hy
      have := iota_mem hy
      unfold spN at this
      omega
    rw [e]
    refine ⟨List.pairwise_append.2 ⟨iota_asc _ _, i1, fun a ha b hb => ?_⟩, fun y hy => ?_⟩
    · have := hm a ha
      have := i2 b hb
      omega
    · rcases List.mem_append.1 hy with hy | hy
      · have := hm y hy
        refine ⟨by omega, this.2.2, ?_⟩
        rw [List.any_cons]
        have : inR y x = true := by unfold inR; rw [decide_eq_true this.1, decide_eq_true this.2.1]; rfl
        rw [this, Bool.true_or]
      · obtain ⟨a1, a2, a3⟩ := i2 y hy
        refine ⟨by omega, a2, ?_⟩
        rw [List.any_cons, a3, Bool.or_true]
theorem pages_law (many : Int) (xs : List DSpan) : (∀ k, k < (spPages many xs).length → (spPages many xs).getD k 0 ≤ many ∧ xs.any (inR ((spPages many xs).getD k 0)) = true) ∧ ∀ k, 0 < k → k < (spPages many xs).length → (spPages many xs).getD (k - 1) 0 < (spPages many xs).getD k 0 := by
  unfold spPages
  split
  · rename_i h
    unfold spB at h
    rw [Bool.and_eq_true] at h
    obtain ⟨a, b⟩ := spP_law many (-1) xs h.1
    refine ⟨fun k hk => ?_, fun k h0 hk => ?_⟩
    · have := b ((spP many xs).getD k 0) (by simp [List.getD, hk])
      exact this.2
    · have hk1 : k - 1 < (spP many xs).length := by omega
      have := List.pairwise_iff_getElem.1 a (k - 1) k hk1 hk (by omega)
      simpa [List.getD, hk, hk1] using this
  · exact ⟨fun k hk => by simp at hk, fun k _ hk => by simp at hk⟩
end Go.Proofs.Ytjkahdmmejmilaa

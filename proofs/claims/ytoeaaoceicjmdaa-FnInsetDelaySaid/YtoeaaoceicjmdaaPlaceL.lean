/-
  PROVED HERE: the plain law of placing pictures, without any program. Conditions: each lemma's own.
-/
import Derived.Test.YtoeaaoceicjmdaaInsetV
namespace Go.Proofs.Ytoeaaoceicjmdaa
open Go.RowKit

/-- The first page from p on that has room h, or a page behind the last. -/
def insSkip (h : Int) (L : List Int) (p : Nat) : Nat :=
  if p < L.length ∧ L.getD p 0 < h then insSkip h L (p + 1) else p
termination_by L.length - p
decreasing_by omega

def insGo : List DInset → Nat → List Int → List Int → Option (List Int)
  | [], _, _, O => some O
  | x :: t, p, L, O =>
    let q := insSkip x.f0 L (max p x.f1.toNat)
    if q < L.length then insGo t q (L.set q (L.getD q 0 - x.f0)) (O ++ [(q : Int)]) else none

def roomsB (rs : List Int) : Bool := decide (rs.length ≤ 20) && rs.all fun r => inB r 0 1000
def placeO (xs : List DInset) (rs : List Int) : Option (List Int) := if insB xs = true ∧ roomsB rs = true then insGo xs 0 rs [] else none
def placeXs (xs : List DInset) (rs : List Int) : List Int := (placeO xs rs).getD []
def placeB (xs : List DInset) (rs : List Int) : Bool := (placeO xs rs).isSome

theorem insSkip_stop {h : Int} {L : List Int} {p : Nat} (hs : ¬ (p < L.length ∧ L.getD p 0 < h)) : insSkip h L p = p := by
  rw [insSkip, if_neg hs]
theorem insSkip_next {h : Int} {L : List Int} {p : Nat} (h1 : p < L.length) (h2 : L.getD p 0 < h) : insSkip h L p = insSkip h L (p + 1) := by
  rw [insSkip, if_pos ⟨h1, h2⟩]

theorem insFrom_mem : ∀ (p : Int) (xs : List DInset), insFrom p xs = true → ∀ x ∈ xs, 1 ≤ x.f0 ∧ x.f0 ≤ 1000 ∧ 0 ≤ x.f1 ∧ x.f1 ≤ 19
  | _, [], _, x, hx => by cases hx
  | p, y :: t, h, x, hx => by
    rw [insFrom] at h
    simp only [Bool.and_eq_true] at h
    obtain ⟨h1, h2, _, h4⟩ := h
    rcases List.mem_cons.1 hx with rfl | hx
    · have a := inB_true h1
      have b := inB_true h2
      omega
    · exact insFrom_mem _ t h4 x hx
theorem insB_true {xs : List DInset} (h : insB xs = true) : xs.length ≤ 20 ∧ ∀ x ∈ xs, 1 ≤ x.f0 ∧ x.f0 ≤ 1000 ∧ 0 ≤ x.f1 ∧ x.f1 ≤ 19 := by
  unfold insB at h
  rw [Bool.and_eq_true] at h
  exact ⟨by simpa using h.2, insFrom_mem _ _ h.1⟩
theorem roomsB_true {rs : List Int} (h : roomsB rs = true) : rs.length ≤ 20 ∧ ∀ j, 0 ≤ rs.getD j 0 ∧ rs.getD j 0 ≤ 1000 := by
  unfold roomsB at h
  rw [Bool.and_eq_true] at h
  refine ⟨by simpa using h.1, fun j => ?_⟩
  have h2 := List.all_eq_true.1 h.2
  by_cases hj : j < rs.length
  · have := inB_true (h2 rs[j] (List.getElem_mem hj))
    simpa [List.getD, hj] using this
  · simp [List.getD, hj]

theorem set_bd {L : List Int} {q : Nat} {z : Int} (hL : ∀ j, 0 ≤ L.getD j 0 ∧ L.getD j 0 ≤ 1000) (h1 : 0 ≤ z) (h2 : z ≤ 1000) : ∀ j, 0 ≤ (L.set q z).getD j 0 ∧ (L.set q z).getD j 0 ≤ 1000 := by
  intro j
  have := hL j
  simp only [List.getD_eq_getElem?_getD, List.getElem?_set] at this ⊢
  by_cases hq : q = j
  · subst hq
    by_cases hj : q < L.length
    · simp [hj]; omega
    · simp [hj]
  · simpa [hq] using this

theorem insGo_len : ∀ (xs : List DInset) (p : Nat) (L O R : List Int), insGo xs p L O = some R → R.length = O.length + xs.length
  | [], _, _, O, R, h => by rw [insGo] at h; cases h; rfl
  | x :: t, p, L, O, R, h => by
    rw [insGo] at h
    split at h
    · have := insGo_len t _ _ _ _ h
      rw [List.length_append] at this
      simp only [List.length_cons, List.length_nil] at this ⊢
      omega
    · cases h
theorem placeXs_len (xs : List DInset) (rs : List Int) : (placeXs xs rs).length ≤ 20 := by
  unfold placeXs placeO
  split
  · rename_i h
    cases hR : insGo xs 0 rs [] with
    | none => simp
    | some R =>
      have := insGo_len _ _ _ _ _ hR
      have := (insB_true h.1).1
      simp only [List.length_nil, Option.getD_some] at *
      omega
  · simp
end Go.Proofs.Ytoeaaoceicjmdaa

/-
  PROVED HERE: the plain law of lonely lines, without any program. Conditions: each lemma's own.
-/
import Derived.Test.YtaolkplecdbadaaLonely2
namespace Go.Proofs.Ytaolkplecdbadaa
open Go.RowKit

theorem lonF_bd (pg : List Int) : ∀ (ts : List Int) (f : Int), 0 ≤ lonF pg f ts ∧ lonF pg f ts ≤ ts.length
  | [], f => by rw [lonF]; simp
  | t :: ts, f => by
    have := lonF_bd pg ts t
    rw [lonF_cons, List.length_cons]
    split <;> omega
theorem lonL_bd (pg : List Int) : ∀ (ts : List Int) (f : Int), 0 ≤ lonL pg f ts ∧ lonL pg f ts ≤ ts.length
  | [], f => by rw [lonL]; simp
  | t :: ts, f => by
    have := lonL_bd pg ts t
    rw [lonL_cons, List.length_cons]
    split <;> omega
theorem hasB_no {xs : List Int} {n : Int} (h : ∀ x ∈ xs, x ≠ n) : hasB xs n = false := by
  unfold hasB
  rw [List.any_eq_false]
  intro x hx
  have := h x hx
  simpa using this
theorem lon_zero : ∀ (ts : List Int) (f : Int) (pre : List Int), (∀ x ∈ pre, x ≤ f) → ascB f ts = true → lonF (pre ++ ts) f ts = 0 ∧ lonL (pre ++ ts) f ts = 0
  | [], f, pre, _, _ => by rw [lonF, lonL]; simp
  | t :: ts, f, pre, hp, ha => by
    rw [ascB, Bool.and_eq_true] at ha
    obtain ⟨h1, h2⟩ := ha
    have h1 := of_decide_eq_true h1
    have hb := (asc_bd t ts h2).2
    have ih := lon_zero ts t (pre ++ [t]) (fun x hx => by
      rcases List.mem_append.1 hx with hx | hx
      · have := hp x hx; omega
      · rw [List.mem_singleton.1 hx]; exact Int.le_refl _) h2
    rw [List.append_assoc, List.singleton_append] at ih
    rw [lonF_cons, lonL_cons, ih.1, ih.2]
    have e : ∀ n : Int, 1 < t - f → f < n → n < t → hasB (pre ++ t :: ts) n = false := fun n _ h3 h4 => hasB_no fun x hx => by
      rcases List.mem_append.1 hx with hx | hx
      · have := hp x hx; omega
      · rcases List.mem_cons.1 hx with rfl | hx
        · omega
        · have := hb x hx; omega
    by_cases hc : 1 < t - f
    · rw [e (f + 1) hc (by omega) (by omega), e (t - 1) hc (by omega) (by omega)]
      simp
    · rw [decide_eq_false hc]
      simp
theorem lon_cases (m : Int) (ps pg : List Int) : (lonA m ps pg = -1 ∧ lonB m ps pg = -1) ∨ (0 ≤ lonA m ps pg ∧ lonA m ps pg ≤ ps.length ∧ 0 ≤ lonB m ps pg ∧ lonB m ps pg ≤ ps.length ∧ lonA m ps ps = 0 ∧ lonB m ps ps = 0) := by
  cases h : lonOk m ps pg with
  | false => exact .inl (lon_no h)
  | true =>
    right
    have h2 := h
    unfold lonOk at h2
    rw [Bool.and_eq_true, Bool.and_eq_true] at h2
    have h3 : lonOk m ps ps = true := by unfold lonOk; rw [h2.1, h2.2.1]; rfl
    have a := lonF_bd pg ps 0
    have b := lonL_bd pg ps 0
    have z := lon_zero ps 0 [] (fun x hx => by cases hx) (endsB_true h2.2.1).1
    rw [List.nil_append] at z
    unfold lonA lonB
    rw [h, h3]
    simp only [if_true]
    exact ⟨a.1, a.2, b.1, b.2, z.1, z.2⟩
end Go.Proofs.Ytaolkplecdbadaa

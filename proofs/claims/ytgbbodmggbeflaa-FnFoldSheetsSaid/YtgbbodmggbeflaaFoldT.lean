/-
  PROVED HERE: folded sheets in plain Lean: the first sheet is outermost; the rows behind the first, in memory. Conditions: each theorem's own.
-/
import Derived.Test.YtgbbodmggbeflaaDrawFold
import Derived.Test.YtgbbodmggbeflaaFold
set_option linter.unusedVariables false
set_option linter.unusedSimpArgs false
namespace Go.Proofs.Ytgbbodmggbeflaa
open Go.RowKit

theorem foldF_cons (x : List Int) (t : List (List Int)) (k : Nat) : foldF (x :: t) (k + 1) = fA x ++ foldF t k := by
  unfold foldF
  rw [List.take_succ_cons, List.flatMap_cons]
theorem foldB_cons (x : List Int) (t : List (List Int)) : foldB (x :: t) 0 = foldB t 0 ++ fB x := by
  unfold foldB
  rw [List.drop_zero, List.drop_zero, List.reverse_cons, List.flatMap_append]
  simp
theorem foldOk_cons {x : List Int} {t : List (List Int)} (h : foldOk (x :: t) = true) : foldOk t = true ∧ x.length = 4 := by
  obtain ⟨h1, h2⟩ := foldOk_inv h
  refine ⟨foldOk_true (by simp at h1; omega) fun j hj => ?_, h2 0 (by simp)⟩
  have := h2 (j + 1) (by simp; omega)
  simpa using this
theorem foldR_cons {x : List Int} {t : List (List Int)} (h : foldOk (x :: t) = true) : foldR (x :: t) = x.getD 1 0 :: x.getD 2 0 :: (foldR t ++ [x.getD 3 0, x.getD 0 0]) := by
  obtain ⟨h1, _⟩ := foldOk_cons h
  unfold foldR
  rw [if_pos h, if_pos h1, List.length_cons, foldF_cons, foldB_cons]
  simp [fA, fB]
theorem foldR_length {t : List (List Int)} (h : foldOk t = true) : (foldR t).length = 4 * t.length := by
  unfold foldR
  rw [if_pos h, List.length_append, foldF_len _ _ (Nat.le_refl _), foldB_len]
  omega
theorem SheetR.tail {w : World} {g n cap : Nat} {x : List Int} {t : List (List Int)} (h : SheetR w (.slice (some ⟨g, 0, none⟩) n cap) (x :: t)) (m cap' : Nat) (hm : t.length = m) : SheetR w (.slice (some ⟨g, 1, none⟩) m cap') t := by
  obtain ⟨us, h1, ⟨a, c, e, hl, hc⟩, h3⟩ := h
  subst hm
  cases us with
  | nil => simp at h1
  | cons u ut =>
    have h1' : ut.length = t.length := by simpa using h1
    have ea : a = some ⟨g, 0, none⟩ := by cases e; rfl
    subst ea
    refine ⟨ut, h1', ⟨some ⟨g, 1, none⟩, cap', by rw [h1'], by simp at hl; omega, fun j hj => ?_⟩, fun j hj => ?_⟩
    · obtain ⟨b, off, e2, h'⟩ := hc (j + 1) (by simpa using hj)
      cases e2
      refine ⟨g, 1, rfl, fun i u' hu => ?_⟩
      have := h' i u' (by simpa using hu)
      rw [show 1 + j * 1 + i = 0 + (j + 1) * 1 + i by omega]
      exact this
    · obtain ⟨u', e1, e2⟩ := h3 (j + 1) (by simpa using hj)
      exact ⟨u', by simpa using e1, by simpa using e2⟩
theorem SheetR.empty (w : World) (a : Option Addr) (cap : Nat) : SheetR w (.slice a 0 cap) [] :=
  ⟨[], rfl, ⟨a, cap, rfl, by simp, fun j hj => absurd hj (Nat.not_lt_zero _)⟩, fun j hj => absurd hj (Nat.not_lt_zero _)⟩
theorem IRow.mid {w : World} {g n cap : Nat} {p q r s : Int} {l : List Int} (h : IRow w (.slice (some ⟨g, 0, none⟩) n cap) (p :: q :: (l ++ [r, s]))) (K c' : Nat) (hK : l.length = K) : IRow w (.slice (some ⟨g, 2, none⟩) K c') l := by
  obtain ⟨a, c, e, hl, hc⟩ := h
  subst hK
  have ea : a = some ⟨g, 0, none⟩ := by cases e; rfl
  subst ea
  refine ⟨some ⟨g, 2, none⟩, c', rfl, by simp at hl; omega, fun j hj => ⟨g, 2, rfl, ?_⟩⟩
  obtain ⟨b, off, e2, h'⟩ := hc (j + 2) (by simp; omega)
  cases e2
  have e3 : (p :: q :: (l ++ [r, s])).getD (j + 2) 0 = l.getD j 0 := by
    simp only [List.getD_eq_getElem?_getD, List.getElem?_cons_succ]
    rw [List.getElem?_append_left hj]
  rw [e3] at h'
  rw [show 2 + j = 0 + (j + 2) by omega]
  exact h'
/-- The first and the last number of a folded row. -/
theorem fold_ends {w : World} {base g K cap : Nat} {p q r s : Int} {l : List Int} (h : w.ownsRow base 3 1 (.slice (some ⟨g, 0, none⟩) (K + 4) cap) (K + 4) ((p :: q :: (l ++ [r, s])).map (Value.int .i64))) (hK : l.length = K) :
    w.cell? ⟨g, 0, none⟩ = some (.int .i64 p) ∧ w.cell? ⟨g, K + 3, none⟩ = some (.int .i64 s) := by
  constructor
  · rw [h.cellAt 0 (by omega)]; rfl
  · rw [h.cellAt (K + 3) (by omega), List.getElem?_map]
    subst hK
    simp only [List.getElem?_cons_succ]
    rw [List.getElem?_append_right (by omega), show l.length + 1 - l.length = 1 by omega]
    rfl
/-- The first sheet, read. -/
theorem sheet_first {w : World} {base hi g n cap : Nat} {x : List Int} {t : List (List Int)} {us : List Value} (h : OwnShU w base hi (.slice (some ⟨g, 0, none⟩) n cap) (x :: t) us) (hn : (x :: t).length = n) (h4 : x.length = 4) :
    ∃ b off cap', w.cell? ⟨g, 0, none⟩ = some (.slice (some ⟨b, off, none⟩) 4 cap') ∧ w.cell? ⟨b, off, none⟩ = some (.int .i64 (x.getD 0 0)) ∧ w.cell? ⟨b, off + 1, none⟩ = some (.int .i64 (x.getD 1 0)) := by
  obtain ⟨u, e, hu, _, _⟩ := h.2.2.2.1 0 (by simp)
  have i : IRow w u x := IRow.of_owns hu
  obtain ⟨b, off, cap', rfl, _, c0, c1, _, _⟩ := i.at4 h4
  refine ⟨b, off, cap', ?_, c0, c1⟩
  have hr := h.2.1
  rw [hn] at hr
  rw [hr.cellAt 0 (by rw [← hn]; simp)]
  exact e
end Go.Proofs.Ytgbbodmggbeflaa

/-
  PROVED HERE: rows of structs in memory. Conditions: each lemma's own.
-/
import Derived.Test.YtgbbodmggbeflaaBase
set_option linter.unusedVariables false
set_option linter.unusedSimpArgs false
namespace Go.Proofs.Ytgbbodmggbeflaa
open Go.RowKit

/-- The value reads as the row xs; an element takes sz cells, which enc lists. -/
def SRow {α : Type} (sz : Nat) (enc : α → List Value) (w : World) (v : Value) (xs : List α) : Prop :=
  ∃ a cap, v = .slice a xs.length cap ∧ xs.length ≤ 9223372036854775807 ∧ ∀ j (hj : j < xs.length), ∃ b off, a = some ⟨b, off, none⟩ ∧ ∀ i u, (enc xs[j])[i]? = some u → w.cell? ⟨b, off + j * sz + i, none⟩ = some u

section
variable {α : Type} {sz : Nat} {enc : α → List Value} {w w' : World} {v : Value} {xs : List α}

theorem SRow.empty (h : SRow sz enc w v []) : ∃ a cap, v = .slice a 0 cap := by
  obtain ⟨a, cap, hv, _⟩ := h
  exact ⟨a, cap, hv⟩
theorem SRow.len (h : SRow sz enc w v xs) : xs.length ≤ 9223372036854775807 := by
  obtain ⟨_, _, _, hl, _⟩ := h
  exact hl
theorem SRow.pos (h : SRow sz enc w v xs) (he : ∀ x, 0 < (enc x).length) (hp : 0 < xs.length) :
    ∃ b off cap, v = .slice (Option.some ⟨b, off, none⟩) xs.length cap ∧ b < w.heap.size ∧ ∀ j (hj : j < xs.length) i u, (enc xs[j])[i]? = some u → w.cell? ⟨b, off + j * sz + i, none⟩ = some u := by
  obtain ⟨a, cap, hv, _, hc⟩ := h
  obtain ⟨b, off, rfl, h0⟩ := hc 0 hp
  refine ⟨b, off, cap, hv, ?_, fun j hj => ?_⟩
  · have h1 := h0 0 _ (List.getElem?_eq_getElem (he xs[0]))
    exact World.block_lt_of_cell? w _ h1
  · obtain ⟨b', off', e, h'⟩ := hc j hj
    obtain ⟨rfl, rfl⟩ : b = b' ∧ off = off' := by simpa using e
    exact h'
theorem SRow.kept (h : SRow sz enc w v xs) (hk : ∀ b o u, v.ownBlock = some b → w.cell? ⟨b, o, none⟩ = some u → w'.cell? ⟨b, o, none⟩ = some u) : SRow sz enc w' v xs := by
  obtain ⟨a, cap, rfl, hl, hc⟩ := h
  refine ⟨a, cap, rfl, hl, fun j hj => ?_⟩
  obtain ⟨b, off, rfl, h'⟩ := hc j hj
  exact ⟨b, off, rfl, fun i u hu => hk b _ u rfl (h' i u hu)⟩
theorem SRow.below (h : SRow sz enc w v xs) (hb : Below w.heap.size w w') : SRow sz enc w' v xs :=
  h.kept fun b o _ _ hc => (hb.cell (p := ⟨b, o, none⟩) (World.block_lt_of_cell? w ⟨b, o, none⟩ hc)).trans hc
theorem SRow.grown {row : Option Nat} (h : SRow sz enc w v xs) (hg : w.grownBy w' row) (hne : ∀ b, v.ownBlock = some b → some b ≠ row) : SRow sz enc w' v xs :=
  h.kept fun b o _ hb hc => hg.cell (a := ⟨b, o, none⟩) hc (hne b hb)

theorem flatMap_get (enc : α → List Value) (sz : Nat) : ∀ (xs : List α) (j i : Nat) (hj : j < xs.length), (∀ x ∈ xs, (enc x).length = sz) → i < sz → (xs.flatMap enc)[j * sz + i]? = (enc xs[j])[i]?
  | [], j, i, hj, _, _ => by simp at hj
  | x :: xs, 0, i, hj, he, hi => by
    rw [List.flatMap_cons, Nat.zero_mul, Nat.zero_add, List.getElem?_append_left (by rw [he x List.mem_cons_self]; exact hi)]
    rfl
  | x :: xs, j + 1, i, hj, he, hi => by
    have hx := he x List.mem_cons_self
    rw [List.flatMap_cons, Nat.add_mul, Nat.one_mul, List.getElem?_append_right (by omega)]
    have e : j * sz + sz + i - (enc x).length = j * sz + i := by omega
    rw [e, flatMap_get enc sz xs j i (by simpa using hj) (fun y hy => he y (List.mem_cons_of_mem _ hy)) hi]
    rfl

theorem flatMap_len (enc : α → List Value) (sz : Nat) : ∀ (xs : List α), (∀ x ∈ xs, (enc x).length = sz) → (xs.flatMap enc).length = xs.length * sz
  | [], _ => by simp
  | x :: xs, he => by
    rw [List.flatMap_cons, List.length_append, he x List.mem_cons_self, flatMap_len enc sz xs (fun y hy => he y (List.mem_cons_of_mem _ hy)), List.length_cons, Nat.add_mul]
    omega

/-- What a call owns reads so. -/
theorem SRow.of_owns {base : Nat} {e : TypeId} {n : Nat} (he : ∀ x, (enc x).length = sz) (hn : xs.length = n) (h : w.ownsRow base e sz v n (xs.flatMap enc)) : SRow sz enc w v xs := by
  subst hn
  obtain ⟨h1, h2⟩ := h
  rcases h2 with ⟨rfl, h0⟩ | ⟨g, cap, cur, rfl, _, hg, hnc, hcm, hcs, ht⟩
  · have : xs = [] := List.eq_nil_of_length_eq_zero h0
    subst this
    exact ⟨none, 0, rfl, by simp, fun j hj => by simp at hj⟩
  · refine ⟨some ⟨g, 0, none⟩, cap, rfl, by unfold maxLen at hcm; omega, fun j hj => ⟨g, 0, rfl, fun i u hu => ?_⟩⟩
    have hi : i < sz := by
      have := (List.getElem?_eq_some_iff.1 hu).1
      rw [he] at this
      exact this
    rw [cell_of_row w g _ cur e (0, 0) hg]
    have h3 : (cur.toList.take (xs.length * sz))[j * sz + i]? = some u := by rw [ht, flatMap_get enc sz xs j i hj (fun x _ => he x) hi]; exact hu
    rw [List.getElem?_take] at h3
    split at h3
    · simpa using h3
    · cases h3
end
end Go.Proofs.Ytgbbodmggbeflaa

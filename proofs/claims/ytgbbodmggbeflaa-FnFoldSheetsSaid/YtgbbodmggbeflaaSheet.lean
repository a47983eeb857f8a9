/-
  PROVED HERE: rows of sheets in memory: each sheet a row of numbers of its own. Conditions: each lemma's own.
-/
import Derived.Test.YtgbbodmggbeflaaCore
import Derived.Test.YtgbbodmggbeflaaSRow
import Derived.Test.YtgbbodmggbeflaaRows2
import Derived.Deep.Onto
import Derived.Test.YtgbbodmggbeflaaMine
set_option linter.unusedVariables false
set_option linter.unusedSimpArgs false
namespace Go.Proofs.Ytgbbodmggbeflaa
open Go.RowKit

/-- A sheet's only cell. -/
def encV (u : Value) : List Value := [u]
theorem encV_len (u : Value) : (encV u).length = 1 := rfl
theorem encV_pos (u : Value) : 0 < (encV u).length := by rw [encV_len]; decide
theorem encV_map (us : List Value) : us.flatMap encV = us := by
  induction us with
  | nil => rfl
  | cons x t ih => rw [List.flatMap_cons, ih]; rfl

/-- The value reads as these rows of numbers. -/
def SheetR (w : World) (v : Value) (xs : List (List Int)) : Prop :=
  ∃ us : List Value, us.length = xs.length ∧ SRow 1 encV w v us ∧ ∀ j (h : j < xs.length), ∃ u, us[j]? = some u ∧ IRow w u xs[j]
theorem SheetR.below {w w' : World} {v : Value} {xs : List (List Int)} (h : SheetR w v xs) (hb : Below w.heap.size w w') : SheetR w' v xs := by
  obtain ⟨us, h1, h2, h3⟩ := h
  refine ⟨us, h1, h2.below hb, fun j hj => ?_⟩
  obtain ⟨u, e, hu⟩ := h3 j hj
  exact ⟨u, e, hu.below hb⟩
/-- Only blocks from lo on, and below hi, have turned. -/
structure Only (lo hi : Nat) (w w' : World) : Prop where
  os : w'.os = w.os
  tape : w'.tape = w.tape
  output : w'.output = w.output
  size : w.heap.size ≤ w'.heap.size
  block : ∀ k, k < w.heap.size → (k < lo ∨ hi ≤ k) → w'.heap[k]? = w.heap[k]?
theorem Only.refl (lo hi : Nat) (w : World) : Only lo hi w w := ⟨rfl, rfl, rfl, Nat.le_refl _, fun _ _ _ => rfl⟩
theorem Only.trans {lo hi : Nat} {a b c : World} (h : Only lo hi a b) (k : Only lo hi b c) : Only lo hi a c :=
  ⟨k.os.trans h.os, k.tape.trans h.tape, k.output.trans h.output, Nat.le_trans h.size k.size, fun i hi' ho => (k.block i (Nat.lt_of_lt_of_le hi' h.size) ho).trans (h.block i hi' ho)⟩
theorem Only.of_grown {lo hi : Nat} {a b : World} {row : Option Nat} (h : a.grownBy b row) (hr : ∀ k, row = some k → lo ≤ k ∧ k < hi) : Only lo hi a b :=
  ⟨h.os, h.tape, h.output, h.size, fun k hk ho => h.block k hk fun e => by have := hr k e.symm; omega⟩
theorem Only.below {lo hi : Nat} {a b : World} (h : Only lo hi a b) (hl : lo ≤ a.heap.size) : Below lo a b :=
  ⟨h.os, h.tape, h.output, h.size, fun k hk => h.block k (by omega) (.inl hk)⟩

/-- The call owns a row of sheets, whose cells hold us, and every sheet's row of numbers: in blocks from base on and below hi, each its own. -/
def OwnShU (w : World) (base hi : Nat) (v : Value) (xs : List (List Int)) (us : List Value) : Prop :=
  us.length = xs.length ∧ w.ownsRow base 59 1 v xs.length us ∧ (∀ k, v.ownBlock = some k → k < hi) ∧
    (∀ j (h : j < xs.length), ∃ u, us[j]? = some u ∧ w.ownsRow base 3 1 u xs[j].length (xs[j].map (Value.int .i64)) ∧ (∀ k, u.ownBlock = some k → k < hi) ∧ (u.ownBlock = none ∨ u.ownBlock ≠ v.ownBlock)) ∧
    (∀ (i j : Nat) (u u' : Value), us[i]? = some u → us[j]? = some u' → i ≠ j → u.ownBlock = none ∨ u.ownBlock ≠ u'.ownBlock)
def OwnSheets (w : World) (base hi : Nat) (v : Value) (xs : List (List Int)) : Prop := ∃ us : List Value, OwnShU w base hi v xs us
theorem OwnSheets.read {w : World} {base hi : Nat} {v : Value} {xs : List (List Int)} (h : OwnSheets w base hi v xs) : SheetR w v xs := by
  obtain ⟨us, h1, h2, _, h3, _⟩ := h
  refine ⟨us, h1, SRow.of_owns encV_len h1 (by rw [encV_map]; exact h2), fun j hj => ?_⟩
  obtain ⟨u, e, hu, _⟩ := h3 j hj
  exact ⟨u, e, IRow.of_owns hu⟩
theorem OwnShU.kept {w w' : World} {base hi : Nat} {v : Value} {xs : List (List Int)} {us : List Value} (h : OwnShU w base hi v xs us) (hb : ∀ k, base ≤ k → k < hi → k < w.heap.size → w'.heap[k]? = w.heap[k]?) : OwnShU w' base hi v xs us := by
  obtain ⟨h1, h2, h2', h3, h4⟩ := h
  have key : ∀ {E : TypeId} {sz n : Nat} {u : Value} {zs : List Value}, w.ownsRow base E sz u n zs → (∀ k, u.ownBlock = some k → k < hi) → w'.ownsRow base E sz u n zs := fun ho hu => by
    refine ⟨ho.1, ho.2.imp id fun ⟨g, cap, cur, e, hb', hc, r⟩ => ?_⟩
    subst e
    have hg : g < hi := hu g rfl
    have hgl : g < w.heap.size := by
      have := World.ownsRow.lt ho g rfl
      exact this.2
    exact ⟨g, cap, cur, rfl, hb', (hb g hb' hg hgl).trans hc, r⟩
  refine ⟨h1, key h2 h2', h2', fun j hj => ?_, h4⟩
  obtain ⟨u, e, hu, hk, ha⟩ := h3 j hj
  exact ⟨u, e, key hu hk, hk, ha⟩
theorem OwnShU.wider {w : World} {base hi hi' : Nat} {v : Value} {xs : List (List Int)} {us : List Value} (h : OwnShU w base hi v xs us) (hh : hi ≤ hi') : OwnShU w base hi' v xs us := by
  obtain ⟨h1, h2, h2', h3, h4⟩ := h
  refine ⟨h1, h2, fun k hk => Nat.lt_of_lt_of_le (h2' k hk) hh, fun j hj => ?_, h4⟩
  obtain ⟨u, e, hu, hk, ha⟩ := h3 j hj
  exact ⟨u, e, hu, fun k h => Nat.lt_of_lt_of_le (hk k h) hh, ha⟩
/-- One more sheet, whose row of numbers lies past the others. -/
theorem OwnShU.snoc {w w' : World} {base hi g cap : Nat} {v v' : Value} {xs : List (List Int)} {us : List Value} {x : List Int} (h : OwnShU w base hi v xs us) (hg : hi ≤ g) (hgl : g < w.heap.size)
    (hx : w.ownsRow base 3 1 (.slice (some ⟨g, 0, none⟩) x.length cap) x.length (x.map (Value.int .i64))) (hgr : w.grownBy w' v.ownBlock) (hmv : Moved w v v')
    (ho : w'.ownsRow base 59 1 v' (xs.length + 1) (us ++ [.slice (some ⟨g, 0, none⟩) x.length cap])) :
    OwnShU w' base w'.heap.size v' (xs ++ [x]) (us ++ [.slice (some ⟨g, 0, none⟩) x.length cap]) := by
  obtain ⟨h1, h2, h2', h3, h4⟩ := h
  have hs := hgr.size
  have hgv : some g ≠ v.ownBlock := fun e => by have := h2' g e.symm; omega
  refine ⟨by simp [h1], by simpa using ho, fun k hk => (ho.lt k hk).2, fun j hj => ?_, fun i j u u' hu hu' hij => ?_⟩
  · by_cases hjx : j < xs.length
    · obtain ⟨u, e, hu, hk, ha⟩ := h3 j hjx
      refine ⟨u, by rw [List.getElem?_append_left (by omega)]; exact e, ?_, fun k h => by have := hk k h; omega, ?_⟩
      · rw [List.getElem_append_left hjx]
        exact hu.kept hgr ha
      · cases hb : u.ownBlock with
        | none => exact .inl rfl
        | some k =>
          right
          refine hmv.apart ?_ (by have := hk k hb; omega)
          rcases ha with ha | ha
          · rw [hb] at ha; cases ha
          · rw [← hb]; exact ha
    · obtain rfl : j = xs.length := by simp at hj; omega
      have hgw : ∀ k, (Value.slice (some ⟨g, 0, none⟩) x.length cap).ownBlock = some k → k < w'.heap.size := fun k h => by
        have : g = k := by simpa [Value.ownBlock] using h
        omega
      refine ⟨.slice (some ⟨g, 0, none⟩) x.length cap, by rw [← h1]; simp, ?_, hgw, .inr (hmv.apart hgv hgl)⟩
      rw [List.getElem_append_right (Nat.le_refl _)]
      simpa using hx.kept hgr (.inr hgv)
  · have old : ∀ (i : Nat) (u : Value), us[i]? = some u → ∀ k, u.ownBlock = some k → k < hi := fun i u e => by
      have hi' : i < xs.length := by rw [← h1]; exact (List.getElem?_eq_some_iff.1 e).1
      obtain ⟨u2, e2, _, hk, _⟩ := h3 i hi'
      rw [e] at e2
      cases e2
      exact hk
    rw [List.getElem?_append] at hu hu'
    split at hu
    · split at hu'
      · exact h4 i j u u' hu hu' hij
      · obtain rfl : .slice (some ⟨g, 0, none⟩) x.length cap = u' := (List.mem_singleton.1 (List.mem_of_getElem? hu')).symm
        cases hb : u.ownBlock with
        | none => exact .inl rfl
        | some k =>
          right
          have := old i u hu k hb
          simp [Value.ownBlock]
          omega
    · split at hu'
      · obtain rfl : .slice (some ⟨g, 0, none⟩) x.length cap = u := (List.mem_singleton.1 (List.mem_of_getElem? hu)).symm
        cases hb : u'.ownBlock with
        | none => exact .inr (by simp [Value.ownBlock])
        | some k =>
          right
          have := old j u' hu' k hb
          simp [Value.ownBlock]
          omega
      · exfalso
        have a := (List.getElem?_eq_some_iff.1 hu).1
        have b := (List.getElem?_eq_some_iff.1 hu').1
        simp at a b
        omega
end Go.Proofs.Ytgbbodmggbeflaa

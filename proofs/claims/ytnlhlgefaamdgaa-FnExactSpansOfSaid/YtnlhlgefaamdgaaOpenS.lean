/-
  PROVED HERE: a slice that came in, of elements of whatever plain type, opened into the row that it reads as. Conditions: each theorem's own.
-/
import Derived.Test.YtnlhlgefaamdgaaSRow
import Derived.Deep.Slices
import Derived.ChangeSame
set_option linter.unusedVariables false
set_option linter.unusedSimpArgs false
namespace Go.Proofs.Ytnlhlgefaamdgaa
open Go.RowKit Go.ChangeShapes Go.WideShapes Go.Deep

theorem list_choose {α : Type} {G : α → Prop} {n : Nat} {p : Nat → α → Prop} (h : ∀ i, i < n → ∃ x, p i x ∧ G x) : ∃ xs : List α, xs.length = n ∧ (∀ x ∈ xs, G x) ∧ ∀ i (hi : i < xs.length), p i xs[i] := by
  induction n with
  | zero => exact ⟨[], rfl, fun x hx => (by cases hx), fun i hi => (by simp at hi)⟩
  | succ n ih =>
    obtain ⟨xs, hl, hG, hp⟩ := ih (fun i hi => h i (by omega))
    obtain ⟨x, hx, hg⟩ := h n (by omega)
    refine ⟨xs ++ [x], by simp [hl], ?_, ?_⟩
    · intro y hy
      rcases List.mem_append.1 hy with hy | hy
      · exact hG y hy
      · rw [List.mem_singleton.1 hy]; exact hg
    · intro i hi
      by_cases hin : i < xs.length
      · rw [List.getElem_append_left hin]
        exact hp i hin
      · have hi' : i = xs.length := by simp at hi; omega
        subst hi'
        rw [List.getElem_append_right (Nat.le_refl _)]
        simpa [hl] using hx

section
variable {H : Type} {en : TypeId × Value → H} {P : Program} {w : World} {base : Nat} {spare : Nat → Bool} {held : Bool} {α : Type}

theorem open_rows {t e : TypeId} {fuel k : Nat} {a0 : Option Addr} {len0 cap0 : Nat} {x : DataW H × List MemPlace} (enc : α → List Value) (G : α → Prop) (hk : 0 < k) (ht : P.underlying t = some (.slice e)) (hC : P.cellsOf e = k)
    (hone : ∀ (cs : List Value) (y : DataW H × List MemPlace) (n : Nat), DataW.trod en P w base spare held n e cs = some y → ∃ z, cs = enc z ∧ G z)
    (h : DataW.trod en P w base spare held fuel t (Value.cells (.slice a0 len0 cap0)).toList = some x) :
    ∃ xs : List α, xs.length = len0 ∧ len0 ≤ cap0 ∧ (∀ z ∈ xs, G z) ∧ SRow k enc w (.slice a0 len0 cap0) xs := by
  have hcs : (Value.cells (.slice a0 len0 cap0)).toList = [.slice a0 len0 cap0] := by simp [Value.cells]
  rw [hcs] at h
  rcases open_slice ht h with ⟨h0, _⟩ | ⟨a, len, cap, m, n, D, Pl, h1, hb, hl, hm, hmm, hx, hi⟩
  · simp only [List.cons.injEq, Value.slice.injEq, and_true] at h0
    obtain ⟨rfl, rfl, rfl⟩ := h0
    exact ⟨[], rfl, Nat.le_refl _, fun z hz => (by cases hz), none, 0, rfl, by simp, fun j hj => (by simp at hj)⟩
  · simp only [List.cons.injEq, Value.slice.injEq, and_true] at h1
    obtain ⟨rfl, rfl, rfl⟩ := h1
    have hlm : len0 ≤ m := by rw [hmm]; split <;> omega
    rw [hC] at hi
    obtain ⟨xs, hxl, hG, hp⟩ := list_choose (α := α) (G := G) (n := len0) (p := fun i z => ∀ o u, (enc z)[o]? = some u → w.cell? (a.add (i * k + o)) = some u ∧ o < k) (fun i hil => by
      obtain ⟨cs, h2, h3⟩ := hi i (by omega)
      obtain ⟨z, rfl, hz⟩ := hone cs _ n h3
      obtain ⟨_, hlen, hcell⟩ := World.cells?_some h2
      refine ⟨z, fun o u hu => ?_, hz⟩
      have ho : o < k := by rw [← hlen]; exact (List.getElem?_eq_some_iff.1 hu).1
      have := hcell o ho
      rw [add_add] at this
      exact ⟨this.trans hu, ho⟩)
    refine ⟨xs, hxl, hl, hG, some a, cap0, by rw [hxl], by rw [hxl]; unfold maxLen at hm; omega, fun j hj => ?_⟩
    have hsp : a.spot = none := by
      obtain ⟨cs, h2, h3⟩ := hi j (by omega)
      obtain ⟨_, hlen, hcell⟩ := World.cells?_some h2
      have h4 := hcell 0 hk
      rw [add_add] at h4
      obtain ⟨cs0, h20, h30⟩ := hi 0 (by omega)
      obtain ⟨_, hlen0, hcell0⟩ := World.cells?_some h20
      have h5 := hcell0 0 hk
      rw [add_add, List.getElem?_eq_getElem (by omega)] at h5
      have h6 := World.cell?_spot h5
      simpa [Addr.add] using h6
    obtain ⟨b, off, sp⟩ := a
    simp only at hsp
    subst hsp
    refine ⟨b, off, rfl, fun i u hu => ?_⟩
    have := (hp j hj i u hu).1
    have e : ((⟨b, off, none⟩ : Addr).add (j * k + i)) = ⟨b, off + j * k + i, none⟩ := by
      unfold Addr.add
      split
      · rename_i hz
        congr 1
        omega
      · simp [Nat.add_assoc]
    rw [e] at this
    exact this

/-- the same, off a reading of an argument -/
theorem open_rows' {t e : TypeId} {k : Nat} {a0 : Option Addr} {len0 cap0 : Nat} {d : DataW H} {p : List MemPlace} (enc : α → List Value) (G : α → Prop) (hk : 0 < k) (ht : P.underlying t = some (.slice e)) (hC : P.cellsOf e = k)
    (hone : ∀ (cs : List Value) (y : DataW H × List MemPlace) (n : Nat), DataW.trod en P w base spare held n e cs = some y → ∃ z, cs = enc z ∧ G z)
    (h : DataW.Trod en P w base spare held t (.slice a0 len0 cap0) d p) :
    ∃ xs : List α, xs.length = len0 ∧ len0 ≤ cap0 ∧ (∀ z ∈ xs, G z) ∧ SRow k enc w (.slice a0 len0 cap0) xs := by
  obtain ⟨fuel, hf⟩ := h
  exact open_rows enc G hk ht hC hone hf
end
end Go.Proofs.Ytnlhlgefaamdgaa

/-
  PROVED HERE: pages as ranges, in plain Lean: the ranges that pages make one behind the other are valid but for their number. Conditions: each theorem's own.
-/
import Derived.Test.YtnlhlgefaamdgaaSoP
import Derived.Test.YtnlhlgefaamdgaaSpanV
set_option linter.unusedVariables false
set_option linter.unusedSimpArgs false
namespace Go.Proofs.Ytnlhlgefaamdgaa

/-- One more page: it lengthens the last range, or begins one. -/
def spAdd (xs : List DSpan) (n : Int) : List DSpan :=
  match xs.getLast? with
  | some x => if x.f1 = n - 1 then xs.dropLast ++ [⟨x.f0, n⟩] else xs ++ [⟨n, n⟩]
  | none => [⟨n, n⟩]
def spFold (l : List Int) : List DSpan := l.foldl spAdd []
def endOf : Int → List DSpan → Int
  | p, [] => p
  | _, x :: t => endOf x.f1 t
theorem endOf_snoc (x : DSpan) : ∀ (p : Int) (ys : List DSpan), endOf p (ys ++ [x]) = x.f1
  | _, [] => rfl
  | _, y :: t => endOf_snoc x y.f1 t
theorem spFrom_snoc (x : DSpan) : ∀ (p : Int) (ys : List DSpan), spFrom p (ys ++ [x]) = (spFrom p ys && (spOk x && decide (endOf p ys + 2 ≤ x.f0)))
  | p, [] => by
    show (spOk x && (decide (p + 2 ≤ x.f0) && true)) = (true && (spOk x && decide (p + 2 ≤ x.f0)))
    rw [Bool.and_true, Bool.true_and]
  | p, y :: t => by
    rw [List.cons_append, spFrom, spFrom_snoc x y.f1 t, spFrom, endOf]
    cases spOk y <;> cases decide (p + 2 ≤ y.f0) <;> simp
theorem spAdd_nil (n : Int) : spAdd [] n = [⟨n, n⟩] := rfl
theorem spAdd_snoc (ys : List DSpan) (x : DSpan) (n : Int) : spAdd (ys ++ [x]) n = if x.f1 = n - 1 then ys ++ [⟨x.f0, n⟩] else (ys ++ [x]) ++ [⟨n, n⟩] := by
  unfold spAdd
  rw [List.getLast?_concat, List.dropLast_concat]
theorem snoc_or {α : Type} (xs : List α) : xs = [] ∨ ∃ ys x, xs = ys ++ [x] := by
  rcases List.eq_nil_or_concat xs with h | ⟨ys, x, h⟩
  · exact .inl h
  · exact .inr ⟨ys, x, by rw [h, List.concat_eq_append]⟩
theorem spAdd_good (xs : List DSpan) (n : Int) (h : spFrom (-1) xs = true) (he : endOf (-1) xs < n) (h1 : 1 ≤ n) (h2 : n ≤ 999) : spFrom (-1) (spAdd xs n) = true ∧ endOf (-1) (spAdd xs n) = n := by
  rcases snoc_or xs with rfl | ⟨ys, x, rfl⟩
  · rw [spAdd_nil]
    refine ⟨?_, rfl⟩
    have := spOk_yes (x := ⟨n, n⟩) h1 (Int.le_refl _) h2
    simp [spFrom, this]
    omega
  · rw [endOf_snoc] at he
    have h0 := h
    rw [spFrom_snoc] at h
    simp only [Bool.and_eq_true] at h
    obtain ⟨ha, hb, hc⟩ := h
    have hx := spOk_true hb
    have hc := of_decide_eq_true hc
    rw [spAdd_snoc]
    split
    · rename_i e
      refine ⟨?_, by rw [endOf_snoc]⟩
      rw [spFrom_snoc, ha, spOk_yes (x := ⟨x.f0, n⟩) hx.1 (by show x.f0 ≤ n; omega) h2]
      simpa using hc
    · rename_i e
      refine ⟨?_, by rw [endOf_snoc]⟩
      rw [spFrom_snoc, h0, spOk_yes (x := ⟨n, n⟩) h1 (Int.le_refl _) h2, endOf_snoc]
      simp only [Bool.true_and]
      exact decide_eq_true (by show x.f1 + 2 ≤ n; omega)
theorem spFold_from : ∀ (l : List Int) (xs : List DSpan), spFrom (-1) xs = true → (∀ n ∈ l, endOf (-1) xs < n ∧ 1 ≤ n ∧ n ≤ 999) → l.Pairwise (· < ·) → spFrom (-1) (l.foldl spAdd xs) = true
  | [], xs, h, _, _ => h
  | n :: l, xs, h, hn, hp => by
    rw [List.pairwise_cons] at hp
    have h0 := hn n (by simp)
    obtain ⟨a, b⟩ := spAdd_good xs n h h0.1 h0.2.1 h0.2.2
    rw [List.foldl_cons]
    exact spFold_from l (spAdd xs n) a (fun m hm => ⟨by rw [b]; exact hp.1 m hm, (hn m (List.mem_cons_of_mem _ hm)).2⟩) hp.2
theorem spFold_good (zs : List Int) : spFrom (-1) (spFold (pgs zs)) = true :=
  spFold_from _ [] rfl (fun n hn => by have := (pgs_mem zs n).1 hn; exact ⟨by show (-1 : Int) < n; omega, this.1, this.2.1⟩) (pgs_sorted zs)
theorem spFold_valid (zs : List Int) : spB (spFold (pgs zs)) = decide ((spFold (pgs zs)).length ≤ 10) := by
  unfold spB
  rw [spFold_good, Bool.true_and]
/-- The pages up to k of the numbers from 1 on. -/
def pgsTo (zs : List Int) (k : Nat) : List Int := ((List.range k).map fun i : Nat => (i : Int) + 1).filter fun n => zs.contains n
theorem pgsTo_succ (zs : List Int) (k : Nat) : pgsTo zs (k + 1) = pgsTo zs k ++ (if zs.contains ((k : Int) + 1) = true then [(k : Int) + 1] else []) := by
  unfold pgsTo
  rw [List.range_succ, List.map_append, List.filter_append]
  congr 1
  rw [List.map_cons, List.map_nil, List.filter_cons, List.filter_nil]
theorem spFoldTo_succ (zs : List Int) (k : Nat) : spFold (pgsTo zs (k + 1)) = if zs.contains ((k : Int) + 1) = true then spAdd (spFold (pgsTo zs k)) ((k : Int) + 1) else spFold (pgsTo zs k) := by
  rw [pgsTo_succ]
  unfold spFold
  rw [List.foldl_append]
  split <;> rfl
end Go.Proofs.Ytnlhlgefaamdgaa

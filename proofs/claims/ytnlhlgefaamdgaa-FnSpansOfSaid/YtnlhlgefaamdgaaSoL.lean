/-
  PROVED HERE: pages as ranges, in plain Lean: the pages of the ranges of a list's pages are those; ranges of them are the same. Conditions: each theorem's own.
-/
import Derived.Test.YtnlhlgefaamdgaaSoK
set_option linter.unusedVariables false
set_option linter.unusedSimpArgs false
namespace Go.Proofs.Ytnlhlgefaamdgaa
set_option maxRecDepth 100000

theorem spP_app (m : Int) (xs ys : List DSpan) : spP m (xs ++ ys) = spP m xs ++ spP m ys := by unfold spP; rw [List.flatMap_append]
theorem spP_one (x : DSpan) : spP 999 [x] = iota x.f0 (spN 999 x) := by simp [spP]
theorem spP_pt (n : Int) (h : n ≤ 999) : spP 999 [⟨n, n⟩] = [n] := by
  rw [spP_one]
  have : spN 999 ⟨n, n⟩ = 0 + 1 := by unfold spN; simp only; omega
  rw [this, iota_succ, iota_zero]
  simp
theorem spAdd_in (xs : List DSpan) (n : Int) (hn : 1 ≤ n ∧ n ≤ 999) (h : ∀ x ∈ xs, 1 ≤ x.f0 ∧ x.f0 ≤ x.f1 ∧ x.f1 ≤ 999) :
    (∀ x ∈ spAdd xs n, 1 ≤ x.f0 ∧ x.f0 ≤ x.f1 ∧ x.f1 ≤ 999) ∧ spP 999 (spAdd xs n) = spP 999 xs ++ [n] := by
  rcases snoc_or xs with rfl | ⟨ys, y, rfl⟩
  · rw [spAdd_nil]
    refine ⟨fun x hx => ?_, ?_⟩
    · rw [List.mem_singleton] at hx
      rw [hx]
      exact ⟨hn.1, Int.le_refl _, hn.2⟩
    · rw [spP_pt n hn.2]; rfl
  · rw [spAdd_snoc]
    have hy := h y (by simp)
    split
    · rename_i e
      refine ⟨fun x hx => ?_, ?_⟩
      · rw [List.mem_append, List.mem_singleton] at hx
        rcases hx with hx | rfl
        · exact h x (List.mem_append_left _ hx)
        · exact ⟨hy.1, by show y.f0 ≤ n; omega, hn.2⟩
      · rw [spP_app, spP_app, spP_one, spP_one]
        have e1 : spN 999 ⟨y.f0, n⟩ = spN 999 y + 1 := by unfold spN; simp only; omega
        have e2 : y.f0 + (spN 999 y : Int) = n := by unfold spN; omega
        show _ ++ iota y.f0 _ = _
        rw [e1, iota_succ, e2, List.append_assoc]
    · refine ⟨fun x hx => ?_, ?_⟩
      · rw [List.mem_append, List.mem_singleton] at hx
        rcases hx with hx | rfl
        · exact h x hx
        · exact ⟨hn.1, Int.le_refl _, hn.2⟩
      · rw [spP_app, spP_pt n hn.2]
theorem spFold_in : ∀ (m : Nat) (l : List Int), l.length = m → (∀ n ∈ l, 1 ≤ n ∧ n ≤ 999) → (∀ x ∈ spFold l, 1 ≤ x.f0 ∧ x.f0 ≤ x.f1 ∧ x.f1 ≤ 999) ∧ spP 999 (spFold l) = l
  | 0, l, h, _ => by
    obtain rfl : l = [] := List.eq_nil_of_length_eq_zero h
    exact ⟨fun x hx => (by cases hx), rfl⟩
  | m + 1, l, h, hn => by
    obtain ⟨l', n, rfl⟩ : ∃ l' n, l = l' ++ [n] := by
      rcases snoc_or l with rfl | h
      · cases h
      · exact h
    rw [spFold_snoc]
    obtain ⟨a, b⟩ := spFold_in m l' (by simpa using h) (fun k hk => hn k (List.mem_append_left _ hk))
    obtain ⟨c, d⟩ := spAdd_in (spFold l') n (hn n (by simp)) a
    exact ⟨c, by rw [d, b]⟩
theorem pgs_in (zs : List Int) : ∀ n ∈ pgs zs, 1 ≤ n ∧ n ≤ 999 := fun n hn => by
  have := (pgs_mem zs n).1 hn
  exact ⟨this.1, this.2.1⟩
theorem pgs_pgs (zs : List Int) : pgs (pgs zs) = pgs zs := by
  refine eq_of_sorted _ _ (pgs_sorted _) (pgs_sorted _) fun x => ?_
  rw [pgs_mem]
  exact ⟨fun h => h.2.2, fun h => ⟨(pgs_in zs x h).1, (pgs_in zs x h).2, h⟩⟩
theorem pgB_pgs (zs : List Int) : pgB (pgs zs) = true := by
  unfold pgB
  rw [List.all_eq_true]
  exact fun z hz => inB_yes (pgs_in zs z hz).1 (pgs_in zs z hz).2
theorem so_yes {zs : List Int} (h : soB zs = true) : pgB zs = true ∧ soR zs = spFold (pgs zs) ∧ spB (soR zs) = true ∧ spPages 999 (soR zs) = pgs zs ∧ soB (pgs zs) = true ∧ soR (pgs zs) = soR zs := by
  have h0 := h
  unfold soB at h
  rw [Bool.and_eq_true] at h
  have e1 : soR zs = spFold (pgs zs) := by unfold soR; rw [if_pos h0]
  have e2 : spB (soR zs) = true := by rw [e1, spFold_valid]; exact h.2
  have e3 : soB (pgs zs) = true := by unfold soB; rw [pgB_pgs, pgs_pgs]; exact h.2
  refine ⟨h.1, e1, e2, ?_, e3, ?_⟩
  · unfold spPages
    rw [if_pos e2, e1]
    exact (spFold_in _ _ rfl (pgs_in zs)).2
  · unfold soR
    rw [if_pos e3, if_pos h0, pgs_pgs]
theorem so_no {zs : List Int} (h : soB zs = false) : soR zs = [] := by unfold soR; rw [h]; rfl
theorem pg_found {zs : List Int} (h : soB zs = true) (k : Nat) (hk : k < zs.length) : (pgs zs).contains (zs.getD k 0) = true := by
  rw [List.contains_iff_mem, pgs_mem]
  have e : zs.getD k 0 = zs[k] := by simp [List.getD, hk]
  have h1 := (so_yes h).1
  unfold pgB at h1
  rw [List.all_eq_true] at h1
  have := inB_true (h1 zs[k] (List.getElem_mem hk))
  rw [e]
  exact ⟨this.1, this.2, List.getElem_mem hk⟩
theorem pg_back (zs : List Int) (k : Nat) (hk : k < (pgs zs).length) : zs.contains ((pgs zs).getD k 0) = true := by
  rw [List.contains_iff_mem]
  have e : (pgs zs).getD k 0 = (pgs zs)[k] := by simp [List.getD, hk]
  rw [e]
  exact ((pgs_mem zs _).1 (List.getElem_mem hk)).2.2
theorem pgs_len (zs : List Int) : (pgs zs).length ≤ 999 := by
  unfold pgs
  exact Nat.le_trans (List.length_filter_le _ _) (by simp)
end Go.Proofs.Ytnlhlgefaamdgaa

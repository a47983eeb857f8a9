/-
  PROVED HERE: the areas that UpAreas hands back lie on the sheet and do not meet. Conditions: each theorem's own.
-/
import Derived.Test.YtgbbodmggbeflaaUpArS
set_option linter.unusedVariables false
set_option linter.unusedSimpArgs false
namespace Go.Proofs.Ytgbbodmggbeflaa
open Go.RowKit

theorem areas_geo {r c wd ht g : Int} (h : arB r c wd ht g = true) : ∃ (N : Nat) (W T : Int) (X : Nat → Int × Int), areas r c wd ht g = (List.range N).map (fun k => (⟨(X k).1, (X k).2, W, T⟩ : DArea)) ∧ (N : Int) = r * c ∧ N ≤ 36 ∧ 1 ≤ W ∧ 1 ≤ T ∧
    (∀ k, k < N → g ≤ (X k).1 ∧ g ≤ (X k).2 ∧ (X k).1 + W + g ≤ wd ∧ (X k).2 + T + g ≤ ht) ∧
    (∀ j k, j < k → k < N → ((X j).1 + W ≤ (X k).1) ∨ ((X k).1 + W ≤ (X j).1) ∨ ((X j).1 = (X k).1 ∧ (X j).2 + T ≤ (X k).2)) := by
  have h' := h
  unfold arB at h'
  rw [Bool.and_eq_true] at h'
  obtain ⟨h1, h2⟩ := h'
  obtain ⟨k1, k2, k3, k4, k5⟩ := arOk_true h1
  obtain ⟨r1, r2⟩ := inB_true k1
  obtain ⟨c1, c2⟩ := inB_true k2
  obtain ⟨g1, g2⟩ := inB_true k5
  unfold arFit at h2
  simp only [Bool.and_eq_true, decide_eq_true_eq] at h2
  obtain ⟨f1, f2⟩ := h2
  have hA : areas r c wd ht g = areaL g ((wd - (c + 1) * g) / c) ((ht - (r + 1) * g) / r) c.toNat (r * c).toNat := by
    unfold areas; unfold arB at h; rw [h]; rfl
  obtain ⟨W, hW⟩ : ∃ W, (wd - (c + 1) * g) / c = W := ⟨_, rfl⟩
  obtain ⟨T, hT⟩ : ∃ T, (ht - (r + 1) * g) / r = T := ⟨_, rfl⟩
  rw [hW, hT] at hA
  have hW1 : 1 ≤ W := by rw [← hW]; exact Int.le_ediv_of_mul_le (by omega) (by omega)
  have hT1 : 1 ≤ T := by rw [← hT]; exact Int.le_ediv_of_mul_le (by omega) (by omega)
  have hWc : W * c ≤ wd - (c + 1) * g := by rw [← hW]; exact Int.ediv_mul_le _ (by omega)
  have hTr : T * r ≤ ht - (r + 1) * g := by rw [← hT]; exact Int.ediv_mul_le _ (by omega)
  obtain ⟨R, rfl⟩ := Int.eq_ofNat_of_zero_le (show 0 ≤ r by omega)
  obtain ⟨C, rfl⟩ := Int.eq_ofNat_of_zero_le (show 0 ≤ c by omega)
  have hRC : ((R : Int) * (C : Int)).toNat = R * C := by rw [← Int.natCast_mul]; rfl
  rw [hRC, Int.toNat_natCast] at hA
  have hC0 : 0 < C := by omega
  have key : ∀ (m M : Nat) (s : Int), m < M → 0 ≤ s → (m : Int) * s + s ≤ (M : Int) * s := by
    intro m M s hm hs
    have : ((m : Int) + 1) * s ≤ (M : Int) * s := Int.mul_le_mul_of_nonneg_right (by omega) hs
    rw [Int.add_mul, Int.one_mul] at this
    exact this
  refine ⟨R * C, W, T, fun k => (g + ((k % C : Nat) : Int) * (W + g), g + ((k / C : Nat) : Int) * (T + g)), hA, Int.natCast_mul R C, Nat.le_trans (Nat.mul_le_mul (show R ≤ 6 by omega) (show C ≤ 6 by omega)) (by omega), hW1, hT1, ?_, ?_⟩
  · intro k hk
    have hm : k % C < C := Nat.mod_lt _ hC0
    have hd : k / C < R := (Nat.div_lt_iff_lt_mul hC0).2 hk
    have a1 := key (k % C) C (W + g) hm (by omega)
    have a2 := key (k / C) R (T + g) hd (by omega)
    have a3 : 0 ≤ ((k % C : Nat) : Int) * (W + g) := Int.mul_nonneg (Int.natCast_nonneg _) (by omega)
    have a4 : 0 ≤ ((k / C : Nat) : Int) * (T + g) := Int.mul_nonneg (Int.natCast_nonneg _) (by omega)
    have a5 : (C : Int) * (W + g) = W * C + C * g := by rw [Int.mul_add, Int.mul_comm (C : Int) W]
    have a6 : (R : Int) * (T + g) = T * R + R * g := by rw [Int.mul_add, Int.mul_comm (R : Int) T]
    have a7 : ((C : Int) + 1) * g = C * g + g := by rw [Int.add_mul, Int.one_mul]
    have a8 : ((R : Int) + 1) * g = R * g + g := by rw [Int.add_mul, Int.one_mul]
    simp only
    omega
  · intro j k hjk hk
    simp only
    rcases Nat.lt_trichotomy (j % C) (k % C) with hlt | heq | hgt
    · left
      have := key (j % C) (k % C) (W + g) hlt (by omega)
      omega
    · right; right
      have hd : j / C < k / C := by
        have e1 := Nat.div_add_mod j C
        have e2 := Nat.div_add_mod k C
        rw [heq] at e1
        have h3 : C * (j / C) < C * (k / C) := by omega
        exact Nat.lt_of_mul_lt_mul_left h3
      have := key (j / C) (k / C) (T + g) hd (by omega)
      rw [heq]
      omega
    · right; left
      have := key (k % C) (j % C) (W + g) hgt (by omega)
      omega
end Go.Proofs.Ytgbbodmggbeflaa

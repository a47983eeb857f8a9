/-
  PROVED HERE: rows of sheets, compared. Conditions: each theorem's own.
-/
import Derived.Test.YtgbbodmggbeflaaSheet
import Derived.StillTailTactics
import Derived.OwnWalk
set_option linter.unusedVariables false
set_option linter.unusedSimpArgs false
namespace Go.Proofs.Ytgbbodmggbeflaa
open Go.RowKit

set_option maxHeartbeats 1000000 in
theorem eqSheet_any (u1 u2 : Value) (x : List Int) (w : World) (h1 : IRow w u1 x) (h2 : IRow w u2 x) : Calls Try.prog 57 #[.agg #[u1], .agg #[u2]] w (Ret (.bool true) w) := by
  have H1 := Lib.hid h1
  have H2 := Lib.hid h2
  clear h1 h2
  go_enter Try.func57, Try.ntmps57
  have b0 := Lib.hid (((Below.refl w.heap.size w).alloc (Nat.le_refl _) (.cells #[u1] 59)).alloc (by simp) (.cells #[u2] 59))
  go_wp2_with fail
  refine (eqIntS_any u1 u2 x _ (H1.out.below b0.out) (H2.out.below b0.out)).mono ?_
  rintro e w1 ⟨rfl, b1⟩
  have B1 := Lib.hid (below_next b0.out b1 (Nat.le_refl _))
  clear b1
  go_wp2
  go_ret
  exact ⟨rfl, B1.out⟩

theorem SheetR.len {w : World} {v : Value} {xs : List (List Int)} (h : SheetR w v xs) : ∃ a cap, v = .slice a xs.length cap ∧ xs.length ≤ 9223372036854775807 ∧ ∀ j (hj : j < xs.length), ∃ b off u, a = some ⟨b, off, none⟩ ∧ b < w.heap.size ∧ w.cell? ⟨b, off + j, none⟩ = some u ∧ IRow w u xs[j] := by
  obtain ⟨us, h1, ⟨a, cap, e, hl, hc⟩, h3⟩ := h
  refine ⟨a, cap, by rw [← h1]; exact e, by omega, fun j hj => ?_⟩
  obtain ⟨u, e1, hu⟩ := h3 j hj
  obtain ⟨b, off, e2, hcc⟩ := hc j (by omega)
  have e3 : us[j]'(by omega) = u := (List.getElem?_eq_some_iff.1 e1).2
  have c0 := hcc 0 u (by rw [e3]; rfl)
  rw [Nat.mul_one, Nat.add_zero] at c0
  exact ⟨b, off, u, e2, World.block_lt_of_cell? w _ c0, c0, hu⟩

set_option maxHeartbeats 2000000 in
/-- Two rows of sheets that read alike are found to be equal. -/
theorem eqSheetS_any (v1 v2 : Value) (xs : List (List Int)) (w : World) (h1 : SheetR w v1 xs) (h2 : SheetR w v2 xs) : Calls Try.prog 38 #[v1, v2] w (Ret (.bool true) w) := by
  obtain ⟨a, ca, rfl, hl, h3⟩ := h1.len
  obtain ⟨a', cb, rfl, _, h4⟩ := h2.len
  obtain ⟨n, hn⟩ : ∃ n, n = xs.length := ⟨_, rfl⟩
  have H3 := Lib.hid h3
  have H4 := Lib.hid h4
  rw [← hn] at hl ⊢
  have HN := Lib.hid hn
  clear h1 h2 h3 h4 hn
  go_enter Try.func38, Try.ntmps38
  go_wp2
  go_loopw [5] (fun i wr => ∃ k : Nat, k ≤ n ∧ i = .int .i64 k ∧ Hid (Below w.heap.size w wr)) (fun i _ => n - (intOf i).toNat)
  case atStart => exact ⟨0, Nat.zero_le _, rfl, Below.refl _ _⟩
  case round =>
    obtain ⟨k, hk, rfl, hb⟩ := hrel
    by_cases hlt : k < n
    · have hk' : k < xs.length := by rw [← HN.out]; exact hlt
      obtain ⟨b, off, u, rfl, l1, c1, i1⟩ := H3.out k hk'
      obtain ⟨b', off', u', rfl, l2, c2, i2⟩ := H4.out k hk'
      have d1 : wr.cell? ⟨b, off + k, none⟩ = some u := (hb.out.cell (p := ⟨b, off + k, none⟩) l1).trans c1
      have d2 : wr.cell? ⟨b', off' + k, none⟩ = some u' := (hb.out.cell (p := ⟨b', off' + k, none⟩) l2).trans c2
      have I1 := Lib.hid (i1.below hb.out)
      have I2 := Lib.hid (i2.below hb.out)
      clear c1 c2 i1 i2
      go_wp2
      go_still_tail 8, (by kernel_rfl)
      change wpList _ _ _ _ _ wr.drew
      go_wp2_with (go_at_call 57; refine (eqSheet_any u u' xs[k] _ (I1.out.below ((Below.refl _ _).drew)) (I2.out.below ((Below.refl _ _).drew))).mono ?_; rintro e w1 ⟨rfl, hb1⟩)
      have hb2 : Below w.heap.size w w1 := (hb.out.drew).trans ((by assumption : Below wr.drew.heap.size wr.drew w1).mono (by have := hb.out.size; exact this))
      go_roundw
      case rel => exact ⟨k + 1, by omega, by go_num, hb2⟩
      case measure => simp [intOf]; omega
    · clear H3 H4
      go_wp2
      go_ret
      exact ⟨rfl, hb.out⟩
end Go.Proofs.Ytgbbodmggbeflaa

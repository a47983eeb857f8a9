/-
  PROVED HERE: rows of sheets, compared by the law; the sheets of a booklet, folded, in plain Lean. Conditions: each theorem's own.
-/
import Derived.Test.YtgbbodmggbeflaaSheetE
import Derived.Test.YtgbbodmggbeflaaFold
set_option linter.unusedVariables false
set_option linter.unusedSimpArgs false
namespace Go.Proofs.Ytgbbodmggbeflaa
open Go.RowKit

set_option maxHeartbeats 2000000 in
theorem sameSheets_any (v1 v2 : Value) (xs : List (List Int)) (w : World) (h1 : SheetR w v1 xs) (h2 : SheetR w v2 xs) : Calls Try.prog 42 #[v1, v2] w (Ret (.bool true) w) := by
  obtain ⟨a, ca, rfl, hl, h3⟩ := h1.len
  obtain ⟨a', cb, rfl, _, h4⟩ := h2.len
  obtain ⟨n, hn⟩ : ∃ n, n = xs.length := ⟨_, rfl⟩
  have H3 := Lib.hid h3
  have H4 := Lib.hid h4
  rw [← hn] at hl ⊢
  have HN := Lib.hid hn
  clear h1 h2 h3 h4 hn
  go_enter Try.func42, Try.ntmps42
  go_wp2
  go_loopw [5] (fun i wr => ∃ k : Nat, k ≤ n ∧ i = .int .i64 k ∧ Hid (Below w.heap.size w wr)) (fun i _ => n - (intOf i).toNat)
  case atStart => exact ⟨0, Nat.zero_le _, rfl, Below.refl _ _⟩
  case round =>
    obtain ⟨k, hk, rfl, hb⟩ := hrel
    by_cases hlt : k < n
    · have hk' : k < xs.length := by rw [← HN.out]; exact hlt
      obtain ⟨b, off, u, rfl, l1, c1, i1⟩ := H3.out k hk'
      obtain ⟨b', off', u', rfl, l2, c2, i2⟩ := H4.out k hk'
      have d1 : wr.cell? ⟨b, off + k, none⟩ = some u := (hb.out.cell (p := ⟨b, off + k, none⟩) l1).trans c1
      have d2 : wr.cell? ⟨b', off' + k, none⟩ = some u' := (hb.out.cell (p := ⟨b', off' + k, none⟩) l2).trans c2
      have I1 := Lib.hid (i1.below hb.out)
      have I2 := Lib.hid (i2.below hb.out)
      clear c1 c2 i1 i2
      go_wp2
      go_still_tail 10, (by kernel_rfl)
      change wpList _ _ _ _ _ wr.drew
      go_wp2_with (go_at_call 25; refine (sameInts_any u u' xs[k] _ (I1.out.below ((Below.refl _ _).drew)) (I2.out.below ((Below.refl _ _).drew))).mono ?_; rintro e w1 ⟨rfl, hb1⟩)
      have hb2 : Below w.heap.size w w1 := (hb.out.drew).trans ((by assumption : Below wr.drew.heap.size wr.drew w1).mono (by have := hb.out.size; exact this))
      go_roundw
      case rel => exact ⟨k + 1, by omega, by go_num, hb2⟩
      case measure => simp [intOf]; omega
    · clear H3 H4
      go_wp2
      go_ret
      exact ⟨rfl, hb.out⟩

theorem shN_get (many : Int) (n j : Nat) (h : j < (shN many n).length) : (shN many n)[j] = shPg many j := by simp [shN]
theorem foldF_sh (many : Int) (n : Nat) : ∀ k, k ≤ n → foldF (shN many n) k = (List.range (2 * k)).map fun i : Nat => zer many ((i : Int) + 1)
  | 0, _ => rfl
  | k + 1, h => by
    rw [foldF_succ _ k (by rw [shN_len]; omega), foldF_sh many n k (by omega), shN_get, show 2 * (k + 1) = 2 * k + 1 + 1 by omega, List.range_succ, List.range_succ, List.map_append, List.map_append, List.append_assoc]
    simp only [fA, shPg, List.map_cons, List.map_nil, List.cons_append, List.nil_append]
    congr 2
theorem foldB_sh (many : Int) (n : Nat) (hn : shC many = n) : ∀ d, d ≤ n → foldB (shN many n) (n - d) = (List.range (2 * d)).map fun i : Nat => zer many (((2 * n + i : Nat) : Int) + 1)
  | 0, _ => by rw [foldB_end _ _ (by rw [shN_len]; omega)]; rfl
  | d + 1, h => by
    have h1 : n - (d + 1) < (shN many n).length := by rw [shN_len]; omega
    have ih := foldB_sh many n hn d (by omega)
    rw [foldB_pred _ _ h1, show n - (d + 1) + 1 = n - d by omega, ih, shN_get, show 2 * (d + 1) = 2 * d + 1 + 1 by omega, List.range_succ, List.range_succ, List.map_append, List.map_append, List.append_assoc]
    simp only [fB, shPg, List.map_cons, List.map_nil, List.cons_append, List.nil_append]
    rw [hn]
    congr 2
    · simp; congr 1; omega
    · simp; congr 1; omega
theorem foldOk_sh (many : Int) : foldOk (shs many) = true := by
  have h := shC_bd many
  unfold shs
  refine foldOk_true (by rw [shN_len]; omega) fun j hj => ?_
  rw [shN_get]
  rfl
theorem fold_sh (many : Int) (n : Nat) (hn : shC many = n) : foldR (shs many) = (List.range (4 * n)).map fun i : Nat => zer many ((i : Int) + 1) := by
  have e : shs many = shN many n := by unfold shs; rw [hn]; rfl
  have hok := foldOk_sh many
  rw [e] at hok ⊢
  have hB := foldB_sh many n hn n (Nat.le_refl _)
  rw [Nat.sub_self] at hB
  unfold foldR
  rw [if_pos hok, shN_len, foldF_sh many n n (Nat.le_refl _), hB, show 4 * n = 2 * n + 2 * n by omega, List.range_add, List.map_append, List.map_map]
  rfl
end Go.Proofs.Ytgbbodmggbeflaa

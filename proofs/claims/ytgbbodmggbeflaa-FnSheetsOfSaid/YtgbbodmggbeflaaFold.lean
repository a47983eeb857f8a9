/-
  PROVED HERE: sheets, folded: what the reference returns. Conditions: each theorem's own.
-/
import Derived.Test.YtgbbodmggbeflaaSheetE
import Derived.Test.YtgbbodmggbeflaaSheetS
import Derived.Test.YtgbbodmggbeflaaLawOwn
set_option linter.unusedVariables false
set_option linter.unusedSimpArgs false
namespace Go.Proofs.Ytgbbodmggbeflaa
open Go.RowKit

def fA (x : List Int) : List Int := [x.getD 1 0, x.getD 2 0]
def fB (x : List Int) : List Int := [x.getD 3 0, x.getD 0 0]
def foldOk (xs : List (List Int)) : Bool := decide (xs.length ≤ 100) && xs.all (fun x => decide (x.length = 4))
def foldF (xs : List (List Int)) (k : Nat) : List Int := (xs.take k).flatMap fA
def foldB (xs : List (List Int)) (k : Nat) : List Int := (xs.drop k).reverse.flatMap fB
def foldR (xs : List (List Int)) : List Int := if foldOk xs = true then foldF xs xs.length ++ foldB xs 0 else []
theorem foldF_succ (xs : List (List Int)) (k : Nat) (h : k < xs.length) : foldF xs (k + 1) = foldF xs k ++ fA xs[k] := by
  unfold foldF
  rw [List.take_succ_eq_append_getElem h, List.flatMap_append]
  simp
theorem foldB_pred (xs : List (List Int)) (k : Nat) (h : k < xs.length) : foldB xs k = foldB xs (k + 1) ++ fB xs[k] := by
  unfold foldB
  rw [List.drop_eq_getElem_cons h, List.reverse_cons, List.flatMap_append]
  simp
theorem flatA_len (l : List (List Int)) : (l.flatMap fA).length = 2 * l.length := by
  induction l with
  | nil => rfl
  | cons x t ih => rw [List.flatMap_cons, List.length_append, ih]; simp [fA]; omega
theorem flatB_len (l : List (List Int)) : (l.flatMap fB).length = 2 * l.length := by
  induction l with
  | nil => rfl
  | cons x t ih => rw [List.flatMap_cons, List.length_append, ih]; simp [fB]; omega
theorem foldF_len (xs : List (List Int)) (k : Nat) (h : k ≤ xs.length) : (foldF xs k).length = 2 * k := by
  unfold foldF
  rw [flatA_len, List.length_take]
  omega
theorem foldB_len (xs : List (List Int)) (k : Nat) : (foldB xs k).length = 2 * (xs.length - k) := by
  unfold foldB
  rw [flatB_len, List.length_reverse, List.length_drop]
theorem foldB_end (xs : List (List Int)) (k : Nat) (h : xs.length ≤ k) : foldB xs k = [] := by
  unfold foldB
  rw [List.drop_of_length_le h]
  rfl
theorem foldOk_true {xs : List (List Int)} (h : xs.length ≤ 100) (h4 : ∀ j (hj : j < xs.length), xs[j].length = 4) : foldOk xs = true := by
  unfold foldOk
  simp only [Bool.and_eq_true, decide_eq_true_eq, List.all_eq_true]
  refine ⟨h, fun x hx => ?_⟩
  obtain ⟨j, hj, rfl⟩ := List.getElem_of_mem hx
  exact h4 j hj
theorem foldOk_inv {xs : List (List Int)} (h : foldOk xs = true) : xs.length ≤ 100 ∧ ∀ j (hj : j < xs.length), xs[j].length = 4 := by
  unfold foldOk at h
  simp only [Bool.and_eq_true, decide_eq_true_eq, List.all_eq_true] at h
  exact ⟨h.1, fun j hj => h.2 _ (List.getElem_mem hj)⟩
theorem foldOk_false {xs : List (List Int)} (j : Nat) (hj : j < xs.length) (h : ¬ (xs[j].length = 4 ∧ xs.length ≤ 100)) : foldR xs = [] := by
  unfold foldR
  rw [if_neg]
  intro e
  obtain ⟨e1, e2⟩ := foldOk_inv e
  exact h ⟨e2 j hj, e1⟩

/-- It returns a row of its own with these numbers. -/
def FoldPost (xs : List Int) (w : World) (e : Ending) (w' : World) : Prop := ∃ v, e = .returned v ∧ w'.ownsRow w.heap.size 3 1 v xs.length (xs.map (Value.int .i64)) ∧ Below w.heap.size w w'

theorem IRow.at4 {w : World} {u : Value} {x : List Int} (h : IRow w u x) (h4 : x.length = 4) : ∃ b off cap, u = .slice (some ⟨b, off, none⟩) 4 cap ∧ b < w.heap.size ∧
    w.cell? ⟨b, off, none⟩ = some (.int .i64 (x.getD 0 0)) ∧ w.cell? ⟨b, off + 1, none⟩ = some (.int .i64 (x.getD 1 0)) ∧ w.cell? ⟨b, off + 2, none⟩ = some (.int .i64 (x.getD 2 0)) ∧ w.cell? ⟨b, off + 3, none⟩ = some (.int .i64 (x.getD 3 0)) := by
  obtain ⟨b, off, cap, e, hc⟩ := h.pos (by omega)
  rw [h4] at e hc
  have c0 := hc 0 (by omega)
  rw [Nat.add_zero] at c0
  exact ⟨b, off, cap, e, World.block_lt_of_cell? w _ c0, c0, hc 1 (by omega), hc 2 (by omega), hc 3 (by omega)⟩
theorem IRow.shape {w : World} {u : Value} {x : List Int} (h : IRow w u x) : ∃ a cap, u = .slice a x.length cap ∧ x.length ≤ 9223372036854775807 := by
  obtain ⟨a, cap, e, hl, _⟩ := h
  exact ⟨a, cap, e, hl⟩

set_option maxHeartbeats 8000000 in
theorem specFold_any (v : Value) (xs : List (List Int)) (w : World) (h : SheetR w v xs) : Calls Try.prog 45 #[v] w (FoldPost (foldR xs) w) := by
  obtain ⟨i0, hi, hz0, hz1, hz2⟩ := info_parts info_int
  obtain ⟨a, ca, rfl, hl, h3⟩ := h.len
  obtain ⟨n, hn⟩ : ∃ n, n = xs.length := ⟨_, rfl⟩
  have H3 := Lib.hid h3
  rw [← hn] at hl ⊢
  have HN := Lib.hid hn
  clear h h3 hn
  go_enter Try.func45, Try.ntmps45
  go_wp2
  have B0 := Lib.hid ((Below.refl w.heap.size w).alloc (Nat.le_refl _) (.cells #[] 3))
  have O0 : Hid ((w.alloc (.cells #[] 3)).ownsRow w.heap.size 3 1 (.slice (some ⟨w.heap.size, 0, none⟩) 0 0) (2 * 0) ((foldF xs 0).map (Value.int .i64))) := World.ownsRow_made w #[] 0 (Nat.le_refl _) (Nat.zero_le _) rfl
  go_loopw [3, 4] (fun o i wr => ∃ k : Nat, k ≤ n ∧ i = .int .i64 k ∧ Hid (0 < k → n ≤ 100) ∧ Hid (∀ j (hj : j < xs.length), j < k → xs[j].length = 4) ∧ Hid (wr.ownsRow w.heap.size 3 1 o (2 * k) ((foldF xs k).map (Value.int .i64))) ∧ Hid (Below w.heap.size w wr)) (fun _ i _ => n - (intOf i).toNat)
  case atStart => exact ⟨0, Nat.zero_le _, rfl, fun h => absurd h (Nat.lt_irrefl _), fun j _ h => absurd h (Nat.not_lt_zero _), O0.out, B0.out⟩
  case round =>
    obtain ⟨k, hk, rfl, hn100, h4, ho, hb⟩ := hrel
    by_cases hlt : k < n
    · have hk' : k < xs.length := by rw [← HN.out]; exact hlt
      obtain ⟨b, off, u, rfl, l1, c1, i1⟩ := H3.out k hk'
      have d1 : wr.cell? ⟨b, off + k, none⟩ = some u := (hb.out.cell (p := ⟨b, off + k, none⟩) l1).trans c1
      have i2 := i1.below hb.out
      have bad : Hid (¬ (xs[k].length = 4 ∧ n ≤ 100) → foldR xs = []) := fun e => foldOk_false k hk' (by rw [← HN.out]; exact e)
      have E0 : Hid (foldF xs (k + 1) = foldF xs k ++ fA xs[k]) := foldF_succ xs k hk'
      have L4 : Hid (xs[k].length = 4 → ∀ j (hj : j < xs.length), j < k + 1 → xs[j].length = 4) := fun e j hj hjk => by
        by_cases hjk' : j < k
        · exact h4.out j hj hjk'
        · obtain rfl : j = k := by omega
          exact e
      obtain ⟨x, hx⟩ : ∃ x, x = xs[k] := ⟨_, rfl⟩
      rw [← hx] at i2 bad E0 L4
      clear hx i1 c1 h4 O0 B0
      by_cases h4 : x.length = 4
      · by_cases hn1 : n ≤ 100
        · obtain ⟨b', off', cap', rfl, l2, e0, e1, e2, e3⟩ := i2.at4 h4
          have L5 := Lib.hid (L4.out h4)
          have hws := hb.out.size
          have E0' := E0.out
          unfold fA at E0'
          obtain ⟨p1, hp1⟩ : ∃ p, p = x.getD 1 0 := ⟨_, rfl⟩
          obtain ⟨p2, hp2⟩ : ∃ p, p = x.getD 2 0 := ⟨_, rfl⟩
          rw [← hp1, ← hp2] at E0'
          rw [← hp1] at e1
          rw [← hp2] at e2
          have E0 := Lib.hid E0'
          have bw : Below w.heap.size w (wr.alloc (.cells #[.int .i64 p1, .int .i64 p2] 3)).drew := (hb.out.alloc hws _).drew
          have BW := Lib.hid bw
          have HO := Lib.hid (ho.out.alloc (.cells #[.int .i64 p1, .int .i64 p2] 3)).drew
          clear hp1 hp2 E0' e0 e3
          clear i2 bad L4 h4 bw ho
          have hws' : w.heap.size ≤ (wr.alloc (.cells #[.int .i64 p1, .int .i64 p2] 3)).drew.heap.size := by show _ ≤ (wr.alloc _).heap.size; simp; omega
          go_wp2
          go_region_law (first | (refine step_append_own rfl (.tmp 26) (.tmp 41) 28 rfl w.heap.size 3 i0 (.int .i64 0) 1 8 Try.underlying28 hi hz0 hz1 hz2 rfl (by decide) _ _ _ rfl HO.out ⟨wr.heap.size, 0, none⟩ 2 2 [.int .i64 p1, .int .i64 p2] rfl rfl (fun j u hu => cells_new wr [.int .i64 p1, .int .i64 p2] _ j u hu) (by intro u hu; simp at hu; rcases hu with rfl | rfl <;> rfl) (by unfold maxLen; omega) (by omega) hws' ?_; intro v' w5 hown' hgrow))
          all_goals
            have o2 : w5.ownsRow w.heap.size 3 1 v' (2 * (k + 1)) ((foldF xs (k + 1)).map (Value.int .i64)) := by
              rw [E0.out, List.map_append, show 2 * (k + 1) = 2 * k + 2 by omega]
              exact hown'
            have O2 := Lib.hid o2
            have bf := BW.out.grown hgrow hws' (fun q hq => (HO.out.lt q hq).1)
            have BF := Lib.hid bf
            clear o2 bf hown' hgrow
            go_wp2
            exact ⟨⟨k + 1, by omega, by go_num, fun _ => hn1, L5.out, O2.out, BF.out⟩, by simp [intOf]; omega⟩
        · obtain ⟨b', off', cap', rfl, l2, e0, e1, e2, e3⟩ := i2.at4 h4
          have E1 := Lib.hid (bad.out (by omega))
          clear E0 L4 h4 bad
          have hws := hb.out.size
          go_wp2
          go_ret
          exact ⟨_, rfl, by rw [E1.out]; exact World.ownsRow_made wr #[] 0 hws (Nat.zero_le _) rfl, hb.out.alloc hws _⟩
      · have E1 := Lib.hid (bad.out (fun e => h4 e.1))
        obtain ⟨a', cap', rfl, hl'⟩ := i2.shape
        have h4' : ¬ (x.length : Int) = 4 := by omega
        obtain ⟨m, hm⟩ : ∃ m, m = x.length := ⟨_, rfl⟩
        rw [← hm] at h4' hl' d1
        clear E0 L4 bad i2 hm h4
        have hws := hb.out.size
        go_wp2
        go_ret
        exact ⟨_, rfl, by rw [E1.out]; exact World.ownsRow_made wr #[] 0 hws (Nat.zero_le _) rfl, hb.out.alloc hws _⟩
    · obtain rfl : k = n := by omega
      have hn1 : k ≤ 100 := by
        by_cases h0 : 0 < k
        · exact hn100.out h0
        · omega
      have ER : foldR xs = foldF xs k ++ foldB xs 0 := by
        unfold foldR
        rw [if_pos (foldOk_true (by rw [← HN.out]; exact hn1) (fun j hj => h4.out j hj (by rw [HN.out]; exact hj))), ← HN.out]
      have LF := foldF_len xs k (by rw [HN.out]; exact Nat.le_refl _)
      have LB : ∀ j, (foldB xs j).length = 2 * (k - j) := fun j => by rw [foldB_len, ← HN.out]
      have O1 : Hid (wr.ownsRow w.heap.size 3 1 u3 (2 * k + 2 * 0) ((foldF xs k ++ foldB xs k).map (Value.int .i64))) := by
        rw [foldB_end xs k (by rw [HN.out]; exact Nat.le_refl _), List.append_nil]
        exact ho.out
      have ER := Lib.hid ER
      have LF := Lib.hid LF
      have LB := Lib.hid LB
      have HB := Lib.hid hb.out
      have H4 := Lib.hid h4.out
      clear ho O0 B0 hn100 hb h4
      go_wp2
      go_loopw [3, 5] (fun o i wr => ∃ j : Nat, j ≤ k ∧ i = .int .i64 ((j : Int) - 1) ∧ Hid (wr.ownsRow w.heap.size 3 1 o (2 * k + 2 * (k - j)) ((foldF xs k ++ foldB xs j).map (Value.int .i64))) ∧ Hid (Below w.heap.size w wr)) (fun _ i _ => (intOf i + 1).toNat)
      case atStart => exact ⟨k, Nat.le_refl _, rfl, by rw [Nat.sub_self]; exact O1.out, HB.out⟩
      case round =>
        obtain ⟨j, hj, rfl, ho, hb⟩ := hrel
        clear O1 HB
        by_cases hj0 : 0 < j
        · obtain ⟨q, rfl⟩ : ∃ q, j = q + 1 := ⟨j - 1, by omega⟩
          have hq : q < xs.length := by rw [← HN.out]; omega
          obtain ⟨b, off, u, rfl, l1, c1, i1⟩ := H3.out q hq
          have d1 : wr.cell? ⟨b, off + q, none⟩ = some u := (hb.out.cell (p := ⟨b, off + q, none⟩) l1).trans c1
          have i2 := i1.below hb.out
          have E0 := foldB_pred xs q hq
          have h4q := H4.out q hq (by omega)
          obtain ⟨x, hx⟩ : ∃ x, x = xs[q] := ⟨_, rfl⟩
          rw [← hx] at i2 E0 h4q
          obtain ⟨b', off', cap', rfl, l2, e0, e1, e2, e3⟩ := i2.at4 h4q
          unfold fB at E0
          obtain ⟨p1, hp1⟩ : ∃ p, p = x.getD 3 0 := ⟨_, rfl⟩
          obtain ⟨p2, hp2⟩ : ∃ p, p = x.getD 0 0 := ⟨_, rfl⟩
          rw [← hp1, ← hp2] at E0
          rw [← hp1] at e3
          rw [← hp2] at e0
          have E0 := Lib.hid E0
          have hws := hb.out.size
          have bw : Below w.heap.size w (wr.alloc (.cells #[.int .i64 p1, .int .i64 p2] 3)).drew := (hb.out.alloc hws _).drew
          have BW := Lib.hid bw
          have HO := Lib.hid (ho.out.alloc (.cells #[.int .i64 p1, .int .i64 p2] 3)).drew
          have hws' : w.heap.size ≤ (wr.alloc (.cells #[.int .i64 p1, .int .i64 p2] 3)).drew.heap.size := by show _ ≤ (wr.alloc _).heap.size; simp; omega
          have hqk : q < k := by omega
          have hqe : ((q + 1 : Nat) : Int) - 1 = (q : Int) := by omega
          rw [hqe]
          clear hp1 hp2 e1 e2 i2 i1 c1 hx h4q bw ho hqe
          go_wp2
          go_region_law (first | (refine step_append_own rfl (.tmp 50) (.tmp 65) 28 rfl w.heap.size 3 i0 (.int .i64 0) 1 8 Try.underlying28 hi hz0 hz1 hz2 rfl (by decide) _ _ _ rfl HO.out ⟨wr.heap.size, 0, none⟩ 2 2 [.int .i64 p1, .int .i64 p2] rfl rfl (fun j u hu => cells_new wr [.int .i64 p1, .int .i64 p2] _ j u hu) (by intro u hu; simp at hu; rcases hu with rfl | rfl <;> rfl) (by unfold maxLen; omega) (by omega) hws' ?_; intro v' w5 hown' hgrow))
          all_goals
            have o2 : w5.ownsRow w.heap.size 3 1 v' (2 * k + 2 * (k - q)) ((foldF xs k ++ foldB xs q).map (Value.int .i64)) := by
              rw [E0.out, ← List.append_assoc, List.map_append, show 2 * k + 2 * (k - q) = 2 * k + 2 * (k - (q + 1)) + 2 by omega]
              exact hown'
            have O2 := Lib.hid o2
            have bf := BW.out.grown hgrow hws' (fun q hq => (HO.out.lt q hq).1)
            have BF := Lib.hid bf
            clear o2 bf hown' hgrow
            go_wp2
            exact ⟨⟨q, by omega, by go_num, O2.out, BF.out⟩, by simp [intOf]⟩
        · obtain rfl : j = 0 := by omega
          have R := ho.out
          rw [← ER.out, Nat.sub_zero] at R
          have LR : (foldR xs).length = 2 * k + 2 * k := by rw [ER.out, List.length_append, LF.out, LB.out, Nat.sub_zero]
          rw [← LR] at R
          have R := Lib.hid R
          clear ho LR
          go_wp2
          go_ret
          exact ⟨_, rfl, R.out, hb.out⟩
end Go.Proofs.Ytgbbodmggbeflaa

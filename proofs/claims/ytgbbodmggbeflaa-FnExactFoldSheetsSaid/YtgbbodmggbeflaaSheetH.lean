/-
  PROVED HERE: rows of sheets, held against their marks. Conditions: each theorem's own.
-/
import Derived.Test.YtgbbodmggbeflaaSheetE
namespace Go.Proofs.Ytgbbodmggbeflaa
open Go.RowKit

/-- The marks of sheets of these lengths, from k on. -/
def mkS (k : Int) : List (List Int) → List (List Int)
  | [] => []
  | x :: t => iota k x.length :: mkS (k + x.length) t
def totS : List (List Int) → Nat
  | [] => 0
  | x :: t => x.length + totS t
theorem mkS_len : ∀ (xs : List (List Int)) (k : Int), (mkS k xs).length = xs.length
  | [], k => rfl
  | x :: t, k => by rw [mkS, List.length_cons, List.length_cons, mkS_len t]
theorem mkS_get : ∀ (xs : List (List Int)) (k : Int) (j : Nat) (h : j < xs.length), (mkS k xs)[j]? = some (iota (k + totS (xs.take j)) xs[j].length)
  | [], k, j, h => absurd h (Nat.not_lt_zero _)
  | x :: t, k, 0, h => by simp [mkS, totS]
  | x :: t, k, j + 1, h => by
    rw [mkS, List.getElem?_cons_succ, mkS_get t _ j (by simpa using h)]
    simp only [List.take_succ_cons, totS, List.getElem_cons_succ]
    rw [show k + (x.length : Int) + (totS (t.take j) : Int) = k + ((x.length + totS (t.take j) : Nat) : Int) by omega]
theorem totS_succ : ∀ (xs : List (List Int)) (j : Nat) (h : j < xs.length), totS (xs.take (j + 1)) = totS (xs.take j) + xs[j].length
  | [], j, h => absurd h (Nat.not_lt_zero _)
  | x :: t, 0, h => by simp [totS]
  | x :: t, j + 1, h => by
    simp only [List.take_succ_cons, totS, List.getElem_cons_succ]
    rw [totS_succ t j (by simpa using h)]
    omega
theorem totS_take : ∀ (xs : List (List Int)) (j : Nat), totS (xs.take j) ≤ totS xs
  | [], j => by simp [totS]
  | x :: t, 0 => by simp [totS]
  | x :: t, j + 1 => by
    simp only [List.take_succ_cons, totS]
    have := totS_take t j
    omega

set_option maxHeartbeats 2000000 in
theorem heldSheetS_any (v : Value) (xs : List (List Int)) (k : Int) (w : World) (h : SheetR w v (mkS k xs)) (hk : 0 ≤ k) (hk2 : k ≤ 1000) (ht : totS xs ≤ 100000000) : Calls Try.prog 40 #[v, .int .i64 k] w (Ret (.int .i64 (k + totS xs)) w) := by
  obtain ⟨a, ca, rfl, hl, h3⟩ := h.len
  obtain ⟨n, hn⟩ : ∃ n, n = xs.length := ⟨_, rfl⟩
  have H3 := Lib.hid h3
  have e := mkS_len xs k
  rw [e, ← hn] at hl ⊢
  have HN := Lib.hid hn
  obtain ⟨T, hT⟩ : ∃ T, T = totS xs := ⟨_, rfl⟩
  rw [← hT] at ht ⊢
  have HT := Lib.hid hT
  clear h h3 hn e hT
  go_enter Try.func40, Try.ntmps40
  go_wp2
  go_loopw [1, 5] (fun kk i wr => ∃ j t : Nat, j ≤ n ∧ t ≤ T ∧ i = .int .i64 j ∧ kk = .int .i64 (k + t) ∧ Hid (t = totS (xs.take j)) ∧ Hid (Below w.heap.size w wr)) (fun _ i _ => n - (intOf i).toNat)
  case atStart => exact ⟨0, 0, Nat.zero_le _, Nat.zero_le _, rfl, by simp, rfl, Below.refl _ _⟩
  case round =>
    obtain ⟨j, t, hj, htT, rfl, rfl, htj, hb⟩ := hrel
    by_cases hlt : j < n
    · have hj' : j < xs.length := by rw [← HN.out]; exact hlt
      obtain ⟨b, off, u, rfl, l1, c1, i1⟩ := H3.out j (by rw [mkS_len]; exact hj')
      have g1 := mkS_get xs k j hj'
      rw [← htj.out] at g1
      have g2 : (mkS k xs)[j]'(by rw [mkS_len]; exact hj') = iota (k + t) xs[j].length := (List.getElem?_eq_some_iff.1 g1).2
      rw [g2] at i1
      have ts := totS_succ xs j hj'
      rw [← htj.out] at ts
      have tt := totS_take xs (j + 1)
      rw [ts, ← HT.out] at tt
      obtain ⟨m, hm⟩ : ∃ m, m = xs[j].length := ⟨_, rfl⟩
      rw [← hm] at i1 ts tt
      have d1 : wr.cell? ⟨b, off + j, none⟩ = some u := (hb.out.cell (p := ⟨b, off + j, none⟩) l1).trans c1
      have I1 := Lib.hid (i1.below hb.out)
      have TS := Lib.hid ts
      clear c1 i1 g1 g2 hm ts htj
      go_wp2_with fail
      refine (heldIntS_any u m (k + t) wr I1.out (by omega) (by omega) (by omega)).mono ?_
      rintro e w2 ⟨rfl, b2⟩
      have B2 := Lib.hid (below_next hb.out b2 (Nat.le_refl _))
      clear b2
      go_wp2
      go_roundw
      case rel => exact ⟨j + 1, t + m, by omega, by omega, by go_num, by go_num, TS.out.symm, B2.out⟩
      case measure => simp [intOf]; omega
    · have e : t = T := by rw [htj.out, HT.out, List.take_of_length_le (by have := HN.out; omega)]
      have E := Lib.hid e
      clear H3 e
      go_wp2
      go_ret
      exact ⟨by rw [← E.out]; rfl, hb.out⟩
end Go.Proofs.Ytgbbodmggbeflaa

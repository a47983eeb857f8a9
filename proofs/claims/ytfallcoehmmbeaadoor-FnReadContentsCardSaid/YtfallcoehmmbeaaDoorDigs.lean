/-
  PROVED HERE: what l20Digits of the reference returns. Conditions: each theorem's own.
-/
import Derived.Test.YtfallcoehmmbeaaDoorDigP
import Derived.Test.YtfallcoehmmbeaaDoorTitS
import Derived.Deep.QuietTactic
import Derived.BigQuiet
set_option linter.unusedVariables false
set_option linter.unusedSimpArgs false
namespace Go.Proofs.YtfallcoehmmbeaaDoor
open Go.RowKit

theorem digV_le (l : List UInt8) (hd : ∀ c ∈ l, 48 ≤ c.toNat ∧ c.toNat ≤ 57) (h : l.length ≤ 4) : digV l ≤ 9999 := by
  match l, h with
  | [], _ => simp [digV]
  | [a], _ => have ha := hd a (by simp); simp [digV]; omega
  | [a, b], _ => have ha := hd a (by simp); have hb := hd b (by simp); simp [digV]; omega
  | [a, b, c], _ => have ha := hd a (by simp); have hb := hd b (by simp); have hc := hd c (by simp); simp [digV]; omega
  | [a, b, c, d], _ => have ha := hd a (by simp); have hb := hd b (by simp); have hc := hd c (by simp); have hd' := hd d (by simp); simp [digV]; omega
theorem dtake_succ (l : List UInt8) (a k : Nat) (h : a + k < l.length) : (l.drop a).take (k + 1) = (l.drop a).take k ++ [l.getD (a + k) 0] := by
  rw [List.take_succ_eq_append_getElem (by simp; omega)]
  congr 2
  simp [List.getD, h]
/-- How far the digits go: at most four. -/
def DigTo (l : List UInt8) (a k : Nat) : Prop := k ≤ 4 ∧ a + k ≤ l.length ∧ (k = 4 ∨ a + k = l.length ∨ isDig (l.getD (a + k) 0) = false)
/-- It returns the number that the digits from a on spell, and where they end. -/
def DigPost (l : List UInt8) (a : Nat) (w : World) (e : Ending) (w' : World) : Prop :=
  ∃ k N : Nat, e = .returned (.tuple #[.int .i64 N, .int .i64 ((a + k : Nat) : Int)]) ∧ DigTo l a k ∧ N = digV ((l.drop a).take k) ∧ N ≤ 9999 ∧ (∀ c ∈ (l.drop a).take k, 48 ≤ c.toNat ∧ c.toNat ≤ 57) ∧ Below w.heap.size w w'

set_option maxRecDepth 100000 in
set_option maxHeartbeats 4000000 in
theorem digits_any (l : List UInt8) (a : Nat) (ha : a ≤ l.length) (hl : l.length ≤ 4000000) (w : World) : Calls Tryd.prog 52 #[.string (bs l), .int .i64 a] w (DigPost l a w) := by
  obtain ⟨n, hn⟩ : ∃ n, n = l.length := ⟨_, rfl⟩
  have HN := Lib.hid hn
  have hs : (bs l).size = n := by rw [hn]; simp [ByteArray.size]
  have hs2 : l.length = n := hn.symm
  have IX := Lib.hid (fun k (hk : k < n) => idx_byte l k (by rw [← hn]; exact hk))
  have H0 : Hid (∀ c ∈ (l.drop a).take 0, 48 ≤ c.toNat ∧ c.toNat ≤ 57) := fun c hc => by cases hc
  rw [← hn] at ha hl
  clear hn
  go_enter Tryd.func52, Tryd.ntmps52
  go_wp2
  go_loopw [1, 6] (fun at' nn wr => ∃ k N : Nat, k ≤ 4 ∧ a + k ≤ n ∧ at' = .int .i64 ((a + k : Nat) : Int) ∧ nn = .int .i64 N ∧ N ≤ 9999 ∧ Hid (N = digV ((l.drop a).take k)) ∧ Hid (∀ c ∈ (l.drop a).take k, 48 ≤ c.toNat ∧ c.toNat ≤ 57) ∧ Hid (Below w.heap.size w wr)) (fun at' _ _ => a + 4 - (intOf at').toNat)
  case atStart => exact ⟨0, 0, by omega, by omega, rfl, rfl, by omega, rfl, H0.out, Below.refl _ _⟩
  case round =>
    obtain ⟨k, N, hk, hak, rfl, rfl, hN, hv, hd, hb⟩ := hrel
    clear H0
    obtain ⟨j, hj⟩ : ∃ j, j = a + k := ⟨_, rfl⟩
    rw [← hj] at hak ⊢
    by_cases hlt : j < n
    · have ix := IX.out j hlt (j : Int) rfl
      have E1 := Lib.hid (dtake_succ l a k (by omega))
      have hd9 : Hid (∀ w, isDig (l.getD j 0) = false → DigPost l a w (.returned (.tuple #[.int .i64 N, .int .i64 (j : Int)])) w) := fun w h => ⟨k, N, by rw [hj], ⟨hk, by omega, .inr (.inr (by rw [← hj]; exact h))⟩, hv.out, hN, hd.out, Below.refl _ _⟩
      rw [← hj] at E1
      obtain ⟨c0, hc0⟩ : ∃ c0, c0 = l.getD j 0 := ⟨_, rfl⟩
      rw [← hc0] at ix E1
      obtain ⟨c, hc⟩ : ∃ c, c = c0.toNat := ⟨_, rfl⟩
      rw [← hc] at ix
      have hcd : Hid (isDig c0 = (decide (48 ≤ c) && decide (c ≤ 57))) := by show _ = _; unfold isDig; rw [hc]
      have HC := Lib.hid hc
      have HC0 := Lib.hid hc0
      have HJ := Lib.hid hj
      clear hc hc0 hj hd9
      by_cases hk4 : k < 4
      · have q1 : (j : Int) < (a : Int) + 4 := by have := HJ.out; omega
        by_cases h1 : 48 ≤ c
        · have h1' : (48 : Int) ≤ (c : Int) := by omega
          by_cases h2 : c ≤ 57
          · have h2' : (c : Int) ≤ 57 := by omega
            have v2 : Hid (10 * N + (c - 48) = digV ((l.drop a).take (k + 1))) := by
              show _ = _
              rw [E1.out, digV_snoc, ← hv.out, HC.out]
            have d2 : Hid (∀ x ∈ (l.drop a).take (k + 1), 48 ≤ x.toNat ∧ x.toNat ≤ 57) := by
              intro x hx
              rw [E1.out, List.mem_append] at hx
              rcases hx with hx | hx
              · exact hd.out x hx
              · rw [List.mem_singleton.1 hx, ← HC.out]
                omega
            have le2 : 10 * N + (c - 48) ≤ 9999 := by
              have := digV_le _ d2.out (by simp; omega)
              rw [← v2.out] at this
              exact this
            have hw1 : IntKind.u8.wrap ((c : Int) - 48) = ((c - 48 : Nat) : Int) := by
              rw [IntWalk.u8_in _ (by omega)]
              omega
            have HJ2 : Hid (((j : Int) + 1) = ((a + (k + 1) : Nat) : Int)) := by show _ = _; have := HJ.out; omega
            have hjn : j < n := hlt
            clear hcd HC HC0 hv hd E1
            go_wp2_with fail
            go_roundw
            case rel => exact ⟨k + 1, 10 * N + (c - 48), by omega, by have := HJ.out; omega, by rw [HJ2.out], by go_num, le2, v2.out, d2.out, hb.out⟩
            case measure => simp [intOf]; have := HJ.out; omega
          · have h2' : ¬ (c : Int) ≤ 57 := by omega
            have hf : isDig (l.getD (a + k) 0) = false := by rw [← HJ.out, ← HC0.out, hcd.out, decide_eq_false h2, Bool.and_false]
            have HF := Lib.hid hf
            clear hf hcd ix
            have ix := IX.out j hlt (j : Int) rfl
            rw [← HC0.out, ← HC.out] at ix
            go_wp2_with fail
            go_ret2
            exact ⟨k, N, by rw [HJ.out]; rfl, ⟨hk, by have := HJ.out; have := HN.out; omega, .inr (.inr HF.out)⟩, hv.out, hN, hd.out, hb.out⟩
        · have h1' : ¬ (48 : Int) ≤ (c : Int) := by omega
          have hf : isDig (l.getD (a + k) 0) = false := by rw [← HJ.out, ← HC0.out, hcd.out, decide_eq_false h1, Bool.false_and]
          have HF := Lib.hid hf
          clear hf hcd
          go_wp2_with fail
          go_ret2
          exact ⟨k, N, by rw [HJ.out]; rfl, ⟨hk, by have := HJ.out; have := HN.out; omega, .inr (.inr HF.out)⟩, hv.out, hN, hd.out, hb.out⟩
      · have q1 : ¬ (j : Int) < (a : Int) + 4 := by have := HJ.out; omega
        clear hcd ix
        go_wp2_with fail
        go_ret2
        exact ⟨k, N, by rw [HJ.out]; rfl, ⟨hk, by have := HJ.out; have := HN.out; omega, .inl (by omega)⟩, hv.out, hN, hd.out, hb.out⟩
    · have hjn : j = n := by omega
      subst hjn
      have HJ := Lib.hid hj
      clear hj
      go_wp2_with fail
      go_ret2
      exact ⟨k, N, by rw [HJ.out]; rfl, ⟨hk, by have := HJ.out; have := HN.out; omega, .inr (.inl (by have := HJ.out; have := HN.out; omega))⟩, hv.out, hN, hd.out, hb.out⟩
end Go.Proofs.YtfallcoehmmbeaaDoor

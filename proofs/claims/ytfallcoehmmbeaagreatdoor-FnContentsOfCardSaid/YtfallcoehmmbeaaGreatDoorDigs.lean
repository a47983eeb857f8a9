
/-
  PROVED HERE: what l20Digits of the reference returns. Conditions: each theorem's own.
-/
import Derived.Test.YtfallcoehmmbeaaGreatDoorDigP
import Derived.Test.YtfallcoehmmbeaaGreatDoorTitS
import Derived.Deep.QuietTactic
import Derived.BigQuiet
set_option linter.unusedVariables false
set_option linter.unusedSimpArgs false
namespace Go.Proofs.YtfallcoehmmbeaaGreatDoor
open Go.RowKit

theorem digV_le (l : List UInt8) (hd : ∀ c ∈ l, 48 ≤ c.toNat ∧ c.toNat ≤ 57) (h : l.length ≤ 4) : digV l ≤ 9999 := by
  match l, h with
  | [], _ => simp [digV]
  | [a], _ => have ha := hd a (by simp); simp [digV]; omega
  | [a, b], _ => have ha := hd a (by simp); have hb := hd b (by simp); simp [digV]; omega
  | [a, b, c], _ => have ha := hd a (by simp); have hb := hd b (by simp); have hc := hd c (by simp); simp [digV]; omega
  | [a, b, c, d], _ => have ha := hd a (by simp); have hb := hd b (by simp); have hc := hd c (by simp); have hd' := hd d (by simp); simp [digV]; omega
theorem dtake_succ (l : List UInt8) (a k : Nat) (h : a + k < l.length) : (l.drop a).take (k + 1) = (l.drop a).take k ++ [l.getD (a + k) 0] := by
  rw [List.take_succ_eq_append_getElem (by simp; omega)]
  congr 2
  simp [List.getD, h]
/-- How far the digits go: at most four. -/
def DigTo (l : List UInt8) (a k : Nat) : Prop := k ≤ 4 ∧ a + k ≤ l.length ∧ (k = 4 ∨ a + k = l.length ∨ isDig (l.getD (a + k) 0) = false)
/-- It returns the number that the digits from a on spell, and where they end. -/
def DigPost (l : List UInt8) (a : Nat) (w : World) (e : Ending) (w' : World) : Prop :=
  ∃ k N : Nat, e = .returned (.tuple #[.int .i64 N, .int .i64 ((a + k : Nat) : Int)]) ∧ DigTo l a k ∧ N = digV ((l.drop a).take k) ∧ N ≤ 9999 ∧ (∀ c ∈ (l.drop a).take k, 48 ≤ c.toNat ∧ c.toNat ≤ 57) ∧ Below w.heap.size w w'

end Go.Proofs.YtfallcoehmmbeaaGreatDoor

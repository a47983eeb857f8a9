
/-
  PROVED HERE: rows of strings, marked, and held against their marks. Conditions: each theorem's own.
-/
import Derived.Test.YtfallcoehmmbeaaGreatDoorStr
import Derived.Test.YtfallcoehmmbeaaGreatDoorNum
import Derived.Laws.BytesArg
import Derived.Deep.RegionWith
set_option linter.unusedVariables false
set_option linter.unusedSimpArgs false
namespace Go.Proofs.YtfallcoehmmbeaaGreatDoor
open Go.RowKit

/-- The text that marks the number. -/
def mkT (N : Nat) : ByteArray := bs (109 :: Lib.decDigits N)
def mkLString (k : Int) (n : Nat) : List ByteArray := (List.range n).map fun j => mkT (k.toNat + j)
theorem mkLString_len (k : Int) (n : Nat) : (mkLString k n).length = n := by simp [mkLString]
theorem mkLString_succ (k : Int) (n : Nat) : mkLString k (n + 1) = mkLString k n ++ [mkT (k.toNat + n)] := by simp [mkLString, List.range_succ]
theorem mkLString_get (k : Int) (n j : Nat) (h : j < (mkLString k n).length) : (mkLString k n)[j] = mkT (k.toNat + j) := by simp [mkLString]
theorem strs_map (xs : List ByteArray) : xs.flatMap encS = xs.map Value.string := by
  induction xs with
  | nil => rfl
  | cons x t ih => rw [List.flatMap_cons, ih]; rfl
theorem markStr_run (k : Int) (xs : List ByteArray) (j : Nat) (h : j < xs.length) : ((mkLString k j ++ xs.drop j).flatMap encS).set j (.string (mkT (k.toNat + j))) = (mkLString k (j + 1) ++ xs.drop (j + 1)).flatMap encS := by
  have e : (mkLString k j).length = j := mkLString_len k j
  rw [strs_map, strs_map, ← List.map_set, mkLString_succ, List.drop_eq_getElem_cons h, List.set_append_right _ _ (by omega), e, Nat.sub_self, List.set_cons_zero, List.append_assoc]
  rfl

/-- What marking a row of strings leaves. -/
def MarkStrPost (k : Int) (n base : Nat) (v : Value) (w : World) (e : Ending) (w' : World) : Prop :=
  e = .returned (.int .i64 (k + n)) ∧ w'.ownsRow base 9 1 v n ((mkLString k n).flatMap encS) ∧ w.grownBy w' v.ownBlock

theorem blk_apart {vY vX : Value} {a b c d : Nat} (hY : ∀ k, vY.ownBlock = some k → a ≤ k ∧ k < b) (hX : ∀ k, vX.ownBlock = some k → c ≤ k ∧ k < d) (h : b ≤ c ∨ d ≤ a) : vY.ownBlock = none ∨ vY.ownBlock ≠ vX.ownBlock := by
  cases e : vY.ownBlock with
  | none => exact .inl rfl
  | some k =>
    right
    intro e2
    have h1 := hY k e
    have h2 := hX k e2.symm
    omega
end Go.Proofs.YtfallcoehmmbeaaGreatDoor

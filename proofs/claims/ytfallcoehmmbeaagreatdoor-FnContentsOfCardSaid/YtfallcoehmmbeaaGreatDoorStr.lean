
/-
  PROVED HERE: rows of strings: counted, copied, compared; an argument's row of strings, read. Conditions: each theorem's own.
-/
import Derived.Test.YtfallcoehmmbeaaGreatDoorCore
import Derived.Test.YtfallcoehmmbeaaGreatDoorSRow
import Derived.Test.YtfallcoehmmbeaaGreatDoorOpenS
import Derived.StillTailTactics
import Derived.OwnWalk
set_option linter.unusedVariables false
set_option linter.unusedSimpArgs false
namespace Go.Proofs.YtfallcoehmmbeaaGreatDoor
open Go.RowKit
open Go.ChangeShapes Go.WideShapes Go.Deep

def encS (s : ByteArray) : List Value := [.string s]
theorem encS_len (s : ByteArray) : (encS s).length = 1 := rfl
theorem encS_pos (s : ByteArray) : 0 < (encS s).length := by rw [encS_len]; decide
/-- Each string is of a size that a string can have. -/
def Short (xs : List ByteArray) : Prop := ∀ s ∈ xs, s.size ≤ 9223372036854775807

theorem one_string {H : Type} {en : TypeId × Value → H} {w : World} {base : Nat} {spare : Nat → Bool} {held : Bool} (cs : List Value) (y : DataW H × List MemPlace) (n : Nat) (h : DataW.trod en Tryz.prog w base spare held n 9 cs = some y) : ∃ z : ByteArray, cs = encS z ∧ z.size ≤ 9223372036854775807 := by
  obtain ⟨z, e, h2⟩ := DataW.trod_string Tryz.underlying9 h
  exact ⟨z, e, by have := h2.2; unfold maxLen at this; omega⟩

theorem info_string : (Tryz.prog.info? 9).map (fun i => (i.zero, i.size, i.bytes)) = some (some (.string ByteArray.empty), 1, 16) := by kernel_rfl
theorem take_set_succS (ys : List Value) (m : Nat) (v : Value) (h : m < ys.length) : (ys.set m v).take (m + 1) = ys.take m ++ [v] := by
  rw [List.take_succ_eq_append_getElem (by simpa using h), List.take_set_of_le (Nat.le_refl _)]
  simp

end Go.Proofs.YtfallcoehmmbeaaGreatDoor

/-
  PROVED HERE: texts as rows of bytes. Conditions: each theorem's own.
-/
import Derived.Test.YtfallcoehmmbeaaGreatDoorCore
import Derived.Test.YtfallcoehmmbeaaGreatDoorIn
import Derived.StillTailTactics
import Derived.OwnWalk
import Derived.WalkSpells
import Derived.WalkLawsBesides
set_option linter.unusedVariables false
set_option linter.unusedSimpArgs false
namespace Go.Proofs.YtfallcoehmmbeaaGreatDoor
open Go.RowKit

abbrev bs (l : List UInt8) : ByteArray := ⟨l.toArray⟩
theorem bs_append (a b : List UInt8) : bs a ++ bs b = bs (a ++ b) := by
  apply ByteArray.ext
  simp [bs]
theorem bs_extract (l : List UInt8) (a : Nat) : (bs l).extract a l.length = bs (l.drop a) := by
  apply ByteArray.ext
  simp [bs, ByteArray.data_extract]
  rw [List.take_of_length_le (by simp)]
/-- It returns this text. -/
def RetT (l : List UInt8) (w : World) (e : Ending) (w' : World) : Prop := e = .returned (.string (bs l)) ∧ Below w.heap.size w w'
/-- It returns some text that is not long. -/
def DrawTxt (w : World) (e : Ending) (w' : World) : Prop := ∃ l : List UInt8, l.length ≤ 16 ∧ e = .returned (.string (bs l)) ∧ Below w.heap.size w w'
end Go.Proofs.YtfallcoehmmbeaaGreatDoor

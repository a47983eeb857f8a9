/-
  PROVED HERE: nothing of its own: texts as rows of bytes, under this name. Conditions: none.
-/
import Derived.Test.YtfallcoehmmbeaaGreatDoorTxt
set_option linter.unusedVariables false
set_option linter.unusedSimpArgs false
namespace Go.Proofs.YtfallcoehmmbeaaGreatDoor
end Go.Proofs.YtfallcoehmmbeaaGreatDoor

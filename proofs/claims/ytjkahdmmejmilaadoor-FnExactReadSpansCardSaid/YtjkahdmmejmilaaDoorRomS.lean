/-
  PROVED HERE: nothing of its own: texts as rows of bytes, under this name. Conditions: none.
-/
import Derived.Test.YtjkahdmmejmilaaDoorTxt
set_option linter.unusedVariables false
set_option linter.unusedSimpArgs false
namespace Go.Proofs.YtjkahdmmejmilaaDoor
end Go.Proofs.YtjkahdmmejmilaaDoor

/-
  PROVED HERE: nothing of its own: texts as rows of bytes, under this name. Conditions: none.
-/
import Derived.Test.YtjkahdmmejmilaaDoorTxt
namespace Go.Proofs.YtjkahdmmejmilaaDoor
end Go.Proofs.YtjkahdmmejmilaaDoor

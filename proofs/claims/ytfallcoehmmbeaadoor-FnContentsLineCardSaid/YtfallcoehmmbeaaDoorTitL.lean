/-
  PROVED HERE: the listed tables of the library's; the door's own heap meets the condition. Conditions: each theorem's own.
-/
import Derived.Test.YtfallcoehmmbeaaDoorRows
import Derived.Test.YtfallcoehmmbeaaDoorTitI
import Derived.Test.YtfallcoehmmbeaaDoorBoth
import Derived.ProofKit
import Derived.LaidMore
import Derived.Lay
import Derived.OpenShut
import Derived.Stop.Joined
import Derived.MakeChecks
import Derived.Shelf.Vars
set_option linter.unusedVariables false
set_option linter.unusedSimpArgs false
namespace Go.Proofs.YtfallcoehmmbeaaDoor
open Go.ChangeShapes Go.WideShapes Go.ChangeAt Go.RowKit

abbrev titLaid : List (String × DataW Unit) := [("unicode/utf8.acceptRanges", Rows.laid_unicode_utf8_acceptRanges), ("unicode/utf8.first", Rows.laid_unicode_utf8_first)]
theorem maxtab_of {W : World} (h : W.ShapedOpen Tryd.prog) : MaxTab W :=
  Go.Proofs.cell_of_shapedOpen_int (zero := #[.int .i64 0]) (t := 3) h (of_decide_eq_true (by kernel_rfl)) (by kernel_rfl) rfl (by kernel_rfl) (by kernel_rfl) Tryd.underlying3
end Go.Proofs.YtfallcoehmmbeaaDoor

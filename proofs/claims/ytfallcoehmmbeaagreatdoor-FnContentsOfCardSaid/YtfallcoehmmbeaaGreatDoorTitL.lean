/-
  PROVED HERE: the listed tables of the library's; the door's own heap meets the condition. Conditions: each theorem's own.
-/
import Derived.Test.YtfallcoehmmbeaaGreatDoorRows
import Derived.Test.YtfallcoehmmbeaaGreatDoorTitI
import Derived.Test.YtfallcoehmmbeaaGreatDoorBoth
import Derived.ProofKit
import Derived.LaidMore
import Derived.Lay
import Derived.OpenShut
import Derived.Stop.Joined
import Derived.MakeChecks
import Derived.Shelf.Vars
set_option linter.unusedVariables false
set_option linter.unusedSimpArgs false
namespace Go.Proofs.YtfallcoehmmbeaaGreatDoor
open Go.ChangeShapes Go.WideShapes Go.ChangeAt Go.RowKit

abbrev titLaid : List (String × DataW Unit) := [("unicode/utf8.acceptRanges", Rows.laid_unicode_utf8_acceptRanges), ("unicode/utf8.first", Rows.laid_unicode_utf8_first)]
theorem maxtab_of {W : World} (h : W.ShapedOpen Tryz.prog) : MaxTab W :=
  Go.Proofs.cell_of_shapedOpen_int (zero := #[.int .i64 0]) (t := 3) h (of_decide_eq_true (by kernel_rfl)) (by kernel_rfl) rfl (by kernel_rfl) (by kernel_rfl) Tryz.underlying3
end Go.Proofs.YtfallcoehmmbeaaGreatDoor

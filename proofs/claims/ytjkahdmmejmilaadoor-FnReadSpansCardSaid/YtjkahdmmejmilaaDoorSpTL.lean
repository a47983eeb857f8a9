/-
  PROVED HERE: the listed tables of the library's, for the texts of ranges. Conditions: each theorem's own.
-/
import Derived.Test.YtjkahdmmejmilaaDoorRows
import Derived.Test.YtjkahdmmejmilaaDoorSpTxt
import Derived.Test.YtjkahdmmejmilaaDoorBoth
import Derived.ProofKit
import Derived.LaidMore
import Derived.Lay
import Derived.OpenShut
import Derived.Stop.Joined
import Derived.MakeChecks
import Derived.Shelf.Vars
import Derived.Lib.LaidTab
set_option linter.unusedVariables false
set_option linter.unusedSimpArgs false
namespace Go.Proofs.YtjkahdmmejmilaaDoor
open Go.ChangeShapes Go.WideShapes Go.ChangeAt Go.RowKit

abbrev sptLaid : List (String × DataW Unit) := [("math/bits.deBruijn32tab", Rows.laid_math_bits_deBruijn32tab), ("math/bits.deBruijn64tab", Rows.laid_math_bits_deBruijn64tab), ("internal/strconv.uint64pow10", Rows.laid_internal_strconv_uint64pow10)]
theorem tPow : (Tryd.prog.globals[3]?).map (·.type) = some 109 := by kernel_rfl
theorem laid_pow : (Rows.laid_internal_strconv_uint64pow10 : DataW Unit) = Lib.tabData .u64 Lib.pow10Tab := by kernel_rfl
theorem laidTail {P : Program} {w : World} {x : String × DataW Unit} {rest : List (String × DataW Unit)} (h : laidMet P (x :: rest) w) : laidMet P rest w := by
  obtain ⟨ps, ⟨g, t, cs, fuel, p, q, _, _, _, _, hq, rfl⟩, hn, hc⟩ := h
  exact ⟨q, hq, (List.nodup_append.1 hn).2.1, fun b off hm => hc b off (List.mem_append_right _ hm)⟩
theorem pwTab_of {W : World} (h : laidMetH Tryd.prog sptLaid W) : PwTab W := by
  rw [MakeChecks.laidMetH_plain _ _ _ (by kernel_rfl)] at h
  have h2 := laidTail (laidTail h)
  rw [laid_pow] at h2
  exact Lib.tabIs_of_head gPow tPow Tryd.underlying109 Tryd.underlying96 (by kernel_rfl) (by kernel_rfl) h2
end Go.Proofs.YtjkahdmmejmilaaDoor

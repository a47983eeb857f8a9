/-
  PROVED HERE: the listed tables and errors of the library's, for lines that are read. Conditions: each theorem's own.
-/
import Derived.Test.YtfallcoehmmbeaaGreatDoorCtL
import Derived.Test.YtfallcoehmmbeaaGreatDoorCtRI
import Derived.LaidLaws
set_option linter.unusedVariables false
set_option linter.unusedSimpArgs false
namespace Go.Proofs.YtfallcoehmmbeaaGreatDoor
open Go.ChangeShapes Go.WideShapes Go.ChangeAt Go.RowKit

abbrev rdLaid : List (String × DataW Unit) := [("math/bits.deBruijn32tab", Rows.laid_math_bits_deBruijn32tab), ("math/bits.deBruijn64tab", Rows.laid_math_bits_deBruijn64tab), ("internal/strconv.uint64pow10", Rows.laid_internal_strconv_uint64pow10), ("unicode/utf8.acceptRanges", Rows.laid_unicode_utf8_acceptRanges), ("strconv.ErrRange", Rows.laid_strconv_ErrRange), ("strconv.ErrSyntax", Rows.laid_strconv_ErrSyntax), ("unicode/utf8.first", Rows.laid_unicode_utf8_first)]
theorem err_of_head {P : Program} {W : World} {n nm : String} {d : DataW Unit} {rest : List (String × DataW Unit)} {g : Nat} {t : TypeId} {ms : Array (String × TypeId)}
    (hg : P.globalNamed n = some g) (hty : (P.globals[g]?).map (·.type) = some t) (hi : P.underlying t = some (.interface ms)) (h : laidMet P ((n, .iface nm d) :: rest) W) : ∃ tp p, W.cell? ⟨g, 0, none⟩ = some (.iface tp p) := by
  obtain ⟨ps, ⟨g', t', cs, fuel, p, q, hg', ht', hvar, hd, _, _⟩, _⟩ := h
  obtain rfl := Option.some.inj (hg.symm.trans hg')
  obtain rfl := Option.some.inj (hty.symm.trans ht')
  obtain ⟨f', u, v, e, _, _⟩ := iface_of_trod hi hd
  have hc := World.var?_cell hg hvar 0
  refine ⟨u, v, hc.trans ?_⟩
  rw [← Array.getElem?_toList, e]
  rfl
theorem gRange : Tryz.prog.globalNamed "strconv.ErrRange" = some 2 := by kernel_rfl
theorem gSyntax : Tryz.prog.globalNamed "strconv.ErrSyntax" = some 1 := by kernel_rfl
theorem tRange : (Tryz.prog.globals[2]?).map (·.type) = some 49 := by kernel_rfl
theorem tSyntax : (Tryz.prog.globals[1]?).map (·.type) = some 49 := by kernel_rfl
theorem rdtab_of {W : World} (h : laidMetH Tryz.prog rdLaid W) (hs : W.ShapedOpen Tryz.prog) : RdTab W := by
  rw [MakeChecks.laidMetH_plain _ _ _ (by kernel_rfl)] at h
  have h2 := laidTail (laidTail h)
  have h4 := laidTail (laidTail h2)
  have h5 := laidTail h4
  refine ⟨⟨maxtab_of hs, ?_⟩, ?_, ?_⟩
  · rw [laid_pow] at h2
    exact Lib.tabIs_of_head gPow tPow Tryz.underlying122 Tryz.underlying91 (by kernel_rfl) (by kernel_rfl) h2
  · exact err_of_head gSyntax tSyntax Tryz.underlying49 h5
  · exact err_of_head gRange tRange Tryz.underlying49 h4
end Go.Proofs.YtfallcoehmmbeaaGreatDoor

/-
  PROVED HERE: an argument's row of numbers, read. Conditions: each theorem's own.
-/
import Derived.Test.YtnlhlgefaamdgaaCore
import Derived.Test.YtnlhlgefaamdgaaOpenS
set_option linter.unusedVariables false
set_option linter.unusedSimpArgs false
namespace Go.Proofs.Ytnlhlgefaamdgaa
open Go.RowKit
open Go.ChangeShapes Go.WideShapes Go.Deep

def encI (x : Int) : List Value := [.int .i64 x]
theorem one_int {H : Type} {en : TypeId × Value → H} {w : World} {base : Nat} {spare : Nat → Bool} {held : Bool} (cs : List Value) (y : DataW H × List MemPlace) (n : Nat) (h : DataW.trod en Try.prog w base spare held n 3 cs = some y) : ∃ z : Int, cs = encI z ∧ True := by
  obtain ⟨z, e, _⟩ := DataW.trod_int Try.underlying3 h
  exact ⟨z, e, trivial⟩
theorem IRow.of_srow {w : World} {v : Value} {xs : List Int} (h : SRow 1 encI w v xs) : IRow w v xs := by
  obtain ⟨a, cap, hv, hl, hc⟩ := h
  refine ⟨a, cap, hv, hl, fun j hj => ?_⟩
  obtain ⟨b, off, ha, h'⟩ := hc j hj
  refine ⟨b, off, ha, ?_⟩
  have := h' 0 _ rfl
  simpa [List.getD, hj] using this
end Go.Proofs.Ytnlhlgefaamdgaa

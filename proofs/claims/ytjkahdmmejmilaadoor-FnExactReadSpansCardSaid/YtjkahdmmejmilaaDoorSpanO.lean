/-
  PROVED HERE: an argument's row of ranges, read. Conditions: each theorem's own.
-/
import Derived.Test.YtjkahdmmejmilaaDoorSpanV
import Derived.Test.YtjkahdmmejmilaaDoorOpenS
import Derived.StillTailTactics
import Derived.OwnWalk
set_option linter.unusedVariables false
set_option linter.unusedSimpArgs false
namespace Go.Proofs.YtjkahdmmejmilaaDoor
open Go.RowKit
set_option maxRecDepth 100000
open Go.ChangeShapes Go.WideShapes Go.Deep

theorem one_Span {H : Type} {en : TypeId × Value → H} {w : World} {base : Nat} {spare : Nat → Bool} {held : Bool} (cs : List Value) (y : DataW H × List MemPlace) (n : Nat) (h : DataW.trod en Tryd.prog w base spare held n 43 cs = some y) : ∃ z : DSpan, cs = encSpan z ∧ True := by
  obtain ⟨xs, k, _, _, hl, hxl, hf⟩ := DataW.trod_struct Tryd.underlying43 h
  have c : Tryd.prog.cellsOf 43 = 2 := by kernel_rfl
  have k_int : Tryd.prog.cellsOf 3 = 1 := by kernel_rfl
  rw [c] at hl
  match cs, xs, hl, hxl with
  | [c0, c1], [y0, y1], _, _ =>
    have g0 := hf 0 _ rfl
    simp [k_int] at g0
    obtain ⟨z0, e0, _⟩ := DataW.trod_int Tryd.underlying3 g0
    simp at e0
    have g1 := hf 1 _ rfl
    simp [k_int] at g1
    obtain ⟨z1, e1, _⟩ := DataW.trod_int Tryd.underlying3 g1
    simp at e1
    subst e0 e1
    exact ⟨⟨z0, z1⟩, rfl, trivial⟩
end Go.Proofs.YtjkahdmmejmilaaDoor

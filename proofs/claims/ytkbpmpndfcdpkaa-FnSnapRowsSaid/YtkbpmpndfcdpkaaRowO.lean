/-
  PROVED HERE: an argument's row of rows, read. Conditions: each theorem's own.
-/
import Derived.Test.YtkbpmpndfcdpkaaRowV
import Derived.Test.YtkbpmpndfcdpkaaOpenS
import Derived.StillTailTactics
import Derived.OwnWalk
namespace Go.Proofs.Ytkbpmpndfcdpkaa
open Go.RowKit
open Go.ChangeShapes Go.WideShapes Go.Deep

theorem one_Row {H : Type} {en : TypeId × Value → H} {w : World} {base : Nat} {spare : Nat → Bool} {held : Bool} (cs : List Value) (y : DataW H × List MemPlace) (n : Nat) (h : DataW.trod en Try.prog w base spare held n 55 cs = some y) : ∃ z : DRow, cs = encRow z ∧ True := by
  obtain ⟨xs, k, _, _, hl, hxl, hf⟩ := DataW.trod_struct Try.underlying55 h
  have c : Try.prog.cellsOf 55 = 4 := by kernel_rfl
  have k_int : Try.prog.cellsOf 3 = 1 := by kernel_rfl
  have k_bool : Try.prog.cellsOf 4 = 1 := by kernel_rfl
  rw [c] at hl
  match cs, xs, hl, hxl with
  | [c0, c1, c2, c3], [y0, y1, y2, y3], _, _ =>
    have g0 := hf 0 _ rfl
    simp [k_int] at g0
    obtain ⟨z0, e0, _⟩ := DataW.trod_int Try.underlying3 g0
    simp at e0
    have g1 := hf 1 _ rfl
    simp [k_bool] at g1
    obtain ⟨z1, e1, _⟩ := DataW.trod_bool Try.underlying4 g1
    simp at e1
    have g2 := hf 2 _ rfl
    simp [k_int] at g2
    obtain ⟨z2, e2, _⟩ := DataW.trod_int Try.underlying3 g2
    simp at e2
    have g3 := hf 3 _ rfl
    simp [k_int] at g3
    obtain ⟨z3, e3, _⟩ := DataW.trod_int Try.underlying3 g3
    simp at e3
    subst e0 e1 e2 e3
    exact ⟨⟨z0, z1, z2, z3⟩, rfl, trivial⟩
end Go.Proofs.Ytkbpmpndfcdpkaa

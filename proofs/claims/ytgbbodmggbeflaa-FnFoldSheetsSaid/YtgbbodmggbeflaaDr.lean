/-
  PROVED HERE: while a drawing function draws: the reader stands, nothing else that was there turns; rows of its own are kept. Conditions: each lemma's own.
-/
import Derived.Test.YtgbbodmggbeflaaRdTo
set_option linter.unusedVariables false
set_option linter.unusedSimpArgs false
namespace Go.Proofs.Ytgbbodmggbeflaa
open Go.RowKit

/-- In the midst of drawing: at most m bytes in; all but the reader's block is as it was. -/
def Dr (w wx : World) (B m : Nat) : Prop := RdTo B m wx ∧ w.grownBy wx (some B) ∧ B < w.heap.size
theorem Dr.start {w : World} {B m : Nat} (h : RdTo B m w) : Dr w w B m := ⟨h, grownBy_refl _ _, h.lt⟩
theorem Dr.size {w wx : World} {B m : Nat} (h : Dr w wx B m) : w.heap.size ≤ wx.heap.size := h.2.1.size
theorem Dr.mono {w wx : World} {B m m' : Nat} (h : Dr w wx B m) (hm : m ≤ m') : Dr w wx B m' := ⟨h.1.mono hm, h.2⟩
theorem Dr.pick {w wx w' : World} {B m m' : Nat} (h : Dr w wx B m) (hg : wx.grownBy w' (some B)) (hr : RdTo B m' w') : Dr w w' B m' := ⟨hr, grownBy_trans h.2.1 hg, h.2.2⟩
theorem Dr.alloc {w wx : World} {B m : Nat} (h : Dr w wx B m) (o : Obj) : Dr w (wx.alloc o) B m :=
  ⟨h.1.kept (World.grownBy_alloc wx o none) (by intro k h; cases h), grownBy_trans h.2.1 (World.grownBy_alloc wx o _), h.2.2⟩
theorem Dr.push {w wx w' : World} {B m base : Nat} {E : TypeId} {sz n : Nat} {v : Value} {xs : List Value} (h : Dr w wx B m) (ho : wx.ownsRow base E sz v n xs) (hb : w.heap.size ≤ base) (hg : wx.grownBy w' v.ownBlock) : Dr w w' B m := by
  obtain ⟨h1, h2, h3⟩ := h
  refine ⟨h1.past hg (fun k hk => by have := (ho.lt k hk).1; omega), ⟨hg.os.trans h2.os, hg.tape.trans h2.tape, hg.output.trans h2.output, Nat.le_trans h2.size hg.size, fun k hk hne => ?_⟩, h3⟩
  exact (hg.block k (by have := h2.size; omega) (owns_neq ho (.inl (by omega)))).trans (h2.block k hk hne)
theorem Dr.below {w w0 wx : World} {B m : Nat} (h : Dr w wx B m) (hb : Below w0.heap.size w0 w) (hB : w0.heap.size ≤ B) : Below w0.heap.size w0 wx :=
  hb.grown h.2.1 (by have := hb.size; omega) (fun j hj => by cases hj; exact hB)
/-- a row of its own is kept by a pick -/
theorem own_pick {wx w' : World} {B base : Nat} {E : TypeId} {sz n : Nat} {v : Value} {xs : List Value} (ho : wx.ownsRow base E sz v n xs) (hB : B < base) (hg : wx.grownBy w' (some B)) : w'.ownsRow base E sz v n xs :=
  ho.kept hg (.inr (owns_neq ho (.inl hB)).symm)
/-- the cell of a literal row that has just been laid, behind a pick -/
theorem lit_pick {wx w' : World} {B m : Nat} (l : List Int) (t : TypeId) (hr : RdTo B m wx) (hg : (wx.alloc (.cells (l.map (Value.int .i64)).toArray t)).grownBy w' (some B)) (k : Int) (h0 : 0 ≤ k) (hk : k < l.length) :
    ∃ z, z ∈ l ∧ w'.cell? ⟨wx.heap.size, k.toNat, none⟩ = some (.int .i64 z) := by
  obtain ⟨z, hz, hc⟩ := lit_cell wx l t k.toNat (by omega)
  exact ⟨z, hz, hg.cell hc (by have := hr.lt; simp; omega)⟩
end Go.Proofs.Ytgbbodmggbeflaa

/-
  PROVED HERE: what the library's Atoi returns at every text, where its two errors' variables hold errors. Conditions: the theorem's own.
-/
import Derived.Test.YtfallcoehmmbeaaGreatDoorShelf2
import Derived.Test.YtfallcoehmmbeaaGreatDoorTxt
import Derived.LaidLaws
import Derived.WalkSmall
set_option linter.unusedVariables false
set_option linter.unusedSimpArgs false
namespace Go.Proofs.YtfallcoehmmbeaaGreatDoor
open Go.RowKit

/-- The library's two errors are there. -/
def ErrTab (w : World) : Prop := (∃ tp p, w.cell? ⟨1, 0, none⟩ = some (.iface tp p)) ∧ ∃ tp p, w.cell? ⟨2, 0, none⟩ = some (.iface tp p)
theorem cell_kept {w w' : World} {b o B : Nat} {u : Value} (h : w.cell? ⟨b, o, none⟩ = some u) (hb : Below B w w') (hB : w.heap.size ≤ B) : w'.cell? ⟨b, o, none⟩ = some u :=
  (hb.cell (p := ⟨b, o, none⟩) (Nat.lt_of_lt_of_le (World.block_lt_of_cell? w _ h) hB)).trans h
theorem ErrTab.below {w w' : World} {B : Nat} (h : ErrTab w) (hb : Below B w w') (hB : w.heap.size ≤ B) : ErrTab w' := by
  obtain ⟨⟨a, b, h1⟩, c, d, h2⟩ := h
  exact ⟨⟨a, b, cell_kept h1 hb hB⟩, c, d, cell_kept h2 hb hB⟩
/-- A number and no error, where the text spells one; else some number and an error. -/
def AtoiPost (l : List UInt8) (w : World) (e : Ending) (w' : World) : Prop :=
  ∃ (n : Int) (ev : Value), e = .returned (.tuple #[.int .i64 n, ev]) ∧ ((Lib.atoiAll l = .ok n ∧ ev = .nilIface) ∨ ((∀ v, Lib.atoiAll l ≠ .ok v) ∧ ∃ t p, ev = .iface t p)) ∧ Below w.heap.size w w'
theorem atoi_any (l : List UInt8) (hl : l.length ≤ 4000000) (w : World) (he : ErrTab w) : Calls Tryz.prog 18 #[.string (bs l)] w (AtoiPost l w) := by
  have hs : (bs l).size = l.length := by simp [ByteArray.size]
  have hd : (bs l).data.toList = l := by simp
  obtain ⟨⟨a, b, h1⟩, c, d, h2⟩ := he
  rcases h : Lib.atoiAll l with v | _ | _
  · skip
    refine (Tryz.strconv_Atoi_ok (bs l) (by rw [hs]; omega) v (by rw [hd]; exact h) w).mono ?_
    rintro e w' ⟨rfl, hw⟩
    refine ⟨v, .nilIface, rfl, .inl ⟨h, rfl⟩, ?_⟩
    rcases hw with rfl | ⟨t, rfl⟩
    · exact Below.refl _ _
    · exact Lib.bytesWorld_below _ _ _
  · skip
    refine (Tryz.strconv_Atoi_syntax (bs l) (by rw [hs]; omega) (by rw [hd]; exact h) _ w h1 (.inr ⟨a, b, rfl⟩)).mono ?_
    rintro e w' ⟨N, rfl, _, _, hb⟩
    exact ⟨_, _, rfl, .inr ⟨(fun v hv => by rw [h] at hv; cases hv), _, _, rfl⟩, hb⟩
  · skip
    refine (Tryz.strconv_Atoi_range (bs l) (by rw [hs]; omega) (by rw [hd]; exact h) _ w h2 (.inr ⟨c, d, rfl⟩)).mono ?_
    rintro e w' ⟨N, rfl, _, _, hb⟩
    exact ⟨_, _, rfl, .inr ⟨(fun v hv => by rw [h] at hv; cases hv), _, _, rfl⟩, hb⟩
end Go.Proofs.YtfallcoehmmbeaaGreatDoor

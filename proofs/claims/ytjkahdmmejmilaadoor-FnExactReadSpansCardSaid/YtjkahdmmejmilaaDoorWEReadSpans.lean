/-
  PROVED HERE: what the text of the law FnExactReadSpans does: it returns true and turns nothing that was there. Conditions: the walk's own.
-/
import Derived.Test.YtjkahdmmejmilaaDoorSpanC
import Derived.Test.YtjkahdmmejmilaaDoorSpanH
import Derived.Test.YtjkahdmmejmilaaDoorSpanO
import Derived.Test.YtjkahdmmejmilaaDoorSpRJ
set_option linter.unusedVariables false
set_option linter.unusedSimpArgs false
namespace Go.Proofs.YtjkahdmmejmilaaDoor
open Go.RowKit

theorem blk_apart {vY vX : Value} {a b c d : Nat} (hY : ∀ k, vY.ownBlock = some k → a ≤ k ∧ k < b) (hX : ∀ k, vX.ownBlock = some k → c ≤ k ∧ k < d) (h : b ≤ c ∨ d ≤ a) : vY.ownBlock = none ∨ vY.ownBlock ≠ vX.ownBlock := by
  cases e : vY.ownBlock with
  | none => exact .inl rfl
  | some k =>
    right
    intro e2
    have h1 := hY k e
    have h2 := hX k e2.symm
    omega
/-- It returns ranges of its own, and whether there are any. -/
def SpRB (ys : List DSpan) (b : Bool) (w : World) (e : Ending) (w' : World) : Prop := ∃ v, e = .returned (.tuple #[v, .bool b]) ∧ w'.ownsRow w.heap.size 41 2 v ys.length (ys.flatMap encSpan) ∧ Below w.heap.size w w'
theorem spRes_ex (l : List UInt8) : ∃ ys b, SpRes l ys b ∧ ys.length ≤ 10 := by
  by_cases h : ∃ xs, SpIs xs l
  · obtain ⟨xs, hx⟩ := h
    exact ⟨xs, true, .inl ⟨rfl, hx⟩, (spB_all hx.1).1⟩
  · exact ⟨[], false, .inr ⟨rfl, rfl, fun xs hx => h ⟨xs, hx⟩⟩, by simp⟩
theorem retSp_to {l : List UInt8} {ys : List DSpan} {b : Bool} (h : SpRes l ys b) {w : World} {e : Ending} {w' : World} (k : RetSp l w e w') : SpRB ys b w e w' := by
  obtain ⟨xs, v, c, he, hr, ho, hb⟩ := k
  obtain ⟨rfl, rfl⟩ := hr.uniq h
  exact ⟨v, he, ho, hb⟩

set_option maxHeartbeats 8000000 in
theorem fnExactReadSpans_walk (s : ByteArray) (_ : s.size ≤ maxLen) (w : World) (ht : RdTab w) : Calls Tryd.prog 5 #[.string s] w (Ret (.bool true) w) := by
  obtain ⟨l, rfl⟩ : ∃ l, s = bs l := ⟨s.data.toList, rfl⟩
  by_cases hl : l.length ≤ 1048576
  · obtain ⟨ys, bt, hres, hyl⟩ := spRes_ex l
    have HSP : Hid (∀ w, Calls Tryd.prog 17 #[.string (bs l)] w (SpRB ys bt w)) := fun w => (specReadSp_any l (by omega) w).mono fun _ _ h => retSp_to hres h
    have HIM : Hid (∀ w, RdTab w → Calls Tryd.prog 15 #[.string (bs l)] w (SpRB ys bt w)) := fun w h => (implReadSp_any l (by omega) w h).mono fun _ _ h => retSp_to hres h
    have TABF : Hid (∀ w', Below w.heap.size w w' → RdTab w') := fun w' hb => ht.below hb (Nat.le_refl _)
    clear ht hres
    go_enter Tryd.func5, Tryd.ntmps5
    have B0 : Below w.heap.size w w := Below.refl _ _
    go_wp2_with fail
    refine (HSP.out w).mono ?_
    rintro e w1 ⟨vs, rfl, o_s_1, b1⟩
    have K_s := o_s_1.lt
    have S1 : w.heap.size ≤ w1.heap.size := b1.size
    have B1 := below_next B0 b1 (Nat.le_refl _)
    clear b1 B0 
    have r_s_1 := SRow.of_owns (xs := ys) encSpan_len rfl o_s_1
    go_wp2_with fail
    refine (HIM.out w1 (TABF.out _ (by assumption))).mono ?_
    rintro e w2 ⟨vg, rfl, o_g_2, b2⟩
    have K_g := o_g_2.lt
    have S2 : w1.heap.size ≤ w2.heap.size := b2.size
    have B2 := below_next B1 b2 (Nat.le_refl _)
    have r_s_2 := r_s_1.below b2
    have o_s_2 := owns_below o_s_1 b2
    clear b2 B1 r_s_1 o_s_1
    have r_g_2 := SRow.of_owns (xs := ys) encSpan_len rfl o_g_2
    go_wp2_with fail
    refine (eqSpanS_any vg vs ys w2 r_g_2 r_s_2).mono ?_
    rintro e w3 ⟨rfl, b3⟩
    have S3 : w2.heap.size ≤ w3.heap.size := b3.size
    have B3 := below_next B2 b3 (Nat.le_refl _)
    have r_s_3 := r_s_2.below b3
    have o_s_3 := owns_below o_s_2 b3
    have r_g_3 := r_g_2.below b3
    have o_g_3 := owns_below o_g_2 b3
    clear b3 B2 r_s_2 o_s_2 r_g_2 o_g_2
    go_wp2_with fail
    refine (markSpanS_any vg ys (1) _ w3 o_g_3 (by omega) (by omega) (by omega)).mono ?_
    rintro e w4 ⟨rfl, o_g_4, g4⟩
    have S4 : w3.heap.size ≤ w4.heap.size := g4.size
    have B4 := below_grown B3 g4 o_g_3 (by omega) (Nat.le_refl _)
    have o_s_4 := o_s_3.kept g4 (blk_apart K_s K_g (by omega))
    have r_s_4 := SRow.of_owns (xs := ys) encSpan_len rfl o_s_4
    have r_g_4 := SRow.of_owns (xs := mkLSpan (1) ys.length) encSpan_len (mkLSpan_len (1) ys.length) o_g_4
    go_wp2_with fail
    refine (heldSpanS_any vg ys.length 1 w4 r_g_4 (by omega) (by omega) (by omega)).mono ?_
    rintro e w5 ⟨rfl, b5⟩
    have S5 : w4.heap.size ≤ w5.heap.size := b5.size
    have B5 := below_next B4 b5 (Nat.le_refl _)
    have r_s_5 := r_s_4.below b5
    have o_s_5 := owns_below o_s_4 b5
    have r_g_5 := r_g_4.below b5
    have o_g_5 := owns_below o_g_4 b5
    clear b5 B4 r_s_4 o_s_4 r_g_4 o_g_4
    go_wp2_with fail
    refine (HIM.out w5 (TABF.out _ (by assumption))).mono ?_
    rintro e w6 ⟨vk, rfl, o_k_6, b6⟩
    have K_k := o_k_6.lt
    have S6 : w5.heap.size ≤ w6.heap.size := b6.size
    have B6 := below_next B5 b6 (Nat.le_refl _)
    have r_s_6 := r_s_5.below b6
    have o_s_6 := owns_below o_s_5 b6
    have r_g_6 := r_g_5.below b6
    have o_g_6 := owns_below o_g_5 b6
    clear b6 B5 r_s_5 o_s_5 r_g_5 o_g_5
    have r_k_6 := SRow.of_owns (xs := ys) encSpan_len rfl o_k_6
    go_wp2_with fail
    refine (eqSpanS_any vk vs ys w6 r_k_6 r_s_6).mono ?_
    rintro e w7 ⟨rfl, b7⟩
    have S7 : w6.heap.size ≤ w7.heap.size := b7.size
    have B7 := below_next B6 b7 (Nat.le_refl _)
    have r_s_7 := r_s_6.below b7
    have o_s_7 := owns_below o_s_6 b7
    have r_g_7 := r_g_6.below b7
    have o_g_7 := owns_below o_g_6 b7
    have r_k_7 := r_k_6.below b7
    have o_k_7 := owns_below o_k_6 b7
    clear b7 B6 r_s_6 o_s_6 r_g_6 o_g_6 r_k_6 o_k_6
    go_wp2_with fail
    refine (heldSpanS_any vg ys.length 1 w7 r_g_7 (by omega) (by omega) (by omega)).mono ?_
    rintro e w8 ⟨rfl, b8⟩
    have S8 : w7.heap.size ≤ w8.heap.size := b8.size
    have B8 := below_next B7 b8 (Nat.le_refl _)
    have r_s_8 := r_s_7.below b8
    have o_s_8 := owns_below o_s_7 b8
    have r_g_8 := r_g_7.below b8
    have o_g_8 := owns_below o_g_7 b8
    have r_k_8 := r_k_7.below b8
    have o_k_8 := owns_below o_k_7 b8
    clear b8 B7 r_s_7 o_s_7 r_g_7 o_g_7 r_k_7 o_k_7
    have FIN := Lib.hid B8
    clear B8 K_g K_k K_s o_g_8 o_k_8 o_s_8 r_g_8 r_k_8 r_s_8
    go_wp2
    go_ret
    exact ⟨rfl, FIN.out⟩
  · clear ht
    go_enter Tryd.func5, Tryd.ntmps5
    go_wp2
    go_ret
    exact ⟨rfl, Below.refl _ _⟩
end Go.Proofs.YtjkahdmmejmilaaDoor

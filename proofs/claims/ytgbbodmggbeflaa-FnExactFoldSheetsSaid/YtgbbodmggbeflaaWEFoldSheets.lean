/-
  PROVED HERE: what the text of the law FnExactFoldSheets does: it returns true and turns nothing that was there. Conditions: the walk's own.
-/
import Derived.Test.YtgbbodmggbeflaaSheetT
import Derived.Test.YtgbbodmggbeflaaFoldI
namespace Go.Proofs.Ytgbbodmggbeflaa
open Go.RowKit

theorem owns_only {w w' : World} {base lo hi : Nat} {e : TypeId} {size : Nat} {v : Value} {n : Nat} {xs : List Value} (h : w.ownsRow base e size v n xs) (ho : Only lo hi w w') (hne : ∀ k, v.ownBlock = some k → k < lo ∨ hi ≤ k) : w'.ownsRow base e size v n xs := by
  refine ⟨h.1, h.2.imp id fun ⟨g, cap, cur, e, hb', hc, r⟩ => ?_⟩
  subst e
  exact ⟨g, cap, cur, rfl, hb', (ho.block g (h.lt g rfl).2 (hne g rfl)).trans hc, r⟩
theorem foldR_len (xs : List (List Int)) : (foldR xs).length ≤ 400 := by
  unfold foldR
  split
  · rename_i h
    have := (foldOk_inv h).1
    rw [List.length_append, foldF_len _ _ (Nat.le_refl _), foldB_len]
    omega
  · simp

set_option maxHeartbeats 4000000 in
theorem fnExactFoldSheets_walk (w : World) (v : Value) (xs : List (List Int)) (h : SheetR w v xs) :
    Calls Try.prog 13 #[v] w (Ret (.bool true) w) := by
  have SH := Lib.hid h
  obtain ⟨ys, hys⟩ : ∃ ys, ys = foldR xs := ⟨_, rfl⟩
  have hyl : ys.length ≤ 400 := by rw [hys]; exact foldR_len xs
  have S1 := fun v w (h : SheetR w v xs) => (hys ▸ specFold_any v xs w h : Calls Try.prog 45 #[v] w (FoldPost ys w))
  have S2 := fun v w (h : SheetR w v xs) => (hys ▸ implFold_any v xs w h : Calls Try.prog 43 #[v] w (FoldPost ys w))
  have S1 := Lib.hid S1
  have S2 := Lib.hid S2
  have SZ := Lib.hid (szSheetS_any v xs 1048576 w h (by omega) (by omega))
  clear h hys
  go_enter Try.func13, Try.ntmps13
  go_wp2_with (go_at_call 44; refine (SZ.out).mono ?_)
  rintro e w1 ⟨⟨r, rfl, hr⟩, b1⟩
  have B1 := Lib.hid b1
  clear b1 SZ
  rcases hr with rfl | ⟨hr0, hr1⟩
  · go_wp2
    go_ret
    exact ⟨rfl, B1.out⟩
  · have hxl : xs.length ≤ 1048576 := by omega
    have htot : totS xs ≤ 1048576 := by omega
    have hr2 : ¬ r < 0 := by omega
    have TO := Lib.hid (fun w h => toSheetS_any v xs w h hxl htot)
    clear hr1
    go_wp2_with (go_at_call 46; refine (TO.out _ (SH.out.below B1.out)).mono ?_)
    rintro e w2 ⟨v2, rfl, o2, b2⟩
    have R2 := Lib.hid o2.read
    have B2 := Lib.hid (below_next B1.out b2 (Nat.le_refl _))
    clear o2 b2 B1
    go_wp2_with (go_at_call 45; refine (S1.out _ _ R2.out).mono ?_)
    rintro e w3 ⟨v3, rfl, o3, b3⟩
    have B3 := Lib.hid (below_next B2.out b3 (Nat.le_refl _))
    have I3 := Lib.hid (IRow.of_owns o3)
    have L3 := Lib.hid (fun k e => (o3.lt k e).2)
    clear o3 b3 R2 B2
    go_wp2_with (go_at_call 46; refine (TO.out _ (SH.out.below B3.out)).mono ?_)
    rintro e w4 ⟨v4, rfl, ⟨us, o4⟩, b4⟩
    have O4 := Lib.hid o4
    have B4 := Lib.hid (below_next B3.out b4 (Nat.le_refl _))
    have B34 := Lib.hid b4
    have I4 := Lib.hid (I3.out.below b4)
    clear o4 b4
    go_wp2_with (go_at_call 43; refine (S2.out _ _ (OwnSheets.read ⟨us, O4.out⟩)).mono ?_)
    rintro e w5 ⟨v5, rfl, o5, b5⟩
    have O5 := Lib.hid o5
    have L5 := Lib.hid (fun k e => (o5.lt k e).1)
    have B5 := Lib.hid (below_next B4.out b5 (Nat.le_refl _))
    have S5 := Lib.hid (Nat.le_trans B34.out.size b5.size)
    have I5 := Lib.hid (I4.out.below b5)
    have X5 := Lib.hid (O4.out.kept (w' := w5) (fun k _ _ h => b5.block k h))
    clear o5 b5 I4
    go_wp2_with (go_at_call 21; refine (eqIntS_any v5 v3 ys w5 (IRow.of_owns O5.out) I5.out).mono ?_)
    rintro e w6 ⟨rfl, b6⟩
    have O6 := Lib.hid (owns_below O5.out b6)
    have B6 := Lib.hid (below_next B5.out b6 (Nat.le_refl _))
    have S6 := Lib.hid (Nat.le_trans S5.out b6.size)
    have I6 := Lib.hid (I5.out.below b6)
    have X6 := Lib.hid (X5.out.kept (w' := w6) (fun k _ _ h => b6.block k h))
    clear b6 I5 O5 X5 B5 S5
    go_wp2_with (go_at_call 46; refine (TO.out _ (SH.out.below B6.out)).mono ?_)
    rintro e w7 ⟨v7, rfl, o7, b7⟩
    have R7 := Lib.hid o7.read
    have O7 := Lib.hid (owns_below O6.out b7)
    have B7 := Lib.hid (below_next B6.out b7 (Nat.le_refl _))
    have S7 := Lib.hid (Nat.le_trans S6.out b7.size)
    have I7 := Lib.hid (I6.out.below b7)
    have X7 := Lib.hid (X6.out.kept (w' := w7) (fun k _ _ h => b7.block k h))
    clear o7 b7 I6 O6 X6 B6 S6
    go_wp2_with (go_at_call 38; refine (eqSheetS_any v4 v7 xs w7 (OwnSheets.read ⟨us, X7.out⟩) R7.out).mono ?_)
    rintro e w8 ⟨rfl, b8⟩
    have O8 := Lib.hid (owns_below O7.out b8)
    have B8 := Lib.hid (below_next B7.out b8 (Nat.le_refl _))
    have S8 := Lib.hid (Nat.le_trans S7.out b8.size)
    have I8 := Lib.hid (I7.out.below b8)
    have X8 := Lib.hid (X7.out.kept (w' := w8) (fun k _ _ h => b8.block k h))
    clear b8 R7 I7 O7 X7 B7 S7
    go_wp2_with (go_at_call 39; refine (markSheetS_any v4 xs us 1 w3.heap.size w4.heap.size w8 X8.out (by omega) (by omega) (by omega)).mono ?_)
    rintro e w9 ⟨rfl, _, g9⟩
    have O9 := Lib.hid (owns_only O8.out g9 (fun k e => .inr (L5.out k e)))
    have B9 := Lib.hid (B8.out.trans ((g9.below S8.out).mono B3.out.size))
    have I9 := Lib.hid (I8.out.kept (w' := w9) (fun b o e hb => World.cell?_of_block (g9.block b hb (.inl (L3.out b e)))))
    have S9 := Lib.hid (Nat.le_trans S8.out g9.size)
    have ht2 : ¬ (1 : Int) + (totS xs : Nat) < 0 := by omega
    clear g9 I8 O8 X8 B8 S8
    obtain ⟨TS, hTS⟩ : ∃ TS, TS = totS xs := ⟨_, rfl⟩
    rw [← hTS] at ht2 htot ⊢
    clear hTS
    go_wp2_with (go_at_call 21; refine (eqIntS_any v5 v3 ys w9 (IRow.of_owns O9.out) I9.out).mono ?_)
    rintro e w10 ⟨rfl, b10⟩
    have O10 := Lib.hid (owns_below O9.out b10)
    have B10 := Lib.hid (below_next B9.out b10 (Nat.le_refl _))
    have I10 := Lib.hid (I9.out.below b10)
    have S10 := Lib.hid (Nat.le_trans S9.out b10.size)
    clear b10 I9 O9 B9 S9 ht2
    go_wp2_with (go_at_call 22; refine (markIntS_any v5 ys 1 w4.heap.size w10 O10.out (by omega) (by omega) (by omega)).mono ?_)
    rintro e w11 ⟨rfl, o11, g11⟩
    have O11 := Lib.hid (IRow.of_owns (xs := iota 1 ys.length) (n := ys.length) o11)
    have B11 := Lib.hid (below_grown B10.out g11 O10.out B4.out.size (Nat.le_refl _))
    have I11 := Lib.hid (I10.out.grown g11 (fun b e e2 => by have := L3.out b e; have := L5.out b e2.symm; have := B34.out.size; omega))
    clear o11 g11 I10 O10 B10
    go_wp2_with (go_at_call 23; refine (heldIntS_any v5 ys.length 1 w11 O11.out (by omega) (by omega) (by omega)).mono ?_)
    rintro e w12 ⟨rfl, b12⟩
    have O12 := Lib.hid (O11.out.below b12)
    have B12 := Lib.hid (below_next B11.out b12 (Nat.le_refl _))
    have I12 := Lib.hid (I11.out.below b12)
    clear b12 I11 O11 B11
    go_wp2_with (go_at_call 46; refine (TO.out _ (SH.out.below B12.out)).mono ?_)
    rintro e w13 ⟨v13, rfl, o13, b13⟩
    have R13 := Lib.hid o13.read
    have O13 := Lib.hid (O12.out.below b13)
    have B13 := Lib.hid (below_next B12.out b13 (Nat.le_refl _))
    have I13 := Lib.hid (I12.out.below b13)
    clear o13 b13 I12 O12 B12
    go_wp2_with (go_at_call 43; refine (S2.out _ _ R13.out).mono ?_)
    rintro e w14 ⟨v14, rfl, o14, b14⟩
    have R14 := Lib.hid (IRow.of_owns o14)
    have O14 := Lib.hid (O13.out.below b14)
    have B14 := Lib.hid (below_next B13.out b14 (Nat.le_refl _))
    have I14 := Lib.hid (I13.out.below b14)
    clear o14 b14 I13 O13 B13 R13
    go_wp2_with (go_at_call 21; refine (eqIntS_any v14 v3 ys w14 R14.out I14.out).mono ?_)
    rintro e w15 ⟨rfl, b15⟩
    have O15 := Lib.hid (O14.out.below b15)
    have B15 := Lib.hid (below_next B14.out b15 (Nat.le_refl _))
    clear b15 I14 O14 B14 R14
    go_wp2_with (go_at_call 23; refine (heldIntS_any v5 ys.length 1 w15 O15.out (by omega) (by omega) (by omega)).mono ?_)
    rintro e w16 ⟨rfl, b16⟩
    have B16 := Lib.hid (below_next B15.out b16 (Nat.le_refl _))
    clear b16 O15 B15
    go_wp2
    go_ret
    exact ⟨rfl, B16.out⟩
end Go.Proofs.Ytgbbodmggbeflaa

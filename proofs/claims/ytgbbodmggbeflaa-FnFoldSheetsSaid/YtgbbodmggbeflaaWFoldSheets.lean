/-
  PROVED HERE: what the text of the law FnFoldSheets does: it returns true and turns nothing that was there. Conditions: the walk's own.
-/
import Derived.Test.YtgbbodmggbeflaaFoldT
import Derived.Test.YtgbbodmggbeflaaFoldI
import Derived.Deep.RegionHeld3
set_option linter.unusedVariables false
set_option linter.unusedSimpArgs false
namespace Go.Proofs.Ytgbbodmggbeflaa
open Go.RowKit
theorem keep1 {w w' : World} {b o : Nat} {u : Value} (h : w.cell? ⟨b, o, none⟩ = some u) (hb : Below w.heap.size w w') : w'.cell? ⟨b, o, none⟩ = some u :=
  (hb.cell (p := ⟨b, o, none⟩) (World.block_lt_of_cell? w _ h)).trans h
theorem fold_keep {w w' : World} {g b' off' gx L : Nat} {u : Value} {p0 p1 : Int} (h : w.cell? ⟨g, 0, none⟩ = some (u) ∧ w.cell? ⟨b', off', none⟩ = some (.int .i64 p0) ∧ w.cell? ⟨b', off' + 1, none⟩ = some (.int .i64 p1) ∧ w.cell? ⟨gx, 0, none⟩ = some (.int .i64 p1) ∧ w.cell? ⟨gx, L, none⟩ = some (.int .i64 p0)) (hb : Below w.heap.size w w') : w'.cell? ⟨g, 0, none⟩ = some (u) ∧ w'.cell? ⟨b', off', none⟩ = some (.int .i64 p0) ∧ w'.cell? ⟨b', off' + 1, none⟩ = some (.int .i64 p1) ∧ w'.cell? ⟨gx, 0, none⟩ = some (.int .i64 p1) ∧ w'.cell? ⟨gx, L, none⟩ = some (.int .i64 p0) :=
  ⟨keep1 h.1 hb, keep1 h.2.1 hb, keep1 h.2.2.1 hb, keep1 h.2.2.2.1 hb, keep1 h.2.2.2.2 hb⟩

theorem own_some' {w : World} {base : Nat} {E : TypeId} {sz n : Nat} {v : Value} {xs : List Value} (h : w.ownsRow base E sz v n xs) (hv : v ≠ .slice none 0 0) : ∃ g cap, v = .slice (some ⟨g, 0, none⟩) n cap ∧ base ≤ g ∧ g < w.heap.size ∧ n ≤ cap ∧ cap ≤ maxLen := by
  rcases h.2 with ⟨e, _⟩ | ⟨g, cap, _, rfl, hb, _, h1, h2, _⟩
  · exact absurd e hv
  · exact ⟨g, cap, rfl, hb, (h.lt g rfl).2, h1, h2⟩

set_option maxRecDepth 100000 in
set_option maxHeartbeats 4000000 in
theorem fnFoldSheets_walk (a : Option Addr) (n cap : Nat) (w : World) (h : Code8 w a n cap) : Calls Try.prog 14 #[.slice a n cap] w (Ret (.bool true) w) := by
  have hn : n ≤ 9223372036854775807 := by have := h.2.1; unfold maxLen at this; omega
  by_cases hbig : 1048576 < n
  · go_enter Try.func14, Try.ntmps14
    go_wp2
    go_ret
    exact ⟨rfl, Below.refl _ _⟩
  · have H := Lib.hid h
    clear h
    go_enter Try.func14, Try.ntmps14
    go_wp2_with fail
    refine (drawFold_any a n cap w H.out).mono ?_
    rintro e w1 ⟨xs, v, us, base, hl, rfl, ho, hb⟩
    have B1 := Lib.hid hb
    have O1 := Lib.hid ho
    have S1 := Lib.hid (OwnSheets.read ⟨us, ho⟩)
    clear hb ho H
    obtain ⟨ys, hys⟩ : ∃ ys, ys = foldR xs := ⟨_, rfl⟩
    have FI := Lib.hid (fun v w (h : SheetR w v xs) => (hys ▸ implFold_any v xs w h : Calls Try.prog 43 #[v] w (FoldPost ys w)))
    have FSQ := Lib.hid (fun v w (h : SheetR w v xs) => (hys ▸ specFold_any v xs w h : Calls Try.prog 45 #[v] w (FoldPost ys w)))
    have HYS := Lib.hid hys
    clear hys
    go_wp2_with fail
    refine (FI.out _ _ S1.out).mono ?_
    rintro e w2 ⟨v2, rfl, o2, b2⟩
    have S2 := Lib.hid (S1.out.below b2)
    have B2 := Lib.hid (below_next B1.out b2 (Nat.le_refl _))
    have O2 := Lib.hid o2
    have P2 := Lib.hid (O1.out.kept (fun k _ _ h => b2.block k h))
    clear o2 b2 B1 S1 O1
    go_wp2_with fail
    refine (FSQ.out _ _ S2.out).mono ?_
    rintro e w3 ⟨v3, rfl, o3, b3⟩
    have B3 := Lib.hid (below_next B2.out b3 (Nat.le_refl _))
    have O3 := Lib.hid (owns_below O2.out b3)
    have P3 := Lib.hid (P2.out.kept (fun k _ _ h => b3.block k h))
    have I3 := Lib.hid (IRow.of_owns o3)
    clear o3 b3 B2 S2 O2 P2 FSQ FI
    go_wp2_with fail
    refine (sameInts_any _ _ ys _ (IRow.of_owns O3.out) I3.out).mono ?_
    rintro e w4 ⟨rfl, b4⟩
    have B4 := Lib.hid (below_next B3.out b4 (Nat.le_refl _))
    have O4 := Lib.hid (owns_below O3.out b4)
    have P4 := Lib.hid (P3.out.kept (fun k _ _ h => b4.block k h))
    clear b4 B3 O3 P3 I3
    cases hok : foldOk xs
    · have e0 : ys = [] := by rw [HYS.out]; unfold foldR; rw [hok]; rfl
      subst e0
      obtain ⟨ax, cx, rfl⟩ := IRow.empty (IRow.of_owns (xs := []) O4.out)
      clear P4 O4 HYS hok
      go_wp2_with (go_at_call 18; refine (alive_any _).mono ?_)
      rintro e w6 ⟨rfl, b6⟩
      have B6 := Lib.hid (below_next B4.out b6 (Nat.le_refl _))
      clear b6
      go_wp2
      go_ret
      exact ⟨rfl, B6.out⟩
    · cases xs with
      | nil =>
        have e0 : ys = [] := by rw [HYS.out]; rfl
        subst e0
        obtain ⟨ax, cx, rfl⟩ := IRow.empty (IRow.of_owns (xs := []) O4.out)
        clear P4 O4 HYS hok
        go_wp2_with (go_at_call 18; refine (alive_any _).mono ?_)
        rintro e w6 ⟨rfl, b6⟩
        have B6 := Lib.hid (below_next B4.out b6 (Nat.le_refl _))
        clear b6
        go_wp2
        go_ret
        exact ⟨rfl, B6.out⟩
      | cons x t =>
        have ey := HYS.out
        rw [foldR_cons hok] at ey
        obtain ⟨ok2, h4⟩ := foldOk_cons hok
        have hzl := foldR_length ok2
        have FI := Lib.hid (fun v w (h : SheetR w v t) => implFold_any v t w h)
        obtain ⟨zs, hzs⟩ : ∃ zs, zs = foldR t := ⟨_, rfl⟩
        rw [← hzs] at ey hzl FI
        subst ey
        obtain ⟨m, hm⟩ : ∃ m, m = t.length := ⟨_, rfl⟩
        have hl2 : (x :: t).length = m + 1 := by simp [hm]
        obtain ⟨K, hK⟩ : ∃ K, K = 4 * m := ⟨_, rfl⟩
        have hzK : zs.length = K := by omega
        have hm100 : m ≤ 101 := by omega
        obtain ⟨p0, hp0⟩ : ∃ p, p = x.getD 0 0 := ⟨_, rfl⟩
        obtain ⟨p1, hp1⟩ : ∃ p, p = x.getD 1 0 := ⟨_, rfl⟩
        have own4 := O4.out
        have hyl : (x.getD 1 0 :: x.getD 2 0 :: (zs ++ [x.getD 3 0, x.getD 0 0])).length = K + 4 := by simp; omega
        rw [hyl] at own4
        have hv2 : v2 ≠ .slice none 0 0 := fun e => by
          subst e
          rcases own4.2 with ⟨_, h0⟩ | ⟨g, cap, _, e, _⟩
          · omega
          · cases e
        have P4' := P4.out
        have hv : v ≠ .slice none 0 0 := fun e => by
          subst e
          rcases P4'.2.1.2 with ⟨_, h0⟩ | ⟨g, cap, _, e, _⟩
          · simp at h0
          · cases e
        obtain ⟨gx, cx, rfl, _, _, hcx, hcxm⟩ := own_some' own4 hv2
        obtain ⟨g, cp, rfl, _, _, hcp, hcpm⟩ := own_some' P4'.2.1 hv
        rw [hl2] at hcp P4' ⊢
        obtain ⟨f0, f1⟩ := fold_ends own4 hzK
        obtain ⟨b', off', cap', d0, e0, e1⟩ := sheet_first P4' hl2 h4
        rw [← hp0] at e0 f1
        rw [← hp1] at e1 f0
        have O4 := Lib.hid own4
        have R4 := Lib.hid (OwnSheets.read ⟨us, P4'⟩)
        have HK := Lib.hid hzK
        have HM := Lib.hid hm.symm
        have hcxm' : cx ≤ 9223372036854775807 := by unfold maxLen at hcxm; omega
        have hcpm' : cp ≤ 9223372036854775807 := by unfold maxLen at hcpm; omega
        clear HYS hok ok2 hzl hzs hm hzK hp0 hp1 own4 hyl hv2 P4 P4' hv hl2 hl h4 hcxm hcpm
        subst hK
        have hw : IntKind.i64.wrap (4 * ((m : Int) + 1)) = 4 * (m : Int) + 4 := by rw [IntWalk.i64_in _ (by omega)]; omega
        obtain ⟨J, hJ⟩ : ∃ J, J = 4 * m + 3 := ⟨_, rfl⟩
        rw [← hJ] at f1
        have hw2 : IntKind.i64.wrap (4 * (m : Int) + 4 - 1) = (J : Int) := by rw [IntWalk.i64_in _ (by omega)]; omega
        have hJ1 : (J : Int) < 4 * (m : Int) + 4 := by omega
        obtain ⟨M, hM⟩ : ∃ M, M = 4 * m + 2 := ⟨_, rfl⟩
        have hw3 : IntKind.i64.wrap (4 * (m : Int) + 4 - 2) = (M : Int) := by rw [IntWalk.i64_in _ (by omega)]; omega
        have hM1 : (2 : Int) ≤ (M : Int) := by omega
        have hM2 : (M : Int) ≤ (cx : Int) := by omega
        have hM3 : (M : Int) ≤ 4 * (m : Int) + 4 := by omega
        have HK := Lib.hid (show zs.length = M - 2 by have := HK.out; omega)
        clear hJ hM
        have hx0 : (0 : Int) < 4 * (m : Int) + 4 := by omega
        have hx1 : (1 : Int) ≤ (m : Int) + 1 := by omega
        by_cases hc : cp = 1
        · subst hc
          have hm0 : Hid (m = 0) := by show _ = _; omega
          have hmc : (m : Int) + 1 ≤ 1 := by omega
          clear hcpm' hcp
          have ST : Hid (SheetR w4 (.slice (some ⟨g, 0, none⟩) m 0) t) := by have h := HM.out; rw [hm0.out] at h ⊢; rw [List.eq_nil_of_length_eq_zero h]; exact SheetR.empty _ _ _
          have CF : Hid (∀ wx, Below w4.heap.size w4 wx → Calls Try.prog 43 #[.slice (some ⟨g, 0, none⟩) m 0] wx (FoldPost zs wx)) := fun wx hb => FI.out _ _ (ST.out.below hb)
          have XM : Hid (IRow w4 (.slice (some ⟨gx, 2, none⟩) (M - 2) (cx - 2)) zs) := IRow.mid (IRow.of_owns O4.out) (M - 2) (cx - 2) HK.out
          have k4 : w4.drew.cell? ⟨g, 0, none⟩ = some (.slice (some ⟨b', off', none⟩) 4 cap') ∧ w4.drew.cell? ⟨b', off', none⟩ = some (.int .i64 p0) ∧ w4.drew.cell? ⟨b', off' + 1, none⟩ = some (.int .i64 p1) ∧ w4.drew.cell? ⟨gx, 0, none⟩ = some (.int .i64 p1) ∧ w4.drew.cell? ⟨gx, J, none⟩ = some (.int .i64 p0) := ⟨d0, e0, e1, f0, f1⟩
          have bk4 : Below w4.heap.size w4 w4.drew := (Below.refl _ _).drew
          clear d0 e0 e1 f0 f1
          go_wp2_with fail
          go_region_held3 (fun w' => w'.cell? ⟨g, 0, none⟩ = some (.slice (some ⟨b', off', none⟩) 4 cap') ∧ w'.cell? ⟨b', off', none⟩ = some (.int .i64 p0) ∧ w'.cell? ⟨b', off' + 1, none⟩ = some (.int .i64 p1) ∧ w'.cell? ⟨gx, 0, none⟩ = some (.int .i64 p1) ∧ w'.cell? ⟨gx, J, none⟩ = some (.int .i64 p0)) (first | assumption) (first | (go_at_call 43; refine (CF.out _ bk4).mono ?_; rintro e w5 ⟨v5, rfl, o5, b5⟩; have k5 := fold_keep k4 b5; have bk5 := below_next bk4 b5 (Nat.le_refl _)) | (go_at_call 25; refine (sameInts_any _ _ zs _ (IRow.of_owns o5) (XM.out.below bk5)).mono ?_; rintro e w6 ⟨rfl, b6⟩; have k6 := fold_keep k5 b6; have bk6 := below_next bk5 b6 (Nat.le_refl _)))
          all_goals
            go_wp2
            go_ret
            exact ⟨rfl, below_next B4.out bk6 (Nat.le_refl _)⟩
        · have hcp1 : ¬ cp - 1 = 0 := by omega
          have ST : Hid (SheetR w4 (.slice (some ⟨g, 1, none⟩) m (cp - 1)) t) := R4.out.tail m (cp - 1) HM.out
          have CF : Hid (∀ wx, Below w4.heap.size w4 wx → Calls Try.prog 43 #[.slice (some ⟨g, 1, none⟩) m (cp - 1)] wx (FoldPost zs wx)) := fun wx hb => FI.out _ _ (ST.out.below hb)
          have XM : Hid (IRow w4 (.slice (some ⟨gx, 2, none⟩) (M - 2) (cx - 2)) zs) := IRow.mid (IRow.of_owns O4.out) (M - 2) (cx - 2) HK.out
          have k4 : w4.drew.cell? ⟨g, 0, none⟩ = some (.slice (some ⟨b', off', none⟩) 4 cap') ∧ w4.drew.cell? ⟨b', off', none⟩ = some (.int .i64 p0) ∧ w4.drew.cell? ⟨b', off' + 1, none⟩ = some (.int .i64 p1) ∧ w4.drew.cell? ⟨gx, 0, none⟩ = some (.int .i64 p1) ∧ w4.drew.cell? ⟨gx, J, none⟩ = some (.int .i64 p0) := ⟨d0, e0, e1, f0, f1⟩
          have bk4 : Below w4.heap.size w4 w4.drew := (Below.refl _ _).drew
          clear d0 e0 e1 f0 f1
          go_wp2_with fail
          go_region_held3 (fun w' => w'.cell? ⟨g, 0, none⟩ = some (.slice (some ⟨b', off', none⟩) 4 cap') ∧ w'.cell? ⟨b', off', none⟩ = some (.int .i64 p0) ∧ w'.cell? ⟨b', off' + 1, none⟩ = some (.int .i64 p1) ∧ w'.cell? ⟨gx, 0, none⟩ = some (.int .i64 p1) ∧ w'.cell? ⟨gx, J, none⟩ = some (.int .i64 p0)) (first | assumption) (first | (go_at_call 43; refine (CF.out _ bk4).mono ?_; rintro e w5 ⟨v5, rfl, o5, b5⟩; have k5 := fold_keep k4 b5; have bk5 := below_next bk4 b5 (Nat.le_refl _)) | (go_at_call 25; refine (sameInts_any _ _ zs _ (IRow.of_owns o5) (XM.out.below bk5)).mono ?_; rintro e w6 ⟨rfl, b6⟩; have k6 := fold_keep k5 b6; have bk6 := below_next bk5 b6 (Nat.le_refl _)))
          all_goals
            go_wp2
            go_ret
            exact ⟨rfl, below_next B4.out bk6 (Nat.le_refl _)⟩
end Go.Proofs.Ytgbbodmggbeflaa

/-
  PROVED HERE: what the text of the law FnContentsOf does: it returns true and turns nothing that was there. Conditions: the walk's own.
-/
import Derived.Test.YtfallcoehmmbeaaGreatDoorDrawCt
import Derived.Test.YtfallcoehmmbeaaGreatDoorCtOf
import Derived.Test.YtfallcoehmmbeaaGreatDoorCtRI
import Derived.Test.YtfallcoehmmbeaaGreatDoorSame
set_option linter.unusedVariables false
set_option linter.unusedSimpArgs false
namespace Go.Proofs.YtfallcoehmmbeaaGreatDoor
open Go.RowKit

theorem lnTxt_width (l : List UInt8) (lev pg wd : Int) (h : lnOk l lev pg wd = true) : ((lnTxt l lev pg wd).length : Int) = wd := by
  have h0 := h
  unfold lnOk at h
  simp only [Bool.and_eq_true] at h
  have b := of_decide_eq_true h.2.2
  unfold lnTxt
  rw [if_pos h0]
  unfold lnPts at b ⊢
  simp only [List.length_append, List.length_replicate]
  omega
theorem ct_at {xs : List DTitle} {wd : Int} (h : ctOk xs wd = true) (k : Nat) (hk : k < xs.length) : ∃ T : List UInt8, ctTx xs[k] wd = bs T ∧ CtIs xs[k].f0 xs[k].f1 xs[k].f2 T ∧ (T.length : Int) = wd := by
  unfold ctOk at h
  have hh := List.all_eq_true.1 h _ (List.getElem_mem hk)
  have := lnTxt_width _ _ _ _ hh
  refine ⟨_, rfl, ?_, this⟩
  unfold CtIs
  rw [this]
  exact ⟨hh, rfl⟩

set_option maxHeartbeats 4000000 in
theorem fnContentsOf_walk (a : Option Addr) (n cap : Nat) (w : World) (h : Code8 w a n cap) (ht : RdTab w) : Calls Tryz.prog 3 #[.slice a n cap] w (Ret (.bool true) w) := by
  have hn : n ≤ 9223372036854775807 := by have := h.2.1; unfold maxLen at this; omega
  by_cases hbig : 1048576 < n
  · go_enter Tryz.func3, Tryz.ntmps3
    go_wp2
    go_ret
    exact ⟨rfl, Below.refl _ _⟩
  · have H := Lib.hid h
    have TAB := Lib.hid ht
    clear h ht
    go_enter Tryz.func3, Tryz.ntmps3
    go_wp2_with fail
    refine (drawCt_any a n cap w H.out).mono ?_
    rintro e w1 ⟨xs, v, wd, hxl, hsh, hw0, hw1, rfl, ho, hb⟩
    have B1 := Lib.hid hb
    have R1 := Lib.hid (SRow.of_owns (xs := xs) encTitle_len rfl ho)
    have HX : Hid (∀ x ∈ xs, x.f0.length ≤ 1048576) := fun x hx => by have := hsh x hx; omega
    clear hb ho hsh H
    go_wp2_with (go_at_call 5; refine (implCtOf_any v xs wd _ R1.out HX.out (by omega) (TAB.out.1.below B1.out (Nat.le_refl _))).mono ?_)
    rintro e w2 ⟨x, rfl, o2, b2⟩
    have B2 := Lib.hid (below_next B1.out b2 (Nat.le_refl _))
    have R2 := Lib.hid (R1.out.below b2)
    have X2 := Lib.hid (SRow.of_owns (xs := ctR xs wd) (enc := encS) encS_len rfl o2)
    clear b2 o2 R1 B1
    go_wp2_with (go_at_call 6; refine (specCtOf_any v xs wd _ R2.out HX.out (by omega)).mono ?_)
    rintro e w3 ⟨y, rfl, o3, b3⟩
    have B3 := Lib.hid (below_next B2.out b3 (Nat.le_refl _))
    have R3 := Lib.hid (R2.out.below b3)
    have X3 := Lib.hid (X2.out.below b3)
    have Y3 := Lib.hid (SRow.of_owns (xs := ctR xs wd) (enc := encS) encS_len rfl o3)
    clear b3 o3 R2 B2 X2 HX
    go_wp2_with (go_at_call 7; refine (sameTexts_any x y (ctR xs wd) _ X3.out Y3.out).mono ?_)
    rintro e w4 ⟨rfl, b4⟩
    have B4 := Lib.hid (below_next B3.out b4 (Nat.le_refl _))
    have R4 := Lib.hid (R3.out.below b4)
    have X4 := Lib.hid (X3.out.below b4)
    clear b4 B3 R3 X3 Y3
    obtain ⟨bk, hbk⟩ : ∃ bk, bk = ctOk xs wd := ⟨_, rfl⟩
    rw [← hbk]
    cases bk
    · have e0 : ctR xs wd = [] := by unfold ctR; rw [← hbk]; rfl
      rw [e0] at X4
      obtain ⟨ax, cx, rfl⟩ := X4.out.empty
      clear hbk e0 X4 R4
      go_wp2_with (go_at_call 8; refine (alive_any _).mono ?_)
      rintro e w6 ⟨rfl, b6⟩
      have B6 := Lib.hid (below_next B4.out b6 (Nat.le_refl _))
      clear b6
      go_wp2
      go_ret
      exact ⟨rfl, B6.out⟩
    · have e0 : ctR xs wd = xs.map fun x => ctTx x wd := by unfold ctR; rw [← hbk]; rfl
      rw [e0] at X4
      obtain ⟨m, hm⟩ : ∃ m, m = xs.length := ⟨_, rfl⟩
      obtain ⟨av, cv, ev, _, hv3⟩ := R4.out
      obtain ⟨ax, cx, ex, _, hx3⟩ := X4.out
      rw [List.length_map] at ex
      rw [← hm] at ev ex
      subst ev ex
      have KK : Hid (∀ k, k < m → ∃ (T l : List UInt8) (lev pg : Int) (b off bx offx : Nat), av = some ⟨b, off, none⟩ ∧ ax = some ⟨bx, offx, none⟩ ∧ w4.cell? ⟨bx, offx + k, none⟩ = some (.string (bs T)) ∧ w4.cell? ⟨b, off + k * 3, none⟩ = some (.string (bs l)) ∧ w4.cell? ⟨b, off + k * 3 + 1, none⟩ = some (.int .i64 lev) ∧ w4.cell? ⟨b, off + k * 3 + 2, none⟩ = some (.int .i64 pg) ∧ CtIs l lev pg T ∧ (T.length : Int) = wd) := fun k hk => by
        have hk' : k < xs.length := by rw [← hm]; exact hk
        obtain ⟨T, t1, t2, t3⟩ := ct_at hbk.symm k hk'
        obtain ⟨b, off, r1, r2⟩ := hv3 k hk'
        obtain ⟨bx, offx, q1, q2⟩ := hx3 k (by rw [List.length_map]; exact hk')
        refine ⟨T, _, _, _, b, off, bx, offx, r1, q1, ?_, by simpa using r2 0 _ rfl, by simpa using r2 1 _ rfl, by simpa using r2 2 _ rfl, t2, t3⟩
        have := q2 0 (.string (bs T)) (by rw [List.getElem_map, t1]; rfl)
        simpa using this
      have hmle : m ≤ 4 := by omega
      clear hbk e0 X4 R4 hv3 hx3 hm hxl
      go_wp2
      go_loopw [9] (fun i wr => ∃ k : Nat, k ≤ m ∧ i = .int .i64 k ∧ Hid (Below w.heap.size w wr) ∧ Hid (Below w4.heap.size w4 wr)) (fun i _ => m - (intOf i).toNat)
      case atStart => exact ⟨0, Nat.zero_le _, rfl, B4.out, Below.refl _ _⟩
      case round =>
        obtain ⟨k, hk, rfl, hb, hb4⟩ := hrel
        clear B4
        by_cases hlt : k < m
        · obtain ⟨T, l, lev, pg, b, off, bx, offx, rfl, rfl, t1, t2, t3, t4, hct, hwt⟩ := KK.out k hlt
          subst hwt
          have hbl : b < w4.heap.size := World.block_lt_of_cell? w4 _ t2
          have hblx : bx < w4.heap.size := World.block_lt_of_cell? w4 _ t1
          have e1 : wr.cell? ⟨bx, offx + k, none⟩ = some (.string (bs T)) := (hb4.out.cell (p := ⟨bx, offx + k, none⟩) hblx).trans t1
          have HT := Lib.hid hct
          have RS := Lib.hid (fun w h => implReadCt_any T (by omega) w h)
          have TT := Lib.hid (⟨t1, t2, t3, t4⟩ : w4.cell? ⟨bx, offx + k, none⟩ = some (.string (bs T)) ∧ w4.cell? ⟨b, off + k * 3, none⟩ = some (.string (bs l)) ∧ w4.cell? ⟨b, off + k * 3 + 1, none⟩ = some (.int .i64 lev) ∧ w4.cell? ⟨b, off + k * 3 + 2, none⟩ = some (.int .i64 pg))
          clear t1 t2 t3 t4 hct KK
          go_wp2_with (go_at_call 9; refine (RS.out _ (TAB.out.below hb.out (Nat.le_refl _))).mono ?_)
          rintro e w5 ⟨z, lz, pz, b5, rfl, hr, bl5⟩
          obtain ⟨rfl, rfl, rfl, rfl⟩ := CtRes.uniq hr (.inl ⟨rfl, HT.out⟩)
          have B5 := Lib.hid (below_next hb.out bl5 (Nat.le_refl _))
          have B54 := Lib.hid (below_next hb4.out bl5 (Nat.le_refl _))
          have hb5 : b < w5.heap.size := by have := B54.out.size; omega
          have hbx5 : bx < w5.heap.size := by have := B54.out.size; omega
          have c1 : w5.cell? ⟨bx, offx + k, none⟩ = some (.string (bs T)) := (B54.out.cell (p := ⟨bx, offx + k, none⟩) hblx).trans TT.out.1
          have c2 : w5.cell? ⟨b, off + k * 3, none⟩ = some (.string (bs z)) := (B54.out.cell (p := ⟨b, off + k * 3, none⟩) hbl).trans TT.out.2.1
          have c3 : w5.cell? ⟨b, off + k * 3 + 1, none⟩ = some (.int .i64 lz) := (B54.out.cell (p := ⟨b, off + k * 3 + 1, none⟩) hbl).trans TT.out.2.2.1
          have c4 : w5.cell? ⟨b, off + k * 3 + 2, none⟩ = some (.int .i64 pz) := (B54.out.cell (p := ⟨b, off + k * 3 + 2, none⟩) hbl).trans TT.out.2.2.2
          have BF := Lib.hid (B5.out.alloc B5.out.size (.cells #[.string (bs z), .int .i64 lz, .int .i64 pz] 32))
          have BF4 := Lib.hid (B54.out.alloc B54.out.size (.cells #[.string (bs z), .int .i64 lz, .int .i64 pz] 32))
          have hg : decide ((m : Int) ≤ (k : Int)) = false := by simp; omega
          clear hr bl5 hb hb4 RS HT TT B5 B54 e1
          go_wp2
          go_quiet (fail)
          go_wp2
          go_roundw
          case rel => exact ⟨k + 1, by omega, by go_num, below_drewN BF.out _, below_drewN BF4.out _⟩
          case measure => simp [intOf]; omega
        · obtain rfl : k = m := by omega
          clear KK
          go_wp2
          go_ret
          exact ⟨rfl, hb.out⟩
end Go.Proofs.YtfallcoehmmbeaaGreatDoor

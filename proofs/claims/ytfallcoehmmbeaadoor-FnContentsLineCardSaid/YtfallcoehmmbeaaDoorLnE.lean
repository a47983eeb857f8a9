/-
  PROVED HERE: what drawing a line of contents hands back. Conditions: each theorem's own.
-/
import Derived.Test.YtfallcoehmmbeaaDoorLnD
set_option linter.unusedVariables false
set_option linter.unusedSimpArgs false
namespace Go.Proofs.YtfallcoehmmbeaaDoor
open Go.RowKit
set_option maxRecDepth 100000

/-- It returns some title and some width; nothing that was there turns. -/
def DrawLn (w : World) (e : Ending) (w' : World) : Prop := ∃ (l : List UInt8) (lev pg wd : Int), l.length ≤ 41 ∧ 0 ≤ wd ∧ wd ≤ 61 ∧ e = .returned (.tuple #[.agg #[.string (bs l), .int .i64 lev, .int .i64 pg], .int .i64 wd]) ∧ Below w.heap.size w w'
theorem gB2.below {w w0 wx : World} {B R : Nat} (h : gB2 w0 wx B R) (hb : Below w.heap.size w w0) (hB : w.heap.size ≤ B) (hR : w.heap.size ≤ R) : Below w.heap.size w wx := by
  obtain ⟨h1, h2, h3, h4, h5⟩ := h
  have := hb.size
  exact ⟨h1.trans hb.os, h2.trans hb.tape, h3.trans hb.output, Nat.le_trans hb.size h4, fun k hk => (h5 k (by omega) (by omega) (by omega)).trans (hb.block k hk)⟩

set_option maxHeartbeats 8000000 in
theorem drawContentsLine_any (a : Option Addr) (n cap : Nat) (w : World) (h : Code8 w a n cap) : Calls Tryd.prog 18 #[.slice a n cap] w (DrawLn w) := by
  have A0 := Lib.hid ((Below.refl w.heap.size w).alloc (Nat.le_refl _) (.cells #[.string ⟨#[]⟩, .int .i64 0, .int .i64 0] 26))
  have R0 := Lib.hid (owns_lit3 w w.heap.size 26 3 1 [.string ⟨#[]⟩, .int .i64 0, .int .i64 0] (Nat.le_refl _) (by unfold maxLen; omega) rfl)
  have H := Lib.hid (h.below A0.out)
  obtain ⟨wA, hwA⟩ : ∃ wA, wA = w.alloc (.cells #[.string ⟨#[]⟩, .int .i64 0, .int .i64 0] 26) := ⟨_, rfl⟩
  have A0 : Hid (Below w.heap.size w wA) := by rw [hwA]; exact A0.out
  have R0 : Hid (wA.ownsRow w.heap.size 26 3 (.slice (some ⟨w.heap.size, 0, none⟩) 1 1) 1 [.string ⟨#[]⟩, .int .i64 0, .int .i64 0]) := by rw [hwA]; exact R0.out
  have SA : Hid (wA.heap.size = w.heap.size + 1) := Lib.hid (by rw [hwA]; unfold World.alloc; exact Array.size_push ..)
  rw [← hwA] at H
  clear h
  go_enter Tryd.func18, Tryd.ntmps18
  go_wp2_with fail
  rw [← hwA]
  clear hwA
  refine (open_any a n cap wA H.out).mono ?_
  rintro e w1 ⟨B, rfl, hr, hB, hb⟩
  have HB := Lib.hid hb
  have R1 := Lib.hid (owns_below R0.out hb)
  clear hb R0 H
  go_wp2_with fail
  refine (l20Title_to B 0 9 w1 ⟨0, Nat.le_refl _, hr⟩ (by omega) (by omega) (by omega)).mono ?_
  rintro e w2 ⟨l, lev, pg, hl, rfl, hd⟩
  have hsA : w.heap.size ≤ wA.heap.size := A0.out.size
  have hsB : w.heap.size ≠ B := by have := SA.out; omega
  have OR := Lib.hid ((R1.out.kept hd.2.1 (.inr (by simpa [Value.ownBlock] using hsB))).alloc (.cells #[.string (bs l), .int .i64 lev, .int .i64 pg] 26))
  have hD3 := hd.alloc (.cells #[.string (bs l), .int .i64 lev, .int .i64 pg] 26)
  have hB3 := A0.out.trans ((hD3.below HB.out hB).mono hsA)
  have hT3 := heap_alloc_new w2 (.cells #[.string (bs l), .int .i64 lev, .int .i64 pg] 26)
  have hs3 : (w2.alloc (.cells #[.string (bs l), .int .i64 lev, .int .i64 pg] 26)).heap.size = w2.heap.size + 1 := by unfold World.alloc; exact Array.size_push ..
  have hB2 : B < w2.heap.size := by have := hd.2.2; have := hd.size; omega
  have hw2 : w.heap.size < w2.heap.size := by have := (R1.out.kept hd.2.1 (.inr (by simpa [Value.ownBlock] using hsB))).lt w.heap.size rfl; omega
  obtain ⟨w3, hw3⟩ : ∃ w3, w3 = w2.alloc (.cells #[.string (bs l), .int .i64 lev, .int .i64 pg] 26) := ⟨_, rfl⟩
  rw [← hw3] at hD3 hB3 hT3 hs3
  have OR : Hid (w3.ownsRow w.heap.size 26 3 (.slice (some ⟨w.heap.size, 0, none⟩) 1 1) 1 [.string ⟨#[]⟩, .int .i64 0, .int .i64 0]) := by rw [hw3]; exact OR.out
  have HL := Lib.hid hl
  have D3 := Lib.hid hD3
  have B3 := Lib.hid hB3
  have T3 := Lib.hid hT3
  have S3 := Lib.hid hs3
  have Q1 := Lib.hid hB2
  have Q2 := Lib.hid hw2
  have Q3 := Lib.hid hsB
  have Q4 : Hid (w.heap.size ≤ B) := Lib.hid (Nat.le_trans hsA hB)
  clear hd hr R1 hl hD3 hB3 hT3 hs3 hB2 hw2 hsB hsA hB HB SA A0
  go_wp2_with fail
  rw [← hw3]
  clear hw3
  have hBn : B < w3.heap.size := by have := S3.out; have := Q1.out; omega
  have hRn : w.heap.size < w3.heap.size := by have := S3.out; have := Q2.out; omega
  have hTB : w2.heap.size ≠ B := by have := Q1.out; omega
  have hRB : w.heap.size ≠ B := Q3.out
  have hTR : w2.heap.size ≠ w.heap.size := by have := Q2.out; omega
  refine region_invO (by kernel_rfl) _ w3 14 rfl (lI w3 B w.heap.size w2.heap.size 20 l lev pg) (lA w3.heap.size B w.heap.size l lev pg) (lR B w.heap.size) (lA_kept hBn hRn hRB) lDst lDst_inj (fun i hi t e => by have := lDst_lt i hi t e; show t < 22; omega) (low_of (by kernel_rfl)) ?_ ?_ ?_
  · intro listed i o a wx hls hC hlo ho hF hI hA
    have hrd : a.eval (.tmp 4) = .pointer (some ⟨B, 0, none⟩) := fL hF 4 (by decide) rfl
    have hle := openB_le listed 14
    match i, ho with
    | 0, ho =>
      obtain rfl := Option.some.inj ho
      have h5 : a.eval (.tmp 5) = .pointer (some ⟨w2.heap.size, 0, none⟩) := fL hF 5 (by decide) rfl
      have c0 : wx.cell? ⟨w2.heap.size, 0, none⟩ = some (.string (bs l)) := cell_of_row wx _ 0 _ _ _ hI.2.2.1
      have c1 : wx.cell? ⟨w2.heap.size, 1, none⟩ = some (.int .i64 lev) := cell_of_row wx _ 1 _ _ _ hI.2.2.1
      have c2 : wx.cell? ⟨w2.heap.size, 2, none⟩ = some (.int .i64 pg) := cell_of_row wx _ 2 _ _ _ hI.2.2.1
      exact op_val rfl rfl (loadT_run wx _ _ _ _ c0 c1 c2 a _ _ rfl h5) ⟨_, rfl, fun e => (by cases e), rfl, lR_refl _ _ _ _, lI_same hI (by omega) hls hlo⟩
    | 1, ho =>
      obtain rfl := Option.some.inj ho
      exact op_val rfl rfl (run_move_rd hrd) ⟨_, rfl, fun e => (by cases e), rfl, lR_refl _ _ _ _, lI_same hI (by omega) hls hlo⟩
    | 2, ho =>
      obtain rfl := Option.some.inj ho
      have q := hA ⟨1, .data⟩ (by simp) rfl
      refine tpick 11 _ rfl rfl rfl hI.1 (by omega) q (by decide) (by decide) (fun k w' h0 h1 hr hg hs => ?_)
      exact ⟨_, rfl, fun e => (by cases e), ⟨k, rfl, h0, by omega⟩, lR_of hg, lI_to hI (by omega) hls hlo hTB hRB (fun p hp => hr p hp) hg⟩
    | 3, ho =>
      obtain rfl := Option.some.inj ho
      obtain ⟨k, q1, h0, h1⟩ := hA ⟨2, .data⟩ (by simp) rfl
      exact op_val rfl rfl (add10_run wx a _ _ k h0 (by omega) _ _ rfl q1) ⟨_, rfl, fun e => (by cases e), ⟨10 + k, rfl, by omega, by omega⟩, lR_refl _ _ _ _, lI_same hI (by omega) hls hlo⟩
    | 4, ho =>
      obtain rfl := Option.some.inj ho
      obtain ⟨k, q1, h0, h1⟩ := hA ⟨3, .data⟩ (by simp) rfl
      have hg := World.grownBy_alloc wx (.cells #[.int .i64 k, .int .i64 60, .int .i64 0, .int .i64 61] 3) (some B)
      refine op_val rfl rfl (ints4_run wx a _ 13 k rfl q1) ⟨_, rfl, fun e => (by cases e), ⟨wx.heap.size, rfl, hI.2.1.2.2.2.1, _, heap_alloc_new wx _, fun i hi => ?_⟩, lR_of hg, lI_alloc hI (by omega) hls hlo hTB hRB _⟩
      rcases (by omega : i = 0 ∨ i = 1 ∨ i = 2 ∨ i = 3) with rfl | rfl | rfl | rfl
      · exact ⟨k, h0, h1, rfl⟩
      · exact ⟨60, by omega, by omega, rfl⟩
      · exact ⟨0, by omega, by omega, rfl⟩
      · exact ⟨61, by omega, by omega, rfl⟩
    | 5, ho =>
      obtain rfl := Option.some.inj ho
      have hg := World.grownBy_alloc wx (.cells #[.int .i64 0, .int .i64 0, .int .i64 0, .int .i64 0, .int .i64 1, .int .i64 2, .int .i64 3] 3) (some B)
      refine op_val rfl rfl (ints7_run wx a _ rfl) ⟨_, rfl, fun e => (by cases e), ⟨wx.heap.size, rfl, hI.2.1.2.2.2.1, _, heap_alloc_new wx _, fun i hi => ?_⟩, lR_of hg, lI_alloc hI (by omega) hls hlo hTB hRB _⟩
      rcases (by omega : i = 0 ∨ i = 1 ∨ i = 2 ∨ i = 3 ∨ i = 4 ∨ i = 5 ∨ i = 6) with rfl | rfl | rfl | rfl | rfl | rfl | rfl
      · exact ⟨0, by omega, by omega, rfl⟩
      · exact ⟨0, by omega, by omega, rfl⟩
      · exact ⟨0, by omega, by omega, rfl⟩
      · exact ⟨0, by omega, by omega, rfl⟩
      · exact ⟨1, by omega, by omega, rfl⟩
      · exact ⟨2, by omega, by omega, rfl⟩
      · exact ⟨3, by omega, by omega, rfl⟩
    | 6, ho =>
      obtain rfl := Option.some.inj ho
      exact op_val rfl rfl (run_move_rd hrd) ⟨_, rfl, fun e => (by cases e), rfl, lR_refl _ _ _ _, lI_same hI (by omega) hls hlo⟩
    | 7, ho =>
      obtain rfl := Option.some.inj ho
      have q := hA ⟨6, .data⟩ (by simp) rfl
      refine tpick 16 _ rfl rfl rfl hI.1 (by omega) q (by decide) (by decide) (fun k w' h0 h1 hr hg hs => ?_)
      exact ⟨_, rfl, fun e => (by cases e), ⟨k, rfl, h0, by omega⟩, lR_of hg, lI_to hI (by omega) hls hlo hTB hRB (fun p hp => hr p hp) hg⟩
    | 8, ho =>
      obtain rfl := Option.some.inj ho
      obtain ⟨g, q0, hS⟩ := hA ⟨5, .data⟩ (by simp) rfl
      obtain ⟨k, q1, h0, h1⟩ := hA ⟨7, .data⟩ (by simp) rfl
      exact op_val rfl rfl (idxi_run wx a _ _ _ g 7 k h0 (by omega) rfl q0 q1) ⟨_, rfl, fun e => (by cases e), ⟨g, k.toNat, rfl, by omega, hS⟩, lR_refl _ _ _ _, lI_same hI (by omega) hls hlo⟩
    | 9, ho =>
      obtain rfl := Option.some.inj ho
      obtain ⟨g, i, q0, hi, hS⟩ := hA ⟨8, .data⟩ (by simp) rfl
      obtain ⟨k, h0, h1, hc⟩ := hS.at hi
      exact op_val rfl rfl (loadi_run wx _ _ hc a _ _ rfl q0) ⟨_, rfl, fun e => (by cases e), ⟨k, rfl, h0, h1⟩, lR_refl _ _ _ _, lI_same hI (by omega) hls hlo⟩
    | 10, ho =>
      obtain rfl := Option.some.inj ho
      obtain ⟨g, q0, hS⟩ := hA ⟨4, .data⟩ (by simp) rfl
      obtain ⟨k, q1, h0, h1⟩ := hA ⟨9, .data⟩ (by simp) rfl
      exact op_val rfl rfl (idxi_run wx a _ _ _ g 4 k h0 (by omega) rfl q0 q1) ⟨_, rfl, fun e => (by cases e), ⟨g, k.toNat, rfl, by omega, hS⟩, lR_refl _ _ _ _, lI_same hI (by omega) hls hlo⟩
    | 11, ho =>
      obtain rfl := Option.some.inj ho
      obtain ⟨g, i, q0, hi, hS⟩ := hA ⟨10, .data⟩ (by simp) rfl
      obtain ⟨k, h0, h1, hc⟩ := hS.at hi
      exact op_val rfl rfl (loadi_run wx _ _ hc a _ _ rfl q0) ⟨_, rfl, fun e => (by cases e), ⟨k, rfl, h0, h1⟩, lR_refl _ _ _ _, lI_same hI (by omega) hls hlo⟩
    | 12, ho =>
      obtain rfl := Option.some.inj ho
      have q1 : a.eval (.tmp 2) = .pointer (some ⟨w.heap.size, 0, none⟩) := fL hF 2 (by decide) rfl
      have q2 := hA ⟨0, .data⟩ (by simp) rfl
      obtain ⟨i1, i2, i3, x, y, z, gc⟩ := id hI
      have O := row3 (n0 := w.heap.size) (Nat.le_refl _) gc
      have s0 := O.stored 0 (.string (bs l))
      have s1 := s0.1.stored 1 (.int .i64 lev)
      have s2 := s1.1.stored 2 (.int .i64 pg)
      obtain ⟨y0, y1, y2⟩ := own3 O
      have fin := row3_heap s2.1
      have hsz := Nat.le_trans s0.2.size (Nat.le_trans s1.2.size s2.2.size)
      have hlt := open_less14 (by omega) hls hlo
      have oth : ∀ j, j < wx.heap.size → j ≠ w.heap.size → (((wx.setCell ⟨w.heap.size, 0, none⟩ (.string (bs l))).setCell ⟨w.heap.size, 1, none⟩ (.int .i64 lev)).setCell ⟨w.heap.size, 2, none⟩ (.int .i64 pg)).heap[j]? = wx.heap[j]? := fun j hj hne => ((s2.2.block j (Nat.lt_of_lt_of_le hj (Nat.le_trans s0.2.size s1.2.size)) (by simp; exact hne)).trans (s1.2.block j (Nat.lt_of_lt_of_le hj s0.2.size) (by simp; exact hne))).trans (s0.2.block j hj (by simp; exact hne))
      refine op_skip rfl rfl (storeT_run wx w.heap.size ⟨_, _, _, y0, y1, y2⟩ ⟨O.frozenAt 0, O.frozenAt 1, O.frozenAt 2⟩ a _ _ _ l lev pg rfl q1 q2) ⟨_, rfl, fun _ => rfl, fin, ⟨hsz, fun j hj hne => ?_⟩, ?_, ?_, ?_, _, _, _, fin⟩
      · by_cases hjg : j = w.heap.size
        · exact .inr ⟨rfl, hjg⟩
        · exact .inl (oth j hj hjg)
      · have k0 := i1.pastT ⟨_, _, _, gc⟩ hRB s0.2
        have k1 := k0.pastT ⟨_, _, _, row3_heap s0.1⟩ hRB s1.2
        exact (k1.pastT ⟨_, _, _, row3_heap s1.1⟩ hRB s2.2).mono (by omega)
      · exact ((i2.step s0.2 (.inr (.inl rfl))).step s1.2 (.inr (.inl rfl))).step s2.2 (.inr (.inl rfl))
      · exact (oth _ (heap_lt i3) hTR).trans i3
    | 13, ho =>
      obtain rfl := Option.some.inj ho
      obtain ⟨k, q1, h0, h1⟩ := hA ⟨11, .data⟩ (by simp) rfl
      exact op_val rfl rfl (run_assign (x := .tmp 21) q1) ⟨_, rfl, fun e => (by cases e), ⟨k, rfl, h0, h1⟩, lR_refl _ _ _ _, lI_same hI (by omega) hls hlo⟩
    | _ + 14, ho => exact absurd ho (by simp)
  · exact ⟨D3.out.1.mono (by omega), ⟨rfl, rfl, rfl, Nat.le_refl _, fun _ _ _ _ => rfl⟩, T3.out, _, _, _, row3_heap OR.out⟩
  · intro listed a wR hall hF hI hA
    obtain ⟨k, e3, k0, k1⟩ := hA 13 (by omega)
    have hR : wR.heap[w.heap.size]? = _ := hA 12 (by omega)
    have BE := Lib.hid (hI.2.1.below B3.out Q4.out (Nat.le_refl _))
    have OE := Lib.hid (row3 (n0 := w.heap.size) (Nat.le_refl _) hR)
    have e3 : a.tmps.getD 3 undef = .int .i64 k := e3
    have e2 : a.tmps.getD 2 undef = .pointer (some ⟨w.heap.size, 0, none⟩) := fL hF 2 (by decide) rfl
    have hdf : a.defers = [] := hF.2.1
    clear hall hF hI hA hR D3 T3 OR
    obtain ⟨rc0, rc1, rc2⟩ := own3 OE.out
    have e2' : a.tmps[2]?.getD undef = .pointer (some ⟨w.heap.size, 0, none⟩) := by rw [← Array.getD_eq_getD_getElem?]; exact e2
    have e3' : a.tmps[3]?.getD undef = .int .i64 k := by rw [← Array.getD_eq_getD_getElem?]; exact e3
    go_wp2
    refine bodyPost_ret (v := .tuple #[.agg #[.string (bs l), .int .i64 lev, .int .i64 pg], .int .i64 k]) (by simp [results, Tryd.results18, go_sem, rc0, rc1, rc2, e2', e3']) hdf ⟨l, lev, pg, k, HL.out, k0, k1, rfl, BE.out⟩
end Go.Proofs.YtfallcoehmmbeaaDoor

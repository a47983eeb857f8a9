/-
  PROVED HERE: what the printer's lines need, part X01. Conditions: each theorem's own.
-/
import Derived.Test.YtofnchdijanikaaGreatDoorV06
import Derived.Test.YtofnchdijanikaaGreatDoorV08
import Derived.Test.YtofnchdijanikaaGreatDoorV09
set_option linter.unusedVariables false
set_option linter.unusedSimpArgs false
set_option maxRecDepth 100000
namespace Go.Proofs.YtofnchdijanikaaGreatDoor
open Go.RowKit
set_option maxHeartbeats 16000000 in
theorem implPL0_any (b : DBook) (hv : bookB b = false) (hs : BookSh b) (v : Value) (w : World) (h : BookR w v b) (l : List UInt8) :
  Calls Tryz.prog 10 #[v, .string (bs l)] w (LinePost w.heap.size (zB, []) w) := by
 obtain ⟨p1, q1, rfl, hp, hq⟩ := h
 obtain ⟨pa, pl, pc, rfl⟩ : ∃ a l c, p1 = .slice a l c := by obtain ⟨va, vc, e, _⟩ := ss_idx hp; exact ⟨_, _, _, e⟩
 obtain ⟨qa, ql, qc, rfl⟩ : ∃ a l c, q1 = .slice a l c := by obtain ⟨a, c, e, _⟩ := hq; exact ⟨_, _, _, e⟩
 obtain ⟨bw, hbw⟩ : ∃ y, y = b.w := ⟨_, rfl⟩
 obtain ⟨bm, hbm⟩ : ∃ y, y = b.most := ⟨_, rfl⟩
 obtain ⟨bl, hbl⟩ : ∃ y, y = b.lines := ⟨_, rfl⟩
 have BRB := Lib.hid (fun w' (hb : Below w.heap.size w w') => BookR.below (b := b) ⟨_, _, rfl, hp, hq⟩ hb)
 rw [← hbw, ← hbm, ← hbl] at BRB ⊢
 obtain ⟨W2, hW2⟩ : ∃ W2, W2 = ((w.alloc (.cells #[.slice pa pl pc, .slice qa ql qc, .int .i64 bw, .int .i64 bm, .int .i64 bl] BoxT)).alloc (.cells #[.slice none 0 0, .slice none 0 0, .int .i64 0, .int .i64 0, .int .i64 0] BoxT)) := ⟨_, rfl⟩
 have AW : Below w.heap.size w W2 := by rw [hW2]; exact ((Below.refl _ _).alloc (Nat.le_refl _) _).alloc (by simp) _
 have S2 : W2.heap.size = w.heap.size + 2 := by rw [hW2]; simp
 have R1 : W2.ownsRow w.heap.size BoxT 5 (.slice (some ⟨w.heap.size, 0, none⟩) 1 1) 1 [.slice pa pl pc, .slice qa ql qc, .int .i64 bw, .int .i64 bm, .int .i64 bl] := by rw [hW2]; exact (own5_made w (Nat.le_refl _) _ _ _ _ _ _).alloc _
 have R2 : W2.ownsRow w.heap.size BoxT 5 (.slice (some ⟨w.heap.size + 1, 0, none⟩) 1 1) 1 [.slice none 0 0, .slice none 0 0, .int .i64 0, .int .i64 0, .int .i64 0] := by
  have := own5_made (w.alloc (.cells #[.slice pa pl pc, .slice qa ql qc, .int .i64 bw, .int .i64 bm, .int .i64 bl] BoxT)) (B := w.heap.size) (by simp) BoxT (.slice none 0 0) (.slice none 0 0) (.int .i64 0) (.int .i64 0) (.int .i64 0)
  rw [show (w.alloc (.cells #[.slice pa pl pc, .slice qa ql qc, .int .i64 bw, .int .i64 bm, .int .i64 bl] BoxT)).heap.size = w.heap.size + 1 by simp] at this
  rw [hW2]
  exact this
 have HA := Lib.hid AW
 have HS2 := Lib.hid S2
 have H1 := Lib.hid R1
 have H2 := Lib.hid R2
 have BV : Hid (Calls Tryz.prog 27 #[.agg #[.slice pa pl pc, .slice qa ql qc, .int .i64 bw, .int .i64 bm, .int .i64 bl]] W2 (Ret (.bool false) W2)) := by
  have := implBook_any b hs _ W2 (BRB.out W2 AW)
  rw [hv] at this
  exact this
 clear hp hq hbw hbm hbl AW S2 R1 R2
 unfold BoxT at hW2
 go_enter Tryz.func10, Tryz.ntmps10
 go_upto_region 1 with fail
 rw [← hW2]
 obtain ⟨r0, r1, r2, r3, r4⟩ := own5 H1.out
 clear hW2
 go_wp2_with (go_at_call 27; refine BV.out.mono ?_; rintro e w5 ⟨rfl, hb5⟩; have KR := Lib.hid (owns_below H2.out hb5); obtain ⟨p0, p1, p2, p3, p4⟩ := own5 KR.out; have n0 := World.ownsRow.frozenAt KR.out 0; have n1 := World.ownsRow.frozenAt KR.out 1; have n2 := World.ownsRow.frozenAt KR.out 2; have n3 := World.ownsRow.frozenAt KR.out 3; have n4 := World.ownsRow.frozenAt KR.out 4; have FF := Lib.hid (own5_set KR.out (.slice none 0 0) (.slice none 0 0) (.int .i64 0) (.int .i64 0) (.int .i64 0)))
 obtain ⟨y0, y1, y2, y3, y4⟩ := own5 FF.out.1
 have hsw := HS2.out
 have B5 := below_next HA.out hb5 (Nat.le_refl _)
 have FB := B5.grown FF.out.2 B5.size (fun k hk => by cases hk; omega)
 refine bodyPost_ret (v := .tuple #[.agg #[.slice none 0 0, .slice none 0 0, .int .i64 0, .int .i64 0, .int .i64 0], .string (bs [])]) (by simp [results, Tryz.results10, go_sem, y0, y1, y2, y3, y4]) rfl ⟨.slice none 0 0, .slice none 0 0, [], rfl, ⟨OwnSU.nil _ _ _, OwnT.nil _ _, fun k hk => by cases hk⟩, FB⟩
set_option maxHeartbeats 16000000 in
theorem specPL0_any (b : DBook) (hv : bookB b = false) (hs : BookSh b) (v : Value) (w : World) (h : BookR w v b) (l : List UInt8) :
  Calls Tryz.prog 8 #[v, .string (bs l)] w (LinePost w.heap.size (zB, []) w) := by
 obtain ⟨p1, q1, rfl, hp, hq⟩ := h
 obtain ⟨pa, pl, pc, rfl⟩ : ∃ a l c, p1 = .slice a l c := by obtain ⟨va, vc, e, _⟩ := ss_idx hp; exact ⟨_, _, _, e⟩
 obtain ⟨qa, ql, qc, rfl⟩ : ∃ a l c, q1 = .slice a l c := by obtain ⟨a, c, e, _⟩ := hq; exact ⟨_, _, _, e⟩
 obtain ⟨bw, hbw⟩ : ∃ y, y = b.w := ⟨_, rfl⟩
 obtain ⟨bm, hbm⟩ : ∃ y, y = b.most := ⟨_, rfl⟩
 obtain ⟨bl, hbl⟩ : ∃ y, y = b.lines := ⟨_, rfl⟩
 have BRB := Lib.hid (fun w' (hb : Below w.heap.size w w') => BookR.below (b := b) ⟨_, _, rfl, hp, hq⟩ hb)
 rw [← hbw, ← hbm, ← hbl] at BRB ⊢
 obtain ⟨W2, hW2⟩ : ∃ W2, W2 = ((w.alloc (.cells #[.slice pa pl pc, .slice qa ql qc, .int .i64 bw, .int .i64 bm, .int .i64 bl] BoxT)).alloc (.cells #[.slice none 0 0, .slice none 0 0, .int .i64 0, .int .i64 0, .int .i64 0] BoxT)) := ⟨_, rfl⟩
 have AW : Below w.heap.size w W2 := by rw [hW2]; exact ((Below.refl _ _).alloc (Nat.le_refl _) _).alloc (by simp) _
 have S2 : W2.heap.size = w.heap.size + 2 := by rw [hW2]; simp
 have R1 : W2.ownsRow w.heap.size BoxT 5 (.slice (some ⟨w.heap.size, 0, none⟩) 1 1) 1 [.slice pa pl pc, .slice qa ql qc, .int .i64 bw, .int .i64 bm, .int .i64 bl] := by rw [hW2]; exact (own5_made w (Nat.le_refl _) _ _ _ _ _ _).alloc _
 have R2 : W2.ownsRow w.heap.size BoxT 5 (.slice (some ⟨w.heap.size + 1, 0, none⟩) 1 1) 1 [.slice none 0 0, .slice none 0 0, .int .i64 0, .int .i64 0, .int .i64 0] := by
  have := own5_made (w.alloc (.cells #[.slice pa pl pc, .slice qa ql qc, .int .i64 bw, .int .i64 bm, .int .i64 bl] BoxT)) (B := w.heap.size) (by simp) BoxT (.slice none 0 0) (.slice none 0 0) (.int .i64 0) (.int .i64 0) (.int .i64 0)
  rw [show (w.alloc (.cells #[.slice pa pl pc, .slice qa ql qc, .int .i64 bw, .int .i64 bm, .int .i64 bl] BoxT)).heap.size = w.heap.size + 1 by simp] at this
  rw [hW2]
  exact this
 have HA := Lib.hid AW
 have HS2 := Lib.hid S2
 have H1 := Lib.hid R1
 have H2 := Lib.hid R2
 have BV : Hid (Calls Tryz.prog 19 #[.agg #[.slice pa pl pc, .slice qa ql qc, .int .i64 bw, .int .i64 bm, .int .i64 bl]] W2 (Ret (.bool false) W2)) := by
  have := specBook_any b hs _ W2 (BRB.out W2 AW)
  rw [hv] at this
  exact this
 clear hp hq hbw hbm hbl AW S2 R1 R2
 unfold BoxT at hW2
 go_enter Tryz.func8, Tryz.ntmps8
 go_upto_region 1 with fail
 rw [← hW2]
 obtain ⟨r0, r1, r2, r3, r4⟩ := own5 H1.out
 clear hW2
 go_wp2_with (go_at_call 19; refine BV.out.mono ?_; rintro e w5 ⟨rfl, hb5⟩; have KR := Lib.hid (owns_below H2.out hb5); obtain ⟨p0, p1, p2, p3, p4⟩ := own5 KR.out; have n0 := World.ownsRow.frozenAt KR.out 0; have n1 := World.ownsRow.frozenAt KR.out 1; have n2 := World.ownsRow.frozenAt KR.out 2; have n3 := World.ownsRow.frozenAt KR.out 3; have n4 := World.ownsRow.frozenAt KR.out 4; have FF := Lib.hid (own5_set KR.out (.slice none 0 0) (.slice none 0 0) (.int .i64 0) (.int .i64 0) (.int .i64 0)))
 obtain ⟨y0, y1, y2, y3, y4⟩ := own5 FF.out.1
 have hsw := HS2.out
 have B5 := below_next HA.out hb5 (Nat.le_refl _)
 have FB := B5.grown FF.out.2 B5.size (fun k hk => by cases hk; omega)
 refine bodyPost_ret (v := .tuple #[.agg #[.slice none 0 0, .slice none 0 0, .int .i64 0, .int .i64 0, .int .i64 0], .string (bs [])]) (by simp [results, Tryz.results8, go_sem, y0, y1, y2, y3, y4]) rfl ⟨.slice none 0 0, .slice none 0 0, [], rfl, ⟨OwnSU.nil _ _ _, OwnT.nil _ _, fun k hk => by cases hk⟩, FB⟩
theorem implP_any (b : DBook) (hs : BookSh b) (v : Value) (w : World) (h : BookR w v b) (hz : BookN v) (l : List UInt8) (hl : l.length ≤ 3000000) (ht : LnTab w) : Calls Tryz.prog 10 #[v, .string (bs l)] w (LinePost w.heap.size (prL b l) w) := by
 unfold prL
 cases hv : bookB b with
 | true => rw [if_pos rfl]; exact implPL_any b hv v w h hz l (by omega) ht
 | false => rw [if_neg (by decide)]; exact implPL0_any b hv hs v w h l
theorem specP_any (b : DBook) (hs : BookSh b) (v : Value) (w : World) (h : BookR w v b) (hz : BookN v) (l : List UInt8) (hl : l.length ≤ 3000000) : Calls Tryz.prog 8 #[v, .string (bs l)] w (LinePost w.heap.size (prL b l) w) := by
 unfold prL
 cases hv : bookB b with
 | true => rw [if_pos rfl]; exact specPL_any b hv v w h hz l hl
 | false => rw [if_neg (by decide)]; exact specPL0_any b hv hs v w h l
end Go.Proofs.YtofnchdijanikaaGreatDoor

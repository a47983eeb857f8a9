/-
  PROVED HERE: what DrawLonelyLines hands back. Conditions: the theorem's own.
-/
import Derived.Test.YtaolkplecdbadaaDrawLon
namespace Go.Proofs.Ytaolkplecdbadaa
open Go.RowKit

theorem Dr.trans {w w1 w2 : World} {B m m' : Nat} (h : Dr w w1 B m) (k : Dr w1 w2 B m') : Dr w w2 B m' := ⟨k.1, grownBy_trans h.2.1 k.2.1, h.2.2⟩
theorem apart_of {w : World} {v u : Value} {lo base : Nat} {E : TypeId} {sz n : Nat} {xs : List Value} (hv : ∀ k, v.ownBlock = some k → lo ≤ k ∧ k < base) (hu : w.ownsRow base E sz u n xs) : v.ownBlock = none ∨ v.ownBlock ≠ u.ownBlock := by
  cases e : v.ownBlock with
  | none => exact .inl rfl
  | some k =>
    right
    intro e2
    have := (hv k e).2
    have := (hu.lt k e2.symm).1
    omega

/-- It returns a number and two rows of numbers; nothing that was there turns. -/
def DrawLon (w : World) (e : Ending) (w' : World) : Prop :=
  ∃ (M : Int) (ps pg : List Int) (v u : Value), 0 ≤ M ∧ M ≤ 40 ∧ ps.length ≤ 40 ∧ pg.length ≤ 40 ∧ e = .returned (.tuple #[.int .i64 M, v, u]) ∧ IRow w' v ps ∧ IRow w' u pg ∧ Below w.heap.size w w'

set_option maxHeartbeats 8000000 in
theorem drawLonely_any (a : Option Addr) (n cap : Nat) (w : World) (h : Code8 w a n cap) : Calls Try.prog 24 #[.slice a n cap] w (DrawLon w) := by
  have H := Lib.hid h
  obtain ⟨i0, hi, hz0, hz1, hz2⟩ := info_parts info_int
  clear h
  go_enter Try.func24, Try.ntmps24
  go_wp2_with fail
  refine (open_any a n cap w H.out).mono ?_
  rintro e w1 ⟨B, rfl, hr, hB, hb⟩
  go_wp2_with fail
  have d0 : Dr w1 w1 B 0 := Dr.start ⟨0, Nat.le_refl _, hr⟩
  refine (pick_to B 0 20 _ d0.1 (by omega) (by omega) (by omega)).mono ?_
  rintro e w2 ⟨M, M0, M1, rfl, r2, g2⟩
  have d2 := d0.pick g2 r2
  have HB := Lib.hid hb
  clear d0 r2 g2 hr hb H
  go_wp2_with fail
  refine (lineEnds_to B 1 M w2 d2.1 (by omega) (by omega) (by omega)).mono ?_
  rintro e w3 ⟨ps, v, hpl, hvn, rfl, ov, d3⟩
  have D3 := Lib.hid (d2.trans d3)
  have hBw := d3.2.2
  have hs23 := d3.size
  have hs12 := d2.size
  have hs01 : w.heap.size ≤ w1.heap.size := HB.out.size
  have KV := Lib.hid ov.lt
  clear d2 d3
  go_wp2_with fail
  refine (lineEnds_to B 31 M w3 D3.out.1 (by omega) (by omega) (by omega)).mono ?_
  rintro e w4 ⟨pg, u, hgl, hun, rfl, ou, d4⟩
  have OV := Lib.hid (own_pick ov (by omega) d4.2.1)
  have OU := Lib.hid ou
  have D4 := Lib.hid (D3.out.trans d4)
  have hs34 := d4.size
  have HVN := Lib.hid hvn
  clear ov ou d4 D3 hvn hun
  go_wp2_with fail
  refine (odd_to B 61 9 _ D4.out.1 (by omega) (by omega) (by omega)).mono ?_
  rintro e w5 ⟨bb, rfl, r5, g5⟩
  have D5 := Lib.hid (D4.out.pick g5 r5)
  have OV5 := Lib.hid (own_pick OV.out (by omega) g5)
  have OU5 := Lib.hid (own_pick OU.out (by omega) g5)
  have hs45 := g5.size
  clear r5 g5 D4 OV OU
  cases bb
  · have IU5 := Lib.hid (IRow.of_owns OU5.out)
    have KU : Hid (∀ k, u.ownBlock = some k → B < k ∧ k < w5.heap.size) := fun k hk => by have := OU5.out.lt k hk; omega
    clear OU5
    go_wp2_with fail
    refine (odd_to B 62 9 _ D5.out.1 (by omega) (by omega) (by omega)).mono ?_
    rintro e w7 ⟨bc, rfl, r7, g7⟩
    have D7 := Lib.hid (D5.out.pick g7 r7)
    have OV7 := Lib.hid (own_pick OV5.out (by omega) g7)
    have IU7 := Lib.hid (IU5.out.grown g7 (fun b hb => by have := KU.out b hb; simp; omega))
    have hs57 := g7.size
    clear r7 g7 D5 OV5 IU5
    cases bc
    · go_wp2_with fail
      refine (pick_to B 63 14 _ D7.out.1 (by omega) (by omega) (by omega)).mono ?_
      rintro e w8 ⟨z, z0, z1, rfl, r8, g8⟩
      have D8 := Lib.hid (D7.out.pick g8 r8)
      have IV8 := Lib.hid (IRow.of_owns (own_pick OV7.out (by omega) g8))
      have IU8 := Lib.hid (IU7.out.grown g8 (fun b hb => by have := KU.out b hb; simp; omega))
      clear r8 g8 D7 OV7 IU7
      go_wp2
      refine bodyPost_ret (v := .tuple #[.int .i64 (M + z / 13), v, u]) (by simp [results, Try.results24, go_sem]) rfl ⟨M + z / 13, ps, pg, v, u, by omega, by omega, by omega, by omega, rfl, IV8.out, IU8.out, D8.out.below HB.out hB⟩
    · obtain ⟨gv, cv, rfl, hg1, hg2, hg3, hg4⟩ := own_some OV7.out HVN.out
      have HNW := Lib.hid (own_ints_news OV7.out (.cells #[.int .i64 0] 3) rfl)
      have OLIT := Lib.hid (owns_lit w7 w7.heap.size 3 1 1 [.int .i64 0] (Nat.le_refl _) (by unfold maxLen; omega) rfl)
      obtain ⟨np, hnp⟩ : ∃ np, np = ps.length := ⟨_, rfl⟩
      rw [← hnp] at hpl ⊢
      have HNP := Lib.hid hnp
      have hgv : gv ≠ w7.heap.size := by omega
      clear hnp
      go_wp2_with (at_builtin; refine wpList_append_own _ rfl _ _ 32 rfl w7.heap.size 3 i0 (.int .i64 0) 1 8 Try.underlying32 hi hz0 hz1 hz2 rfl (by decide) (.slice (some ⟨w7.heap.size, 0, none⟩) 1 1) 1 [.int .i64 0] rfl OLIT.out ⟨gv, 0, none⟩ np cv (ps.map (Value.int .i64)) rfl (by rw [List.length_map, HNP.out]; simp) HNW.out (by intro z hz; obtain ⟨x, _, rfl⟩ := List.mem_map.1 hz; rfl) (by unfold maxLen; omega) (by omega) (by simp) ?_; intro v' w8 hown' hgrow _)
      have D8 := Lib.hid ((D7.out.alloc (.cells #[.int .i64 0] 3)).push OLIT.out (by omega) hgrow)
      have OV8 : Hid (w8.ownsRow w7.heap.size 3 1 v' (1 + np) ((0 :: ps).map (Value.int .i64))) := by show World.ownsRow _ _ _ _ _ _ _; simpa using hown'
      have IU8 := Lib.hid ((IU7.out.below ((Below.refl _ _).alloc (Nat.le_refl _) _)).grown hgrow (fun b hb => by have := KU.out b hb; simp [Value.ownBlock]; omega))
      have hs78 := hgrow.size
      simp at hs78
      clear hown' hgrow D7 OV7 IU7 OLIT HNW
      refine (pick_to B 63 14 _ D8.out.1 (by omega) (by omega) (by omega)).mono ?_
      rintro e w9 ⟨z, z0, z1, rfl, r9, g9⟩
      have D9 := Lib.hid (D8.out.pick g9 r9)
      have IV9 := Lib.hid (IRow.of_owns (xs := 0 :: ps) (n := 1 + np) (own_pick OV8.out (by omega) g9))
      have IU9 := Lib.hid (IU8.out.grown g9 (fun b hb => by have := KU.out b hb; simp; omega))
      clear r9 g9 D8 OV8 IU8
      go_wp2
      refine bodyPost_ret (v := .tuple #[.int .i64 (M + z / 13), v', u]) (by simp [results, Try.results24, go_sem]) rfl ⟨M + z / 13, 0 :: ps, pg, v', u, by omega, by omega, by simp; have := HNP.out; omega, by omega, rfl, IV9.out, IU9.out, D9.out.below HB.out hB⟩
  · go_wp2_with (at_builtin; refine wpList_append_own _ rfl _ _ 32 rfl w3.heap.size 3 i0 (.int .i64 0) 1 8 Try.underlying32 hi hz0 hz1 hz2 rfl (by decide) _ _ _ rfl (OU5.out.alloc _) ⟨w5.heap.size, 0, none⟩ 1 1 [.int .i64 M] rfl rfl (by simpa using cells_new w5 [_] _) (by intro u hu; simp at hu; subst hu; rfl) (by unfold maxLen; omega) (by omega) (by simp; omega) ?_; intro u' w6 hown' hgrow _)
    have D6 := Lib.hid ((D5.out.alloc (.cells #[.int .i64 M] 3)).push (OU5.out.alloc _) (by omega) hgrow)
    have OV6 := Lib.hid ((OV5.out.alloc (.cells #[.int .i64 M] 3)).kept hgrow (apart_of KV.out OU5.out))
    have IU6 : Hid (IRow w6 u' (pg ++ [M])) := IRow.of_owns (n := pg.length + 1) (by simpa using hown')
    have KU : Hid (∀ k, u'.ownBlock = some k → B < k ∧ k < w6.heap.size) := fun k hk => by have := hown'.lt k hk; omega
    have hs56 := hgrow.size
    simp at hs56
    clear hown' hgrow D5 OV5 OU5
    go_wp2_with fail
    refine (odd_to B 62 9 _ D6.out.1 (by omega) (by omega) (by omega)).mono ?_
    rintro e w7 ⟨bc, rfl, r7, g7⟩
    have D7 := Lib.hid (D6.out.pick g7 r7)
    have OV7 := Lib.hid (own_pick OV6.out (by omega) g7)
    have IU7 := Lib.hid (IU6.out.grown g7 (fun b hb => by have := KU.out b hb; simp; omega))
    have hs57 := g7.size
    clear r7 g7 D6 OV6 IU6
    cases bc
    · go_wp2_with fail
      refine (pick_to B 63 14 _ D7.out.1 (by omega) (by omega) (by omega)).mono ?_
      rintro e w8 ⟨z, z0, z1, rfl, r8, g8⟩
      have D8 := Lib.hid (D7.out.pick g8 r8)
      have IV8 := Lib.hid (IRow.of_owns (own_pick OV7.out (by omega) g8))
      have IU8 := Lib.hid (IU7.out.grown g8 (fun b hb => by have := KU.out b hb; simp; omega))
      clear r8 g8 D7 OV7 IU7
      go_wp2
      refine bodyPost_ret (v := .tuple #[.int .i64 (M + z / 13), v, u']) (by simp [results, Try.results24, go_sem]) rfl ⟨M + z / 13, ps, pg ++ [M], v, u', by omega, by omega, by omega, by simp; omega, rfl, IV8.out, IU8.out, D8.out.below HB.out hB⟩
    · obtain ⟨gv, cv, rfl, hg1, hg2, hg3, hg4⟩ := own_some OV7.out HVN.out
      have HNW := Lib.hid (own_ints_news OV7.out (.cells #[.int .i64 0] 3) rfl)
      have OLIT := Lib.hid (owns_lit w7 w7.heap.size 3 1 1 [.int .i64 0] (Nat.le_refl _) (by unfold maxLen; omega) rfl)
      obtain ⟨np, hnp⟩ : ∃ np, np = ps.length := ⟨_, rfl⟩
      rw [← hnp] at hpl ⊢
      have HNP := Lib.hid hnp
      have hgv : gv ≠ w7.heap.size := by omega
      clear hnp
      go_wp2_with (at_builtin; refine wpList_append_own _ rfl _ _ 32 rfl w7.heap.size 3 i0 (.int .i64 0) 1 8 Try.underlying32 hi hz0 hz1 hz2 rfl (by decide) (.slice (some ⟨w7.heap.size, 0, none⟩) 1 1) 1 [.int .i64 0] rfl OLIT.out ⟨gv, 0, none⟩ np cv (ps.map (Value.int .i64)) rfl (by rw [List.length_map, HNP.out]; simp) HNW.out (by intro z hz; obtain ⟨x, _, rfl⟩ := List.mem_map.1 hz; rfl) (by unfold maxLen; omega) (by omega) (by simp) ?_; intro v' w8 hown' hgrow _)
      have D8 := Lib.hid ((D7.out.alloc (.cells #[.int .i64 0] 3)).push OLIT.out (by omega) hgrow)
      have OV8 : Hid (w8.ownsRow w7.heap.size 3 1 v' (1 + np) ((0 :: ps).map (Value.int .i64))) := by show World.ownsRow _ _ _ _ _ _ _; simpa using hown'
      have IU8 := Lib.hid ((IU7.out.below ((Below.refl _ _).alloc (Nat.le_refl _) _)).grown hgrow (fun b hb => by have := KU.out b hb; simp [Value.ownBlock]; omega))
      have hs78 := hgrow.size
      simp at hs78
      clear hown' hgrow D7 OV7 IU7 OLIT HNW
      refine (pick_to B 63 14 _ D8.out.1 (by omega) (by omega) (by omega)).mono ?_
      rintro e w9 ⟨z, z0, z1, rfl, r9, g9⟩
      have D9 := Lib.hid (D8.out.pick g9 r9)
      have IV9 := Lib.hid (IRow.of_owns (xs := 0 :: ps) (n := 1 + np) (own_pick OV8.out (by omega) g9))
      have IU9 := Lib.hid (IU8.out.grown g9 (fun b hb => by have := KU.out b hb; simp; omega))
      clear r9 g9 D8 OV8 IU8
      go_wp2
      refine bodyPost_ret (v := .tuple #[.int .i64 (M + z / 13), v', u']) (by simp [results, Try.results24, go_sem]) rfl ⟨M + z / 13, 0 :: ps, pg ++ [M], v', u', by omega, by omega, by simp; have := HNP.out; omega, by simp; omega, rfl, IV9.out, IU9.out, D9.out.below HB.out hB⟩
end Go.Proofs.Ytaolkplecdbadaa

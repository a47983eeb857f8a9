/-
  PROVED HERE: what drawing lines for rivers hands back. Conditions: each theorem's own.
-/
import Derived.Test.YtaolkplecdbadaaDr
import Derived.Test.YtaolkplecdbadaaMine
import Derived.Test.YtaolkplecdbadaaStr
import Derived.Test.YtaolkplecdbadaaRegDraw
import Derived.Laws.BytesArg
import Derived.Deep.Cut
import Derived.Deep.Onto
namespace Go.Proofs.Ytaolkplecdbadaa
open Go.RowKit

theorem info_uint8 : (Try.prog.info? 5).map (fun i => (i.zero, i.size, i.bytes)) = some (some (.int .u8 0), 1, 1) := by kernel_rfl
theorem dr_made {w wx w' : World} {B m : Nat} (h : Dr w wx B m) (hg : wx.grownBy w' none) : Dr w w' B m :=
  ⟨h.1.kept hg (by intro k h; cases h), grownBy_trans h.2.1 ⟨hg.os, hg.tape, hg.output, hg.size, fun k hk _ => hg.block k hk (by simp)⟩, h.2.2⟩
theorem own_made {wx w' : World} {base : Nat} {E : TypeId} {sz n : Nat} {v : Value} {xs : List Value} (ho : wx.ownsRow base E sz v n xs) (hg : wx.grownBy w' none) : w'.ownsRow base E sz v n xs :=
  ho.kept hg (by cases h : v.ownBlock with | none => exact .inl rfl | some k => exact .inr (by simp))
def Sh100 (xs : List ByteArray) : Prop := ∀ s ∈ xs, s.size ≤ 100
theorem Sh100.snoc {xs : List ByteArray} (h : Sh100 xs) {s : ByteArray} (hs : s.size ≤ 100) : Sh100 (xs ++ [s]) := fun x hx => by
  rcases List.mem_append.1 hx with hx | hx
  · exact h x hx
  · rw [List.mem_singleton.1 hx]; exact hs
theorem made61 (i : Nat) (hi : i < 61) : (madeCells (Value.int .u8 0).cells (61 * 1)).toList[i]? = some (.int .u8 0) := by
  unfold madeCells
  simp [hi, Value.cells, Nat.mod_one]
theorem conv61 (w : World) (g : Nat) {base : Nat} (h : w.ownsRow base 5 1 (.slice (some ⟨g, 0, none⟩) 61 61) 61 (madeCells (Value.int .u8 0).cells (61 * 1)).toList) : ∃ y : ByteArray, y.size = 61 ∧ (convert 28 9 (.slice (some ⟨g, 0, none⟩) 61 61)).run Try.prog w = .ok (.string y) w := by
  refine ⟨strOfNums (List.replicate 61 0), by rw [strOfNums_size]; simp, ?_⟩
  refine run_convert_bytes_arg (P := Try.prog) w 28 5 Try.underlying28 Try.underlying5 g 0 61 61 (List.replicate 61 0) (by simp) (fun i hi => ?_) 9 Try.underlying9
  have e : (List.replicate 61 (0 : Int)).getD i 0 = 0 := by rw [List.getD_eq_getElem?_getD, List.getElem?_replicate]; split <;> rfl
  rw [Nat.zero_add, h.cellAt i (by omega), made61 i hi, e]

/-- It returns lines of its own, and a number; nothing that was there turns. -/
def DrawRiv (w : World) (e : Ending) (w' : World) : Prop :=
  ∃ (xs : List ByteArray) (v : Value) (l : Int), xs.length ≤ 9 ∧ Sh100 xs ∧ 1 ≤ l ∧ l ≤ 9 ∧ e = .returned (.tuple #[v, .int .i64 l]) ∧ w'.ownsRow w.heap.size 9 1 v xs.length (xs.flatMap encS) ∧ Below w.heap.size w w'

set_option maxRecDepth 100000 in
set_option maxHeartbeats 8000000 in
theorem drawRivers_any (a : Option Addr) (n cap : Nat) (w : World) (h : Code8 w a n cap) : Calls Try.prog 31 #[.slice a n cap] w (DrawRiv w) := by
  have H := Lib.hid h
  obtain ⟨i0, hi, hz0, hz1, hz2⟩ := info_parts info_string
  obtain ⟨i1, hu1, hy0, hy1, hy2⟩ := info_parts info_uint8
  clear h
  go_enter Try.func31, Try.ntmps31
  go_wp2_with fail
  refine (open_any a n cap w H.out).mono ?_
  rintro e w1 ⟨B, rfl, hr, hB, hb⟩
  have hBw := hr.lt
  have HB := Lib.hid hb
  have D0 := Lib.hid ((Dr.start (⟨0, Nat.le_refl _, hr⟩ : RdTo B 0 w1)).alloc (.cells #[] 9))
  have O0 := Lib.hid (World.ownsRow_made (base := w1.heap.size) (e := 9) (size := 1) w1 #[] 0 (Nat.le_refl _) (Nat.zero_le _) rfl)
  clear hr hb H
  go_wp2_with fail
  refine (pick_to B 0 8 _ D0.out.1 (by omega) (by omega) (by omega)).mono ?_
  rintro e w2 ⟨k1, a1, b1, rfl, r1, g1⟩
  have D1 := Lib.hid (D0.out.pick g1 r1)
  have O1 := Lib.hid (own_pick O0.out hBw g1)
  clear r1 g1 D0 O0
  go_wp2_with fail
  go_loopw [5, 6] (fun v i wr => ∃ k j : Nat, k + j ≤ 7 ∧ i = .int .i64 j ∧ Hid (∃ xs : List ByteArray, xs.length = k ∧ Sh100 xs ∧ wr.ownsRow w1.heap.size 9 1 v k (xs.flatMap encS)) ∧ Hid (Dr w1 wr B (1 + 9 * k))) (fun _ i _ => (intOf i).toNat)
  case atStart => exact ⟨0, k1.toNat, by omega, by simp; omega, ⟨[], rfl, (fun s hs => by cases hs), O1.out⟩, D1.out⟩
  case round =>
    obtain ⟨k, j, hk, rfl, ho, hd⟩ := hrel
    clear D1 O1
    by_cases hj : 0 < j
    · obtain ⟨xs, hxl, hxs, hown⟩ := ho.out
      have HXS := Lib.hid hxs
      have HXL := Lib.hid hxl
      clear ho hxs hxl
      go_wp2_with fail
      refine (pick_to B (1 + 9 * k) 9 _ hd.out.1 (by omega) (by omega) (by omega)).mono ?_
      rintro e w3 ⟨q1, qa, qb, rfl, r3, g3⟩
      have D3 := Lib.hid (hd.out.pick g3 r3)
      have O3 := Lib.hid (own_pick hown hBw g3)
      clear r3 g3 hown hd
      go_wp2_with fail
      go_loopw [7, 8] (fun sv ji wr => ∃ (q m : Nat) (s : ByteArray), q + m ≤ 8 ∧ ji = .int .i64 m ∧ sv = .string s ∧ s.size ≤ 2 * q ∧ Hid (wr.ownsRow w1.heap.size 9 1 u5 k (xs.flatMap encS)) ∧ Hid (Dr w1 wr B (1 + 9 * k + 1 + q))) (fun _ ji _ => (intOf ji).toNat)
      case atStart => exact ⟨0, q1.toNat, _, by omega, by simp; omega, rfl, Nat.le_refl _, O3.out, D3.out⟩
      case round =>
        obtain ⟨q, m, s, hq, rfl, rfl, hs, how, hdr⟩ := hrel
        clear D3 O3
        by_cases hm : 0 < m
        · have D4 := Lib.hid (hdr.out.alloc (.cells #[.string ⟨#[97]⟩, .string ⟨#[32]⟩, .string ⟨#[98, 99]⟩, .string ⟨#[32, 100]⟩] 9))
          have N4 := Lib.hid (how.out.alloc (.cells #[.string ⟨#[97]⟩, .string ⟨#[32]⟩, .string ⟨#[98, 99]⟩, .string ⟨#[32, 100]⟩] 9))
          have hlt4 := hdr.out.1.lt
          clear how hdr
          go_wp2_with fail
          refine (pick_to B (1 + 9 * k + 1 + q) 4 _ D4.out.1 (by omega) (by omega) (by omega)).mono ?_
          rintro e w5 ⟨z, z0, z1, rfl, r5, g5⟩
          have c1 := fun i (u : Value) (hu : (#[.string ⟨#[97]⟩, .string ⟨#[32]⟩, .string ⟨#[98, 99]⟩, .string ⟨#[32, 100]⟩] : Array Value)[i]? = some u) => g5.cell (a := ⟨wr.heap.size, i, none⟩) (v := u) ((World.cell?_alloc_at _ _ _ _ rfl).trans hu) (by simp; omega)
          obtain ⟨y, e1, hy⟩ : ∃ y : ByteArray, w5.cell? ⟨wr.heap.size, z.toNat, none⟩ = some (.string y) ∧ y.size ≤ 2 := by
            rcases (by omega : z = 0 ∨ z = 1 ∨ z = 2 ∨ z = 3) with rfl | rfl | rfl | rfl
            · exact ⟨_, c1 0 _ rfl, by decide⟩
            · exact ⟨_, c1 1 _ rfl, by decide⟩
            · exact ⟨_, c1 2 _ rfl, by decide⟩
            · exact ⟨_, c1 3 _ rfl, by decide⟩
          have D5 := Lib.hid (D4.out.pick g5 r5)
          have N5 := Lib.hid (own_pick N4.out (by omega) g5)
          have hsy : Hid ((s ++ y).size ≤ 2 * (q + 1)) := by
            show _ ≤ _
            have e : (s ++ y).size = s.size + y.size := by simp
            omega
          have hz63 : z.toNat < 4 := by omega
          clear c1 r5 g5 D4 N4
          go_wp2
          exact ⟨⟨q + 1, m - 1, s ++ y, by omega, by go_num, rfl, hsy.out, N5.out, D5.out⟩, by simp [intOf]; omega⟩
        · have hs100 : s.size ≤ 100 := by omega
          have hws := hdr.out.size
          go_wp2_with (at_builtin; refine wpList_append_own _ rfl _ _ 22 rfl w1.heap.size 9 i0 (.string ByteArray.empty) 1 16 Try.underlying22 hi hz0 hz1 hz2 rfl (by decide) _ _ _ rfl (how.out.alloc _) ⟨wr.heap.size, 0, none⟩ 1 1 [.string s] rfl rfl (by simpa using cells_new wr [_] _) (by intro u hu; simp at hu; subst hu; rfl) (by unfold maxLen; omega) (by omega) (by simp; omega) ?_; intro u' w9 hown' hgrow hiff)
          have dF := (hdr.out.alloc (.cells #[.string s] 9)).push (how.out.alloc _) (Nat.le_refl _) hgrow
          clear hiff
          go_roundw
          case rel => exact ⟨k + 1, j - 1, by omega, by go_num, ⟨xs ++ [s], by have := HXL.out; simp [this], HXS.out.snoc hs100, by simpa [encS] using hown'⟩, dF.mono (by omega)⟩
          case measure => simp [intOf]; omega
    · obtain ⟨xs, hxk, hxs, hown⟩ := ho.out
      have HXS := Lib.hid hxs
      have HXK := Lib.hid hxk
      have hk7 : k ≤ 7 := by omega
      clear ho hxs hxk
      go_wp2_with fail
      refine (odd_to B (1 + 9 * k) 14 _ hd.out.1 (by omega) (by omega) (by omega)).mono ?_
      rintro e w4 ⟨bb, rfl, r4, g4⟩
      have D4 := Lib.hid (hd.out.pick g4 r4)
      have O4 := Lib.hid (own_pick hown hBw g4)
      clear hd hown r4 g4
      cases bb
      · go_wp2_with fail
        obtain ⟨p0, hp0, hr⟩ := D4.out.1
        refine draw_region _ _ B p0 11 [42, 43, 44, 45, 46, 47, 48, 49, 50, 2, 3] [Ty.is (u5), Ty.sl 4 (1) (9), Ty.sl 7 (0) (3), Ty.rd, Ty.num (0) (6), Ty.el (0) (3), Ty.num (0) (3), Ty.el (1) (9), Ty.num (1) (9), Ty.is (u5), Ty.num (1) (9)] (by kernel_rfl) (by kernel_rfl) hr (by omega) ?_ ?_
        · intro m i o a w hm ho hF hI hA
          have hrd : a.tmps.getD 4 undef = .pointer (some ⟨B, 0, none⟩) := by
            have h := hF.2.2 4 (by intro i hi; revert i; decide)
            rw [Array.getD_eq_getD_getElem?, h]
            rfl
          have hw5 : a.tmps.getD 5 undef = u5 := by
            have h := hF.2.2 5 (by intro i hi; revert i; decide)
            rw [Array.getD_eq_getD_getElem?, h]
            rfl
          match i, ho with
          | 0, ho =>
            obtain rfl := Option.some.inj ho
            refine wpOp_of rfl rfl ?_
            exact step_move _ (.inl rfl) rfl hI hw5
          | 1, ho =>
            obtain rfl := Option.some.inj ho
            refine wpOp_of rfl rfl ?_
            exact step_build [2, 3, 1, 9] 4 3 rfl hI rfl (by simp [go_sem]) (by decide)
          | 2, ho =>
            obtain rfl := Option.some.inj ho
            refine wpOp_of rfl rfl ?_
            exact step_build [0, 0, 0, 1, 1, 2, 3] 7 3 rfl hI rfl (by simp [go_sem]) (by decide)
          | 3, ho =>
            obtain rfl := Option.some.inj ho
            refine wpOp_of rfl rfl ?_
            exact step_move _ (.inl rfl) rfl hI hrd
          | 4, ho =>
            obtain rfl := Option.some.inj ho
            have h3 := hA ⟨3, .data⟩ (by simp) rfl
            refine wpOp_of rfl rfl ?_
            exact step_pick _ _ rfl rfl hI (by omega) h3 (by decide) (by decide) (by decide)
          | 5, ho =>
            obtain rfl := Option.some.inj ho
            have h2 := hA ⟨2, .data⟩ (by simp) rfl
            have h4 := hA ⟨4, .data⟩ (by simp) rfl
            refine wpOp_of rfl rfl ?_
            exact step_index _ _ _ rfl Try.underlying32 rfl hI h2 h4 (by decide) (by decide)
          | 6, ho =>
            obtain rfl := Option.some.inj ho
            have h5 := hA ⟨5, .data⟩ (by simp) rfl
            refine wpOp_of rfl rfl ?_
            exact step_load _ rfl rfl hI h5
          | 7, ho =>
            obtain rfl := Option.some.inj ho
            have h1 := hA ⟨1, .data⟩ (by simp) rfl
            have h6 := hA ⟨6, .data⟩ (by simp) rfl
            refine wpOp_of rfl rfl ?_
            exact step_index _ _ _ rfl Try.underlying32 rfl hI h1 h6 (by decide) (by decide)
          | 8, ho =>
            obtain rfl := Option.some.inj ho
            have h7 := hA ⟨7, .data⟩ (by simp) rfl
            refine wpOp_of rfl rfl ?_
            exact step_load _ rfl rfl hI h7
          | 9, ho =>
            obtain rfl := Option.some.inj ho
            have h0 := hA ⟨0, .data⟩ (by simp) rfl
            refine wpOp_of rfl rfl ?_
            exact step_move _ (.inr rfl) rfl hI h0
          | 10, ho =>
            obtain rfl := Option.some.inj ho
            have h8 := hA ⟨8, .data⟩ (by simp) rfl
            refine wpOp_of rfl rfl ?_
            exact step_move _ (.inr rfl) rfl hI h8
          | _ + 11, ho => exact absurd ho (by simp)
        · intro vs w2 hvs hA hr2 hg2
          match vs, hvs with
          | x0 :: x1 :: x2 :: x3 :: x4 :: x5 :: x6 :: x7 :: x8 :: x9 :: x10 :: [], _ =>
            obtain rfl : u5 = x9 := Eq.symm (hA 9 (by decide))
            obtain ⟨l, hxl, hql⟩ := hA 10 (by decide)
            subst hxl
            go_wp2
            have d2 := D4.out.pick hg2 ⟨_, Nat.le_refl _, hr2.choose_spec.2⟩
            go_ret2
            refine ⟨xs, u5, l, by rw [HXK.out]; omega, HXS.out, hql.1, hql.2, by kernel_rfl, by rw [HXK.out]; exact World.ownsRow.mono (own_pick O4.out hBw hg2) HB.out.size, d2.below HB.out hB⟩
      · go_wp2_with (first | (at_make; refine wpList_make_full _ rfl _ _ 28 rfl w4.heap.size 5 i1 (.int .u8 0) 1 Try.underlying28 hu1 hy0 hy1 .i64 .i64 _ _ 61 rfl rfl rfl rfl (by rw [hy2]; omega) (by unfold maxLen; omega) (Nat.le_refl _) ?_; intro w5 hown1 hgrow1; obtain ⟨y, hy61, hcv⟩ := conv61 w5 w4.heap.size hown1; have D5 := Lib.hid (dr_made D4.out hgrow1); have O5 := Lib.hid (own_made O4.out hgrow1);  have hs5 := hgrow1.size; have hws := D5.out.size; clear hown1 hgrow1) | (at_builtin; refine wpList_append_own _ rfl _ _ 22 rfl w1.heap.size 9 i0 (.string ByteArray.empty) 1 16 Try.underlying22 hi hz0 hz1 hz2 rfl (by decide) _ _ _ rfl (O5.out.alloc _) ⟨w5.heap.size, 0, none⟩ 1 1 [.string y] rfl rfl (by simpa using cells_new w5 [_] _) (by intro u hu; simp at hu; subst hu; rfl) (by unfold maxLen; omega) (by omega) (by simp; omega) ?_; intro u' w9 hown' hgrow hiff))
        have D6 := Lib.hid ((D5.out.alloc (.cells #[.string y] 9)).push (O5.out.alloc _) (Nat.le_refl _) hgrow)
        have O6 : Hid (World.ownsRow w9 w1.heap.size 9 1 u' (k + 1) ((xs ++ [y]).flatMap encS)) := by show World.ownsRow _ _ _ _ _ _ _; simpa [encS] using hown'
        have SH6 := Lib.hid (HXS.out.snoc (show y.size ≤ 100 by omega))
        clear hiff hgrow hown' D4 O4 D5 O5
        obtain ⟨p0, hp0, hr⟩ := D6.out.1
        refine draw_region _ _ B p0 11 [42, 43, 44, 45, 46, 47, 48, 49, 50, 2, 3] [Ty.is (u'), Ty.sl 4 (1) (9), Ty.sl 7 (0) (3), Ty.rd, Ty.num (0) (6), Ty.el (0) (3), Ty.num (0) (3), Ty.el (1) (9), Ty.num (1) (9), Ty.is (u'), Ty.num (1) (9)] (by kernel_rfl) (by kernel_rfl) hr (by omega) ?_ ?_
        · intro m i o a w hm ho hF hI hA
          have hrd : a.tmps.getD 4 undef = .pointer (some ⟨B, 0, none⟩) := by
            have h := hF.2.2 4 (by intro i hi; revert i; decide)
            rw [Array.getD_eq_getD_getElem?, h]
            rfl
          have hw5 : a.tmps.getD 5 undef = u' := by
            have h := hF.2.2 5 (by intro i hi; revert i; decide)
            rw [Array.getD_eq_getD_getElem?, h]
            rfl
          match i, ho with
          | 0, ho =>
            obtain rfl := Option.some.inj ho
            refine wpOp_of rfl rfl ?_
            exact step_move _ (.inl rfl) rfl hI hw5
          | 1, ho =>
            obtain rfl := Option.some.inj ho
            refine wpOp_of rfl rfl ?_
            exact step_build [2, 3, 1, 9] 4 3 rfl hI rfl (by simp [go_sem]) (by decide)
          | 2, ho =>
            obtain rfl := Option.some.inj ho
            refine wpOp_of rfl rfl ?_
            exact step_build [0, 0, 0, 1, 1, 2, 3] 7 3 rfl hI rfl (by simp [go_sem]) (by decide)
          | 3, ho =>
            obtain rfl := Option.some.inj ho
            refine wpOp_of rfl rfl ?_
            exact step_move _ (.inl rfl) rfl hI hrd
          | 4, ho =>
            obtain rfl := Option.some.inj ho
            have h3 := hA ⟨3, .data⟩ (by simp) rfl
            refine wpOp_of rfl rfl ?_
            exact step_pick _ _ rfl rfl hI (by omega) h3 (by decide) (by decide) (by decide)
          | 5, ho =>
            obtain rfl := Option.some.inj ho
            have h2 := hA ⟨2, .data⟩ (by simp) rfl
            have h4 := hA ⟨4, .data⟩ (by simp) rfl
            refine wpOp_of rfl rfl ?_
            exact step_index _ _ _ rfl Try.underlying32 rfl hI h2 h4 (by decide) (by decide)
          | 6, ho =>
            obtain rfl := Option.some.inj ho
            have h5 := hA ⟨5, .data⟩ (by simp) rfl
            refine wpOp_of rfl rfl ?_
            exact step_load _ rfl rfl hI h5
          | 7, ho =>
            obtain rfl := Option.some.inj ho
            have h1 := hA ⟨1, .data⟩ (by simp) rfl
            have h6 := hA ⟨6, .data⟩ (by simp) rfl
            refine wpOp_of rfl rfl ?_
            exact step_index _ _ _ rfl Try.underlying32 rfl hI h1 h6 (by decide) (by decide)
          | 8, ho =>
            obtain rfl := Option.some.inj ho
            have h7 := hA ⟨7, .data⟩ (by simp) rfl
            refine wpOp_of rfl rfl ?_
            exact step_load _ rfl rfl hI h7
          | 9, ho =>
            obtain rfl := Option.some.inj ho
            have h0 := hA ⟨0, .data⟩ (by simp) rfl
            refine wpOp_of rfl rfl ?_
            exact step_move _ (.inr rfl) rfl hI h0
          | 10, ho =>
            obtain rfl := Option.some.inj ho
            have h8 := hA ⟨8, .data⟩ (by simp) rfl
            refine wpOp_of rfl rfl ?_
            exact step_move _ (.inr rfl) rfl hI h8
          | _ + 11, ho => exact absurd ho (by simp)
        · intro vs w2 hvs hA hr2 hg2
          match vs, hvs with
          | x0 :: x1 :: x2 :: x3 :: x4 :: x5 :: x6 :: x7 :: x8 :: x9 :: x10 :: [], _ =>
            obtain rfl : u' = x9 := Eq.symm (hA 9 (by decide))
            obtain ⟨l, hxl, hql⟩ := hA 10 (by decide)
            subst hxl
            go_wp2
            have d2 := D6.out.pick hg2 ⟨_, Nat.le_refl _, hr2.choose_spec.2⟩
            go_ret2
            refine ⟨(xs ++ [y]), u', l, by rw [List.length_append, HXK.out]; simp; omega, SH6.out, hql.1, hql.2, by kernel_rfl, by rw [List.length_append, HXK.out]; exact World.ownsRow.mono (own_pick O6.out hBw hg2) HB.out.size, d2.below HB.out hB⟩
end Go.Proofs.Ytaolkplecdbadaa

/-
  PROVED HERE: what the drawing function of folded sheets hands back. Conditions: each theorem's own.
-/
import Derived.Test.YtgbbodmggbeflaaDr
import Derived.Test.YtgbbodmggbeflaaSheetS
import Derived.Test.YtgbbodmggbeflaaSheetE
import Derived.Deep.Cut
import Derived.Deep.CutRange
set_option linter.unusedVariables false
set_option linter.unusedSimpArgs false
namespace Go.Proofs.Ytgbbodmggbeflaa
open Go.RowKit

/-- While sheets are drawn: the reader stands; the sheets are the call's own. -/
def Fd (w wx : World) (B m base : Nat) (v : Value) (xs : List (List Int)) (us : List Value) : Prop := Dr w wx B m ∧ w.heap.size ≤ base ∧ OwnShU wx base wx.heap.size v xs us
theorem Dr.grow {w wx w' : World} {B m : Nat} (h : Dr w wx B m) (hb : Below wx.heap.size wx w') : Dr w w' B m :=
  ⟨h.1.kept (grown_of_below hb none) (by intro k h; cases h), grownBy_trans h.2.1 (grown_of_below hb _), h.2.2⟩
theorem Fd.pick {w wx w' : World} {B m m' base : Nat} {v : Value} {xs : List (List Int)} {us : List Value} (h : Fd w wx B m base v xs us) (hg : wx.grownBy w' (some B)) (hr : RdTo B m' w') : Fd w w' B m' base v xs us :=
  ⟨h.1.pick hg hr, h.2.1, (h.2.2.kept (fun k h1 _ h3 => hg.block k h3 (by have := h.1.2.2; have := h.2.1; simp; omega))).wider hg.size⟩
theorem Fd.alloc {w wx : World} {B m base : Nat} {v : Value} {xs : List (List Int)} {us : List Value} (h : Fd w wx B m base v xs us) (o : Obj) : Fd w (wx.alloc o) B m base v xs us :=
  ⟨h.1.alloc o, h.2.1, (h.2.2.kept (fun k _ _ h3 => Below.heap_alloc wx o k h3)).wider (by simp)⟩
theorem Fd.mono {w wx : World} {B m m' base : Nat} {v : Value} {xs : List (List Int)} {us : List Value} (h : Fd w wx B m base v xs us) (hm : m ≤ m') : Fd w wx B m' base v xs us := ⟨h.1.mono hm, h.2⟩
theorem Fd.row {w wx : World} {B m base : Nat} {v : Value} {xs : List (List Int)} {us : List Value} (h : Fd w wx B m base v xs us) : wx.ownsRow base 59 1 v xs.length us := h.2.2.2.1
theorem Fd.push {w wx w' : World} {B m base : Nat} {v v' : Value} {xs : List (List Int)} {us : List Value} (h : Fd w wx B m base v xs us) (hbase : base ≤ wx.heap.size) (x : List Int) (n : Nat) (hn : x.length = n) (hx : n ≤ maxLen)
    (hgrow : ((wx.alloc (.cells (x.map (Value.int .i64)).toArray 3)).alloc (.cells #[.slice (some ⟨wx.heap.size, 0, none⟩) n n] 59)).grownBy w' v.ownBlock)
    (hmv : Moved ((wx.alloc (.cells (x.map (Value.int .i64)).toArray 3)).alloc (.cells #[.slice (some ⟨wx.heap.size, 0, none⟩) n n] 59)) v v')
    (ho : w'.ownsRow base 59 1 v' (xs.length + 1) (us ++ [.slice (some ⟨wx.heap.size, 0, none⟩) n n])) :
    Fd w w' B m base v' (xs ++ [x]) (us ++ [.slice (some ⟨wx.heap.size, 0, none⟩) n n]) := by
  subst hn
  have d := (h.1.alloc (.cells (x.map (Value.int .i64)).toArray 3)).alloc (.cells #[.slice (some ⟨wx.heap.size, 0, none⟩) x.length x.length] 59)
  have o := (h.row.alloc (.cells (x.map (Value.int .i64)).toArray 3)).alloc (.cells #[.slice (some ⟨wx.heap.size, 0, none⟩) x.length x.length] 59)
  have q := (h.2.2.kept (fun k _ _ h3 => Below.heap_alloc wx (.cells (x.map (Value.int .i64)).toArray 3) k h3)).kept (fun k _ h2 h3 => Below.heap_alloc _ (.cells #[.slice (some ⟨wx.heap.size, 0, none⟩) x.length x.length] 59) k h3)
  exact ⟨d.push o h.2.1 hgrow, h.2.1, OwnShU.snoc q (Nat.le_refl _) (by simp; omega) ((owns_lit wx base 3 1 x.length _ hbase hx (by simp)).alloc _) hgrow hmv ho⟩
theorem Fd.push2 {w wx wP w' : World} {B m base : Nat} {v v' : Value} {xs : List (List Int)} {us : List Value} (h : Fd w wx B m base v xs us) (hbase : base ≤ wx.heap.size) (x : List Int) (n : Nat) (hn : x.length = n) (hm : wx.grownBy wP none)
    (hx : wP.ownsRow wx.heap.size 3 1 (.slice (some ⟨wx.heap.size, 0, none⟩) n n) n (x.map (Value.int .i64)))
    (hgrow : (wP.alloc (.cells #[.slice (some ⟨wx.heap.size, 0, none⟩) n n] 59)).grownBy w' v.ownBlock)
    (hmv : Moved (wP.alloc (.cells #[.slice (some ⟨wx.heap.size, 0, none⟩) n n] 59)) v v')
    (ho : w'.ownsRow base 59 1 v' (xs.length + 1) (us ++ [.slice (some ⟨wx.heap.size, 0, none⟩) n n])) :
    Fd w w' B m base v' (xs ++ [x]) (us ++ [.slice (some ⟨wx.heap.size, 0, none⟩) n n]) := by
  subst hn
  have hne : ∀ u : Value, u.ownBlock = none ∨ u.ownBlock ≠ none := fun u => by cases u.ownBlock <;> simp
  have d0 : Dr w wP B m := ⟨h.1.1.kept hm (by intro k h; cases h), grownBy_trans h.1.2.1 ⟨hm.os, hm.tape, hm.output, hm.size, fun k hk _ => hm.block k hk (by simp)⟩, h.1.2.2⟩
  have d := d0.alloc (.cells #[.slice (some ⟨wx.heap.size, 0, none⟩) x.length x.length] 59)
  have o := (h.row.kept hm (hne _)).alloc (.cells #[.slice (some ⟨wx.heap.size, 0, none⟩) x.length x.length] 59)
  have q := (h.2.2.kept (w' := wP) (fun k _ _ h3 => hm.block k h3 (by simp))).kept (fun k _ h2 h3 => Below.heap_alloc _ (.cells #[.slice (some ⟨wx.heap.size, 0, none⟩) x.length x.length] 59) k h3)
  have hl := (hx.lt wx.heap.size rfl).2
  exact ⟨d.push o h.2.1 hgrow, h.2.1, OwnShU.snoc q (Nat.le_refl _) (by simp; omega) ((World.ownsRow.mono hx hbase).alloc _) hgrow hmv ho⟩
theorem Fd.base {w wx : World} {B m base : Nat} {v : Value} {xs : List (List Int)} {us : List Value} (h : Fd w wx B m base v xs us) : w.heap.size ≤ wx.heap.size := h.1.size

theorem made_ints (n : Nat) : (madeCells (Value.int .i64 0).cells (n * 1)).toList = (List.replicate n (0 : Int)).map (Value.int .i64) := by
  have e : (Value.int .i64 0).cells = #[.int .i64 0] := by simp [Value.cells]
  rw [e, Nat.mul_one]
  unfold madeCells
  apply List.ext_getElem
  · simp
  · intro i h1 h2
    simp [Nat.mod_one]
/-- It returns some sheets; nothing that was there turns. -/
def DrawSh (w : World) (e : Ending) (w' : World) : Prop :=
  ∃ (xs : List (List Int)) (v : Value) (us : List Value) (base : Nat), xs.length ≤ 102 ∧ e = .returned v ∧ OwnShU w' base w'.heap.size v xs us ∧ Below w.heap.size w w'

set_option maxHeartbeats 4000000 in
theorem drawFold_any (a : Option Addr) (n cap : Nat) (w : World) (h : Code8 w a n cap) : Calls Try.prog 47 #[.slice a n cap] w (DrawSh w) := by
  have H := Lib.hid h
  obtain ⟨i0, hi, hz0, hz1, hz2⟩ := info_parts info_Sheet
  obtain ⟨j0, hj, hy0, hy1, hy2⟩ := info_parts info_int
  clear h
  go_enter Try.func47, Try.ntmps47
  go_wp2_with fail
  refine (open_any a n cap w H.out).mono ?_
  rintro e w1 ⟨B, rfl, hr, hB, hb⟩
  have HB := Lib.hid hb
  clear hb H
  go_wp2_with fail
  refine (pick_to B 0 30 w1 ⟨0, Nat.le_refl _, hr⟩ (by omega) (by omega) (by omega)).mono ?_
  rintro e w2 ⟨k, k0, k1, rfl, r2, g2⟩
  have D2 := Lib.hid ((Dr.start ⟨0, Nat.le_refl _, hr⟩ : Dr w1 w1 B 0).pick g2 r2)
  clear hr r2 g2
  go_wp2_with fail
  refine (specSheets_any k w2).mono ?_
  rintro e w3 ⟨v, rfl, ⟨us, o3⟩, b3⟩
  have hl : (shs k).length ≤ 100 := by unfold shs; rw [shN_len]; have := shC_bd k; omega
  obtain ⟨xs, hxs⟩ : ∃ xs, xs = shs k := ⟨_, rfl⟩
  rw [← hxs] at o3 hl
  have hb12 := D2.out.size
  obtain ⟨base, hbs⟩ : ∃ base, base = w2.heap.size := ⟨_, rfl⟩
  have hb3 : base ≤ w3.heap.size := by rw [hbs]; exact b3.size
  rw [← hbs] at o3 hb12
  have F3 : Hid (Fd w1 w3 B 1 base v xs us) := ⟨D2.out.grow b3, hb12, o3⟩
  clear D2 o3 b3 hxs hbs
  go_wp2_with fail
  refine (odd_to B 1 3 w3 F3.out.1.1 (by omega) (by omega) (by omega)).mono ?_
  rintro e w4 ⟨b, rfl, r4, g4⟩
  have F4 := Lib.hid (F3.out.pick g4 r4)
  have hb4 : base ≤ w4.heap.size := Nat.le_trans hb3 g4.size
  clear F3 r4 g4 hb3
  go_upto_if 11 with (fail)
  go_cut [4] from 10 (fun v wx => Hid (∃ xs us, xs.length ≤ 101 ∧ base ≤ wx.heap.size ∧ Fd w1 wx B 10 base v xs us))
  case first =>
    cases b
    · go_wp2_with fail
      go_meet
      exact ⟨xs, us, by omega, hb4, F4.out.mono (by omega)⟩
    · go_wp2_with fail
      refine (pick_to B 2 9 _ F4.out.1.1 (by omega) (by omega) (by omega)).mono ?_
      rintro e w5 ⟨p1, _, _, rfl, r5, g5⟩
      have F5 := Lib.hid (F4.out.pick g5 r5)
      have hb5 : base ≤ w5.heap.size := Nat.le_trans hb4 g5.size
      clear F4 r5 g5 hb4
      go_wp2_with fail
      refine (pick_to B 3 9 _ F5.out.1.1 (by omega) (by omega) (by omega)).mono ?_
      rintro e w6 ⟨p2, _, _, rfl, r5, g5⟩
      have F6 := Lib.hid (F5.out.pick g5 r5)
      have hb6 : base ≤ w6.heap.size := Nat.le_trans hb5 g5.size
      clear F5 r5 g5 hb5
      go_wp2_with fail
      refine (pick_to B 4 9 _ F6.out.1.1 (by omega) (by omega) (by omega)).mono ?_
      rintro e w7 ⟨p3, _, _, rfl, r5, g5⟩
      have F7 := Lib.hid (F6.out.pick g5 r5)
      have hb7 : base ≤ w7.heap.size := Nat.le_trans hb6 g5.size
      clear F6 r5 g5 hb6
      go_wp2_with fail
      refine (pick_to B 5 9 _ F7.out.1.1 (by omega) (by omega) (by omega)).mono ?_
      rintro e w8 ⟨p4, _, _, rfl, r5, g5⟩
      have F8 := Lib.hid (F7.out.pick g5 r5)
      have hb8 : base ≤ w8.heap.size := Nat.le_trans hb7 g5.size
      clear F7 r5 g5 hb7
      go_wp2_with (at_builtin; refine append_mine _ rfl _ _ 48 rfl base 59 i0 (.agg #[.slice none 0 0]) 1 24 Try.underlying48 hi hz0 hz1 hz2 rfl (by decide) _ _ _ rfl ((F8.out.row.alloc _).alloc _) ⟨w8.heap.size + 1, 0, none⟩ 1 1 [.slice (some ⟨w8.heap.size, 0, none⟩) 4 4] rfl rfl (by simpa using cells_new (w8.alloc _) [_] _) (by intro u hu; simp at hu; subst hu; rfl) (by unfold maxLen; omega) (by omega) (by simp; omega) ?_; intro v' w9 hown' hgrow hmv)
      have F9 := Lib.hid (F8.out.push hb8 [p1, p2, p3, p4] 4 rfl (by unfold maxLen; omega) hgrow hmv hown')
      have hb9 : base ≤ w9.heap.size := by have := hgrow.size; simp at this; omega
      clear F8 hgrow hmv hown'
      go_meet
      exact ⟨_, _, by simp; omega, hb9, F9.out.mono (by omega)⟩
  case rest =>
    obtain ⟨xs', us', hl', hbc, F5⟩ := hcut.out
    have F5 := Lib.hid F5
    clear F4 hcut hb4
    go_wp2_with fail
    refine (odd_to B 10 9 _ F5.out.1.1 (by omega) (by omega) (by omega)).mono ?_
    rintro e w6 ⟨b', rfl, r4, g4⟩
    have F6 := Lib.hid (F5.out.pick g4 r4)
    have hb6 : base ≤ w6.heap.size := Nat.le_trans hbc g4.size
    clear F5 r4 g4 hbc
    cases b'
    · go_wp2_with fail
      go_ret
      exact ⟨xs', _, us', base, by omega, rfl, F6.out.2.2, F6.out.1.below HB.out hB⟩
    · go_wp2_with fail
      have dA := F6.out.alloc (.cells #[.int .i64 0, .int .i64 3, .int .i64 5] 3)
      refine (pick_to B 11 3 _ dA.1.1 (by omega) (by omega) (by omega)).mono ?_
      rintro e w7 ⟨q, q0, q1, rfl, r5, g5⟩
      obtain ⟨z, hz, cz⟩ := lit_pick [0, 3, 5] 3 F6.out.1.1 g5 q q0 (by simpa using q1)
      have F7 := Lib.hid (dA.pick g5 r5)
      have hb7 : base ≤ w7.heap.size := by have := g5.size; simp at this; omega
      clear F6 r5 g5 dA hb6
      simp at hz
      rcases hz with rfl | rfl | rfl
      · go_wp2_with (first | (at_make; refine wpList_make_full _ rfl _ _ 28 rfl w7.heap.size 3 j0 (.int .i64 0) 1 Try.underlying28 hj hy0 hy1 .i64 .i64 _ _ 0 rfl rfl rfl rfl (by rw [hy2]; omega) (by unfold maxLen; omega) (Nat.le_refl _) ?_; intro wM hownM hgrowM; rw [made_ints 0] at hownM; have RM := F7.out.row.kept hgrowM (by cases Value.ownBlock _ <;> simp); have hbM : base ≤ wM.heap.size := (by have := hgrowM.size; omega)) | (at_builtin; refine append_mine _ rfl _ _ 48 rfl base 59 i0 (.agg #[.slice none 0 0]) 1 24 Try.underlying48 hi hz0 hz1 hz2 rfl (by decide) _ _ _ rfl (RM.alloc _) ⟨wM.heap.size, 0, none⟩ 1 1 [.slice (some ⟨w7.heap.size, 0, none⟩) 0 0] rfl rfl (by simpa using cells_new wM [_] _) (by intro u hu; simp at hu; subst hu; rfl) (by unfold maxLen; omega) (by omega) (by simp; omega) ?_; intro v' w9 hown' hgrow hmv))
        have F9 := Lib.hid (F7.out.push2 hb7 (List.replicate 0 0) 0 (by simp) hgrowM hownM hgrow hmv hown')
        clear F7 hgrow hmv hown' hgrowM hownM RM
        go_ret
        exact ⟨_, _, _, base, by simp; omega, rfl, F9.out.2.2, F9.out.1.below HB.out hB⟩
      · go_wp2_with (first | (at_make; refine wpList_make_full _ rfl _ _ 28 rfl w7.heap.size 3 j0 (.int .i64 0) 1 Try.underlying28 hj hy0 hy1 .i64 .i64 _ _ 3 rfl rfl rfl rfl (by rw [hy2]; omega) (by unfold maxLen; omega) (Nat.le_refl _) ?_; intro wM hownM hgrowM; rw [made_ints 3] at hownM; have RM := F7.out.row.kept hgrowM (by cases Value.ownBlock _ <;> simp); have hbM : base ≤ wM.heap.size := (by have := hgrowM.size; omega)) | (at_builtin; refine append_mine _ rfl _ _ 48 rfl base 59 i0 (.agg #[.slice none 0 0]) 1 24 Try.underlying48 hi hz0 hz1 hz2 rfl (by decide) _ _ _ rfl (RM.alloc _) ⟨wM.heap.size, 0, none⟩ 1 1 [.slice (some ⟨w7.heap.size, 0, none⟩) 3 3] rfl rfl (by simpa using cells_new wM [_] _) (by intro u hu; simp at hu; subst hu; rfl) (by unfold maxLen; omega) (by omega) (by simp; omega) ?_; intro v' w9 hown' hgrow hmv))
        have F9 := Lib.hid (F7.out.push2 hb7 (List.replicate 3 0) 3 (by simp) hgrowM hownM hgrow hmv hown')
        clear F7 hgrow hmv hown' hgrowM hownM RM
        go_ret
        exact ⟨_, _, _, base, by simp; omega, rfl, F9.out.2.2, F9.out.1.below HB.out hB⟩
      · go_wp2_with (first | (at_make; refine wpList_make_full _ rfl _ _ 28 rfl w7.heap.size 3 j0 (.int .i64 0) 1 Try.underlying28 hj hy0 hy1 .i64 .i64 _ _ 5 rfl rfl rfl rfl (by rw [hy2]; omega) (by unfold maxLen; omega) (Nat.le_refl _) ?_; intro wM hownM hgrowM; rw [made_ints 5] at hownM; have RM := F7.out.row.kept hgrowM (by cases Value.ownBlock _ <;> simp); have hbM : base ≤ wM.heap.size := (by have := hgrowM.size; omega)) | (at_builtin; refine append_mine _ rfl _ _ 48 rfl base 59 i0 (.agg #[.slice none 0 0]) 1 24 Try.underlying48 hi hz0 hz1 hz2 rfl (by decide) _ _ _ rfl (RM.alloc _) ⟨wM.heap.size, 0, none⟩ 1 1 [.slice (some ⟨w7.heap.size, 0, none⟩) 5 5] rfl rfl (by simpa using cells_new wM [_] _) (by intro u hu; simp at hu; subst hu; rfl) (by unfold maxLen; omega) (by omega) (by simp; omega) ?_; intro v' w9 hown' hgrow hmv))
        have F9 := Lib.hid (F7.out.push2 hb7 (List.replicate 5 0) 5 (by simp) hgrowM hownM hgrow hmv hown')
        clear F7 hgrow hmv hown' hgrowM hownM RM
        go_ret
        exact ⟨_, _, _, base, by simp; omega, rfl, F9.out.2.2, F9.out.1.below HB.out hB⟩
end Go.Proofs.Ytgbbodmggbeflaa

/-
  PROVED HERE: what DrawAreaAt hands back. Conditions: each theorem's own.
-/
import Derived.Test.YtgbbodmggbeflaaRdTo
import Derived.Test.YtgbbodmggbeflaaUpArS
import Derived.Test.YtgbbodmggbeflaaAreaAt
import Derived.Test.YtgbbodmggbeflaaGeo
import Derived.Deep.Onto
import Derived.Deep.Cut
namespace Go.Proofs.Ytgbbodmggbeflaa
open Go.RowKit

theorem areas_small (r c wd ht g : Int) : ∀ a ∈ areas r c wd ht g, arSmall a := by
  intro a ha
  by_cases h : arB r c wd ht g = true
  · obtain ⟨N, W, T, X, e, _, _, hW, hT, hk, _⟩ := areas_geo h
    unfold arB at h
    rw [Bool.and_eq_true] at h
    obtain ⟨_, _, k3, k4, k5⟩ := arOk_true h.1
    have q3 := inB_true k3
    have q4 := inB_true k4
    have q5 := inB_true k5
    rw [e, List.mem_map] at ha
    obtain ⟨k, hk', rfl⟩ := ha
    have := hk k (List.mem_range.1 hk')
    unfold arSmall
    simp only
    omega
  · unfold arB at h
    rw [areas, if_neg h] at ha
    simp at ha

/-- In the midst of drawing areas. -/
def La (w : World) (base B m L : Nat) (v : Value) (wx : World) : Prop :=
  ∃ xs : List DArea, xs.length ≤ L ∧ (∀ a ∈ xs, arSmall a) ∧ wx.ownsRow base 44 4 v xs.length (xs.flatMap encArea) ∧ RdTo B m wx ∧ Below w.heap.size w wx ∧ B < base ∧ w.heap.size ≤ B ∧ base ≤ wx.heap.size
theorem La.pick {w wx w' : World} {base B m m' L : Nat} {v : Value} (h : La w base B m L v wx) (hg : wx.grownBy w' (some B)) (hr : RdTo B m' w') : La w base B m' L v w' := by
  obtain ⟨xs, h1, h2, h3, h4, h5, h6, h7, h8⟩ := h
  exact ⟨xs, h1, h2, h3.kept hg (.inr (owns_neq h3 (.inl h6)).symm), hr, h5.grown hg (by have := h5.size; omega) (fun j hj => by cases hj; exact h7), h6, h7, by have := hg.size; omega⟩
theorem La.mono {w wx : World} {base B m m' L L' : Nat} {v : Value} (h : La w base B m L v wx) (hm : m ≤ m') (hL : L ≤ L') : La w base B m' L' v wx := by
  obtain ⟨xs, h1, h2, h3, h4, h5⟩ := h
  exact ⟨xs, by omega, h2, h3, h4.mono hm, h5⟩
theorem La.rd {w wx : World} {base B m L : Nat} {v : Value} (h : La w base B m L v wx) : RdTo B m wx := by
  obtain ⟨_, _, _, _, h, _⟩ := h
  exact h

theorem La.push {w wx w' : World} {base B m L : Nat} {v v' : Value} {xs : List DArea} (h1 : xs.length ≤ L) (h2 : ∀ a ∈ xs, arSmall a) (h3 : wx.ownsRow base 44 4 v xs.length (xs.flatMap encArea)) (h4 : RdTo B m wx) (h5 : Below w.heap.size w wx) (h6 : B < base) (h7 : w.heap.size ≤ B) (h8 : base ≤ wx.heap.size) (o : Obj) (x : DArea) (hs : arSmall x) (hg : (wx.alloc o).grownBy w' v.ownBlock)
    (hx : w'.ownsRow base 44 4 v' (xs.length + 1) (xs.flatMap encArea ++ encArea x)) {m' L' : Nat} (hm : m ≤ m' := by omega) (hL : L + 1 ≤ L' := by omega) : La w base B m' L' v' w' := by
  have g1 := World.grownBy_alloc wx o none
  refine ⟨xs ++ [x], by simp; omega, ?_, by simpa using hx, ((h4.past g1 (by intro k h; cases h)).past hg (fun k hk => ?_)).mono hm, ?_, h6, h7, ?_⟩
  · intro a ha
    rcases List.mem_append.1 ha with ha | ha
    · exact h2 a ha
    · simp at ha; subst ha; exact hs
  · have := (h3.lt k hk).1
    omega
  · have := h5.size
    exact (h5.grown g1 (by omega) (by intro k h; cases h)).grown hg (by have := g1.size; omega) (fun j hj => by have := (h3.lt j hj).1; omega)
  · have := g1.size
    have := hg.size
    omega

/-- It returns areas that are its own and two numbers; nothing that was there turns. -/
def DrawAA (w : World) (e : Ending) (w' : World) : Prop :=
  ∃ (xs : List DArea) (v : Value) (x y : Int), xs.length ≤ 40 ∧ (∀ a ∈ xs, arSmall a) ∧ -10 ≤ x ∧ x ≤ 1000 ∧ -10 ≤ y ∧ y ≤ 1000 ∧ e = .returned (.tuple #[v, .int .i64 x, .int .i64 y]) ∧ w'.ownsRow w.heap.size 44 4 v xs.length (xs.flatMap encArea) ∧ Below w.heap.size w w'

set_option maxHeartbeats 4000000 in
theorem drawAreaAt_any (a : Option Addr) (n cap : Nat) (w : World) (h : Code8 w a n cap) : Calls Try.prog 33 #[.slice a n cap] w (DrawAA w) := by
  obtain ⟨i0, hi, hz0, hz1, hz2⟩ := info_parts info_area
  have H := Lib.hid h
  clear h
  go_enter Try.func33, Try.ntmps33
  go_wp2_with fail
  refine (open_any a n cap w H.out).mono ?_
  rintro e w1 ⟨B, rfl, hr0, hB, hb⟩
  have r1 : RdTo B 0 w1 := ⟨0, Nat.le_refl _, hr0⟩
  have b1 : Below w.heap.size w w1 := hb
  clear H hb hr0
  go_wp2_with fail
  refine (pick_to B 0 3 _ r1 (by omega) (by omega) (by omega)).mono ?_
  rintro e w2 ⟨p, p0, p1, rfl, r2, g1⟩
  have b2 : Below w.heap.size w w2 := b1.grown g1 (by have := b1.size; omega) (fun j hj => by cases hj; exact hB)
  clear b1 g1 r1
  go_wp2_with fail
  refine (pick_to B 1 3 _ r2 (by omega) (by omega) (by omega)).mono ?_
  rintro e w3 ⟨q, q0, q1, rfl, r3, g2⟩
  have b3 : Below w.heap.size w w3 := b2.grown g2 (by have := b2.size; omega) (fun j hj => by cases hj; exact hB)
  clear b2 g2 r2
  go_wp2_with fail
  refine (pick_to B 2 60 _ r3 (by omega) (by omega) (by omega)).mono ?_
  rintro e w4 ⟨s, s0, s1, rfl, r4, g3⟩
  have b4 : Below w.heap.size w w4 := b3.grown g3 (by have := b3.size; omega) (fun j hj => by cases hj; exact hB)
  clear b3 g3 r3
  go_wp2_with fail
  refine (pick_to B 3 60 _ r4 (by omega) (by omega) (by omega)).mono ?_
  rintro e w5 ⟨t, t0, t1, rfl, r5, g4⟩
  have b5 : Below w.heap.size w w5 := b4.grown g4 (by have := b4.size; omega) (fun j hj => by cases hj; exact hB)
  clear b4 g4 r4
  go_wp2_with fail
  refine (pick_to B 4 5 _ r5 (by omega) (by omega) (by omega)).mono ?_
  rintro e w6 ⟨u, u0, u1, rfl, r6, g5⟩
  have b6 : Below w.heap.size w w6 := b5.grown g5 (by have := b5.size; omega) (fun j hj => by cases hj; exact hB)
  clear b5 g5 r5
  have R6 := Lib.hid r6
  have B6 := Lib.hid b6
  clear r6 b6
  go_wp2_with fail
  refine (specAr_any _ _ _ _ _ _).mono ?_
  rintro e w7 ⟨v, rfl, ho, b7⟩
  have sm := areas_small (1 + p) (1 + q) (20 + s) (20 + t) u
  have al := areas_len (1 + p) (1 + q) (20 + s) (20 + t) u
  obtain ⟨xs, hxs⟩ : ∃ xs, xs = areas (1 + p) (1 + q) (20 + s) (20 + t) u := ⟨_, rfl⟩
  rw [← hxs] at ho sm al
  clear hxs
  have r7 := R6.out.kept (grown_of_below b7 none) (by intro k h; cases h)
  have L1 : La w w6.heap.size B 5 36 v w7 := ⟨xs, by omega, sm, ho, r7, below_next B6.out b7 (Nat.le_refl _), R6.out.lt, hB, b7.size⟩
  have r8 := L1.rd
  have L2 := Lib.hid L1
  obtain ⟨base, hbase⟩ : ∃ b, b = w6.heap.size := ⟨_, rfl⟩
  rw [← hbase] at L2
  clear ho sm al r7 L1 R6 B6 b7 hbase
  go_wp2_with fail
  refine (odd_to B 5 4 _ r8 (by omega) (by omega) (by omega)).mono ?_
  rintro e w8 ⟨b, rfl, r9, g9⟩
  have L3 := Lib.hid (L2.out.pick g9 r9)
  clear L2 r8 r9 g9
  go_upto_if 29 with (fail)
  go_cut [6] from 28 (fun v wx => Hid (La w base B 20 40 v wx))
  case first =>
    cases b
    · go_wp2_with fail
      go_meet
      exact L3.out.mono (by omega) (by omega)
    · have r9 := L3.out.rd
      go_wp2_with fail
      refine (pick_to B 6 50 _ r9 (by omega) (by omega) (by omega)).mono ?_
      rintro e x0 ⟨c, c0, c1, rfl, r10, g9⟩
      have L4 := Lib.hid (L3.out.pick g9 r10)
      clear L3 r9 g9
      have L3 := L4
      have r9 := r10
      clear L4 r10
      go_wp2_with fail
      refine (pick_to B 7 50 _ r9 (by omega) (by omega) (by omega)).mono ?_
      rintro e x1 ⟨d, d0, d1, rfl, r10, g9⟩
      have L4 := Lib.hid (L3.out.pick g9 r10)
      clear L3 r9 g9
      have L3 := L4
      have r9 := r10
      clear L4 r10
      go_wp2_with fail
      refine (pick_to B 8 30 _ r9 (by omega) (by omega) (by omega)).mono ?_
      rintro e x2 ⟨f, f0, f1, rfl, r10, g9⟩
      have L4 := Lib.hid (L3.out.pick g9 r10)
      clear L3 r9 g9
      have L3 := L4
      have r9 := r10
      clear L4 r10
      go_wp2_with fail
      refine (pick_to B 9 30 _ r9 (by omega) (by omega) (by omega)).mono ?_
      rintro e x3 ⟨g, g0, g1, rfl, r10, g9⟩
      have L4 := Lib.hid (L3.out.pick g9 r10)
      clear L3 r9 g9
      have L3 := L4
      have r9 := r10
      clear L4 r10
      obtain ⟨xs, q1, q2, q3, q4, q5, q6, q7, q8⟩ := L3.out
      clear L3 r9
      have Q2 := Lib.hid q2
      have Q4 := Lib.hid q4
      have Q5 := Lib.hid q5
      clear q2 q4 q5
      go_wp2_with (at_builtin; refine wpList_append_own _ rfl _ _ 35 rfl base 44 i0 (.agg #[.int .i64 0, .int .i64 0, .int .i64 0, .int .i64 0]) 4 32 Try.underlying35 hi hz0 hz1 hz2 rfl (by decide) _ _ _ rfl (q3.alloc _) ⟨x3.heap.size, 0, none⟩ 1 1 [.int .i64 c, .int .i64 d, .int .i64 f, .int .i64 g] rfl rfl (cells_new _ [_, _, _, _] _) (by intro u hu; simp at hu; rcases hu with rfl | rfl | rfl | rfl <;> rfl) (by unfold maxLen; omega) (by omega) (by simp; omega) ?_; intro v' w5 hown' hgrow _)
      go_meet
      exact La.push q1 Q2.out q3 Q4.out Q5.out q6 q7 q8 _ ⟨c, d, f, g⟩ (by unfold arSmall; simp only; omega) hgrow hown'
  case rest =>
    have r9 := hcut.out.rd
    go_wp2_with fail
    refine (pick_to B 20 90 _ r9 (by omega) (by omega) (by omega)).mono ?_
    rintro e x0 ⟨c, c0, c1, rfl, r10, g9⟩
    have L4 := Lib.hid (hcut.out.pick g9 r10)
    clear hcut r9 g9
    go_wp2_with fail
    refine (pick_to B 21 90 _ r10 (by omega) (by omega) (by omega)).mono ?_
    rintro e x1 ⟨d, d0, d1, rfl, r11, g9⟩
    have L5 := Lib.hid (L4.out.pick g9 r11)
    clear L4 r10 r11 g9
    go_wp2
    go_ret3
    obtain ⟨xs, q1, q2, q3, q4, q5, q6, q7, q8⟩ := L5.out
    exact ⟨xs, _, c - 2, d - 2, q1, q2, by omega, by omega, by omega, by omega, rfl, q3.mono (by omega), q5⟩
end Go.Proofs.Ytgbbodmggbeflaa

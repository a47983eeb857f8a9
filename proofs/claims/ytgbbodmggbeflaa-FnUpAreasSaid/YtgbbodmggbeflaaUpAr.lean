/-
  PROVED HERE: what UpAreas of the program and of the reference return. Conditions: each theorem's own.
-/
import Derived.Test.YtgbbodmggbeflaaArea
import Derived.Test.YtgbbodmggbeflaaIn
import Derived.BigQuiet
set_option linter.unusedVariables false
set_option linter.unusedSimpArgs false
namespace Go.Proofs.Ytgbbodmggbeflaa
open Go.RowKit

def areaAt (g w h : Int) (C k : Nat) : DArea := ⟨g + ((k % C : Nat) : Int) * (w + g), g + ((k / C : Nat) : Int) * (h + g), w, h⟩
def areaL (g w h : Int) (C n : Nat) : List DArea := (List.range n).map (areaAt g w h C)
theorem areaL_len (g w h : Int) (C n : Nat) : (areaL g w h C n).length = n := by simp [areaL]
theorem areaL_succ (g w h : Int) (C n : Nat) : areaL g w h C (n + 1) = areaL g w h C n ++ [areaAt g w h C n] := by simp [areaL, List.range_succ]

def arOk (r c wd ht g : Int) : Bool := inB r 1 6 && (inB c 1 6 && (inB wd 1 10000 && (inB ht 1 10000 && inB g 0 10000)))
def arFit (r c wd ht g : Int) : Bool := decide (c ≤ wd - (c + 1) * g) && decide (r ≤ ht - (r + 1) * g)
def areas (r c wd ht g : Int) : List DArea := if (arOk r c wd ht g && arFit r c wd ht g) = true then areaL g ((wd - (c + 1) * g) / c) ((ht - (r + 1) * g) / r) c.toNat (r * c).toNat else []

/-- It returns a row of its own that reads as these areas, and a bool. -/
def ArPost (xs : List DArea) (b : Bool) (w : World) (e : Ending) (w' : World) : Prop :=
  ∃ v, e = .returned (.tuple #[v, .bool b]) ∧ w'.ownsRow w.heap.size 44 4 v xs.length (xs.flatMap encArea) ∧ Below w.heap.size w w'

theorem info_area : (Try.prog.info? 44).map (fun i => (i.zero, i.size, i.bytes)) = some (some (.agg #[.int .i64 0, .int .i64 0, .int .i64 0, .int .i64 0]), 4, 32) := by kernel_rfl

set_option maxHeartbeats 2000000 in
theorem implAr_no (r c wd ht g : Int) (w : World) (h : arOk r c wd ht g = false) :
    Calls Try.prog 27 #[.int .i64 r, .int .i64 c, .int .i64 wd, .int .i64 ht, .int .i64 g] w (ArPost [] false w) := by
  unfold arOk at h
  have hq : inB r 1 6 = false ∨ (inB r 1 6 = true ∧ inB c 1 6 = false) ∨ (inB r 1 6 = true ∧ inB c 1 6 = true ∧ inB wd 1 10000 = false) ∨ (inB r 1 6 = true ∧ inB c 1 6 = true ∧ inB wd 1 10000 = true ∧ inB ht 1 10000 = false) ∨ (inB r 1 6 = true ∧ inB c 1 6 = true ∧ inB wd 1 10000 = true ∧ inB ht 1 10000 = true ∧ inB g 0 10000 = false) := by
    revert h
    cases inB r 1 6 <;> cases inB c 1 6 <;> cases inB wd 1 10000 <;> cases inB ht 1 10000 <;> cases inB g 0 10000 <;> simp
  clear h
  rcases hq with h | ⟨h1, h⟩ | ⟨h1, h2, h⟩ | ⟨h1, h2, h3, h⟩ | ⟨h1, h2, h3, h4, h⟩
  all_goals
    go_enter Try.func27, Try.ntmps27
    go_wp2_with (go_at_call 49; refine (in_any _ _ _ _).mono ?_; rintro e w' ⟨rfl, rfl⟩)
    go_ret2
    exact ⟨_, rfl, World.ownsRow_nil _ _ _ _, Below.refl _ _⟩

theorem arOk_true {r c wd ht g : Int} (h : arOk r c wd ht g = true) : inB r 1 6 = true ∧ inB c 1 6 = true ∧ inB wd 1 10000 = true ∧ inB ht 1 10000 = true ∧ inB g 0 10000 = true := by
  simpa [arOk] using h

set_option maxHeartbeats 4000000 in
theorem implAr_yes (r c wd ht g : Int) (w : World) (h : arOk r c wd ht g = true) :
    Calls Try.prog 27 #[.int .i64 r, .int .i64 c, .int .i64 wd, .int .i64 ht, .int .i64 g] w (ArPost (areas r c wd ht g) (arFit r c wd ht g) w) := by
  have hA : areas r c wd ht g = if arFit r c wd ht g = true then areaL g ((wd - (c + 1) * g) / c) ((ht - (r + 1) * g) / r) c.toNat (r * c).toNat else [] := by
    unfold areas; rw [h, Bool.true_and]
  obtain ⟨h1, h2, h3, h4, h5⟩ := arOk_true h
  obtain ⟨r1, r2⟩ := inB_true h1
  obtain ⟨c1, c2⟩ := inB_true h2
  obtain ⟨w1, w2⟩ := inB_true h3
  obtain ⟨t1, t2⟩ := inB_true h4
  obtain ⟨g1, g2⟩ := inB_true h5
  have p1 : 0 ≤ (c + 1) * g := Int.mul_nonneg (by omega) g1
  have p2 : (c + 1) * g ≤ 70000 := Int.le_trans (Int.mul_le_mul (show c + 1 ≤ 7 by omega) g2 g1 (by omega)) (by omega)
  have p3 : 0 ≤ (r + 1) * g := Int.mul_nonneg (by omega) g1
  have p4 : (r + 1) * g ≤ 70000 := Int.le_trans (Int.mul_le_mul (show r + 1 ≤ 7 by omega) g2 g1 (by omega)) (by omega)
  have HA := Lib.hid hA
  clear hA h
  obtain ⟨i0, hi, hz0, hz1, hz2⟩ := info_parts info_area
  by_cases f1 : c ≤ wd - (c + 1) * g
  · by_cases f2 : r ≤ ht - (r + 1) * g
    · have hf : arFit r c wd ht g = true := by simp [arFit, f1, f2]
      rw [HA.out, if_pos hf, hf]
      obtain ⟨W, hW⟩ : ∃ W, (wd - (c + 1) * g) / c = W := ⟨_, rfl⟩
      obtain ⟨T, hT⟩ : ∃ T, (ht - (r + 1) * g) / r = T := ⟨_, rfl⟩
      have q1 : 0 ≤ W ∧ W ≤ 10000 := by
        rw [← hW]
        exact ⟨Int.ediv_nonneg (by omega) (by omega), Int.le_trans (Int.ediv_le_self _ (by omega)) (by omega)⟩
      have q2 : 0 ≤ T ∧ T ≤ 10000 := by
        rw [← hT]
        exact ⟨Int.ediv_nonneg (by omega) (by omega), Int.le_trans (Int.ediv_le_self _ (by omega)) (by omega)⟩
      obtain ⟨q1, q1'⟩ := q1
      obtain ⟨q2, q2'⟩ := q2
      obtain ⟨R, rfl⟩ := Int.eq_ofNat_of_zero_le (show 0 ≤ r by omega)
      obtain ⟨C, rfl⟩ := Int.eq_ofNat_of_zero_le (show 0 ≤ c by omega)
      have hRC : ((R : Int) * (C : Int)).toNat = R * C := by rw [← Int.natCast_mul]; rfl
      rw [hW, hT, hRC, Int.toNat_natCast]
      clear hf HA hRC
      go_enter Try.func27, Try.ntmps27
      go_wp2_with (go_at_call 49; refine (in_any _ _ _ _).mono ?_; rintro e w' ⟨rfl, rfl⟩)
      go_quiet (fail)
      go_wp2
      rw [hW, hT]
      have HW := Lib.hid hW
      have HT := Lib.hid hT
      have hsz : (w.drewN nq).heap.size = w.heap.size := rfl
      clear hW hT
      go_loopw [16, 69] (fun v i wr => ∃ k : Nat, k ≤ R ∧ i = .int .i64 k ∧ Hid (wr.ownsRow w.heap.size 44 4 v (k * C) ((areaL g W T C (k * C)).flatMap encArea)) ∧ Below w.heap.size w wr) (fun _ i _ => R - (intOf i).toNat)
      case atStart =>
        refine ⟨0, Nat.zero_le _, rfl, ?_, below_drewN (Below.refl _ _) _⟩
        show World.ownsRow _ _ _ _ _ _ _
        rw [Nat.zero_mul]
        exact World.ownsRow_nil _ _ _ _
      case round =>
        obtain ⟨k, hk, rfl, ho, hb⟩ := hrel
        by_cases hlt : k < R
        · go_wp2
          obtain ⟨wo, rfl⟩ : ∃ wo : World, wo = wr := ⟨_, rfl⟩
          have HO := Lib.hid ho.out
          have HB := Lib.hid hb
          clear ho hb
          go_loopw [16, 73] (fun v j wi => ∃ m : Nat, m ≤ C ∧ j = .int .i64 m ∧ Hid (wi.ownsRow w.heap.size 44 4 v (k * C + m) ((areaL g W T C (k * C + m)).flatMap encArea)) ∧ Below w.heap.size w wi) (fun _ j _ => C - (intOf j).toNat)
          case atStart => exact ⟨0, Nat.zero_le _, rfl, HO.out, HB.out⟩
          case round =>
            obtain ⟨m, hm, rfl, ho, hb⟩ := hrel
            by_cases hlm : m < C
            · have m1 : 0 ≤ (m : Int) * (W + g) := Int.mul_nonneg (by omega) (by omega)
              have m2 : (m : Int) * (W + g) ≤ 200000 := Int.le_trans (Int.mul_le_mul (show (m : Int) ≤ 10 by omega) (show W + g ≤ 20000 by omega) (by omega) (by omega)) (by omega)
              have m3 : 0 ≤ (k : Int) * (T + g) := Int.mul_nonneg (by omega) (by omega)
              have m4 : (k : Int) * (T + g) ≤ 200000 := Int.le_trans (Int.mul_le_mul (show (k : Int) ≤ 10 by omega) (show T + g ≤ 20000 by omega) (by omega) (by omega)) (by omega)
              have hkc : k * C ≤ 36 := Nat.le_trans (Nat.mul_le_mul (show k ≤ 6 by omega) (show C ≤ 6 by omega)) (by omega)
              go_wp2_with (at_builtin; refine wpList_append_own _ rfl _ _ 35 rfl w.heap.size 44 i0 (.agg #[.int .i64 0, .int .i64 0, .int .i64 0, .int .i64 0]) 4 32 Try.underlying35 hi hz0 hz1 hz2 rfl (by decide) _ _ _ rfl (ho.out.alloc _) ⟨wr.heap.size, 0, none⟩ 1 1 [.int .i64 (g + m * (W + g)), .int .i64 (g + k * (T + g)), .int .i64 W, .int .i64 T] rfl rfl (cells_new _ [_, _, _, _] _) (by intro u hu; simp at hu; rcases hu with rfl | rfl | rfl | rfl <;> rfl) (by unfold maxLen; omega) (by omega) (by have := hb.size; simp; omega) ?_; intro v' w1 hown' hgrow _)
              go_roundw
              case rel =>
                refine ⟨m + 1, by omega, by go_num, ?_, below_append hb (Nat.le_refl _) ho.out hgrow⟩
                show World.ownsRow _ _ _ _ _ _ _
                rw [← Nat.add_assoc, areaL_succ, List.flatMap_append]
                have e : areaAt g W T C (k * C + m) = ⟨g + m * (W + g), g + k * (T + g), W, T⟩ := by
                  unfold areaAt
                  rw [Nat.mul_comm k C, Nat.mul_add_mod, Nat.mod_eq_of_lt hlm, Nat.mul_add_div (by omega), Nat.div_eq_of_lt hlm, Nat.add_zero]
                rw [e]
                exact hown'
              case measure => simp [intOf]; omega
            · obtain rfl : m = C := by omega
              have HO2 := Lib.hid ho.out
              have HB2 := Lib.hid hb
              clear ho hb
              go_wp2
              go_roundw
              case rel =>
                refine ⟨k + 1, by omega, by go_num, ?_, HB2.out⟩
                show World.ownsRow _ _ _ _ _ _ _
                rw [Nat.add_mul, Nat.one_mul]
                exact HO2.out
              case measure => simp [intOf]; omega
        · obtain rfl : k = R := by omega
          go_wp2
          go_ret2
          exact ⟨_, rfl, by rw [areaL_len]; exact ho.out, hb⟩
    · have hf : arFit r c wd ht g = false := by simp [arFit, f2]
      rw [HA.out, hf, if_neg (by decide)]
      have f3 : decide (ht - (r + 1) * g < r) = true := by simpa using f2
      clear hf HA
      go_enter Try.func27, Try.ntmps27
      go_wp2_with (go_at_call 49; refine (in_any _ _ _ _).mono ?_; rintro e w' ⟨rfl, rfl⟩)
      go_ret2
      exact ⟨_, rfl, World.ownsRow_nil _ _ _ _, Below.refl _ _⟩
  · have hf : arFit r c wd ht g = false := by simp [arFit, f1]
    rw [HA.out, hf, if_neg (by decide)]
    have f3 : decide (wd - (c + 1) * g < c) = true := by simpa using f1
    clear hf HA
    go_enter Try.func27, Try.ntmps27
    go_wp2_with (go_at_call 49; refine (in_any _ _ _ _).mono ?_; rintro e w' ⟨rfl, rfl⟩)
    go_ret2
    exact ⟨_, rfl, World.ownsRow_nil _ _ _ _, Below.refl _ _⟩
end Go.Proofs.Ytgbbodmggbeflaa

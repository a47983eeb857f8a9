/-
  PROVED HERE: what UpAreas of the reference returns. Conditions: each theorem's own.
-/
import Derived.Test.YtgbbodmggbeflaaUpAr
import Derived.Test.YtgbbodmggbeflaaLawOwn
set_option linter.unusedVariables false
set_option linter.unusedSimpArgs false
namespace Go.Proofs.Ytgbbodmggbeflaa
open Go.RowKit

set_option maxHeartbeats 2000000 in
theorem specAr_no (r c wd ht g : Int) (w : World) (h : arOk r c wd ht g = false) :
    Calls Try.prog 26 #[.int .i64 r, .int .i64 c, .int .i64 wd, .int .i64 ht, .int .i64 g] w (ArPost [] false w) := by
  unfold arOk at h
  have hq : inB r 1 6 = false ∨ (inB r 1 6 = true ∧ inB c 1 6 = false) ∨ (inB r 1 6 = true ∧ inB c 1 6 = true ∧ inB wd 1 10000 = false) ∨ (inB r 1 6 = true ∧ inB c 1 6 = true ∧ inB wd 1 10000 = true ∧ inB ht 1 10000 = false) ∨ (inB r 1 6 = true ∧ inB c 1 6 = true ∧ inB wd 1 10000 = true ∧ inB ht 1 10000 = true ∧ inB g 0 10000 = false) := by
    revert h
    cases inB r 1 6 <;> cases inB c 1 6 <;> cases inB wd 1 10000 <;> cases inB ht 1 10000 <;> cases inB g 0 10000 <;> simp
  clear h
  rcases hq with h | ⟨h1, h⟩ | ⟨h1, h2, h⟩ | ⟨h1, h2, h3, h⟩ | ⟨h1, h2, h3, h4, h⟩
  all_goals
    go_enter Try.func26, Try.ntmps26
    go_wp2_with (go_at_call 48; refine (l1In_any _ _ _ _).mono ?_; rintro e w' ⟨rfl, rfl⟩)
    go_ret2
    exact ⟨_, rfl, World.ownsRow_made _ #[] 0 (Nat.le_refl _) (Nat.zero_le _) rfl, (Below.refl _ _).alloc (Nat.le_refl _) _⟩

set_option maxRecDepth 100000 in
set_option maxHeartbeats 4000000 in
theorem specAr_yes (r c wd ht g : Int) (w : World) (h : arOk r c wd ht g = true) :
    Calls Try.prog 26 #[.int .i64 r, .int .i64 c, .int .i64 wd, .int .i64 ht, .int .i64 g] w (ArPost (areas r c wd ht g) (arFit r c wd ht g) w) := by
  have hA : areas r c wd ht g = if arFit r c wd ht g = true then areaL g ((wd - (c + 1) * g) / c) ((ht - (r + 1) * g) / r) c.toNat (r * c).toNat else [] := by
    unfold areas; rw [h, Bool.true_and]
  obtain ⟨h1, h2, h3, h4, h5⟩ := arOk_true h
  obtain ⟨r1, r2⟩ := inB_true h1
  obtain ⟨c1, c2⟩ := inB_true h2
  obtain ⟨w1, w2⟩ := inB_true h3
  obtain ⟨t1, t2⟩ := inB_true h4
  obtain ⟨g1, g2⟩ := inB_true h5
  have p1 : 0 ≤ (c + 1) * g := Int.mul_nonneg (by omega) g1
  have p2 : (c + 1) * g ≤ 70000 := Int.le_trans (Int.mul_le_mul (show c + 1 ≤ 7 by omega) g2 g1 (by omega)) (by omega)
  have p3 : 0 ≤ (r + 1) * g := Int.mul_nonneg (by omega) g1
  have p4 : (r + 1) * g ≤ 70000 := Int.le_trans (Int.mul_le_mul (show r + 1 ≤ 7 by omega) g2 g1 (by omega)) (by omega)
  have hgc : g * (c + 1) = (c + 1) * g := Int.mul_comm _ _
  have hgr : g * (r + 1) = (r + 1) * g := Int.mul_comm _ _
  have HA := Lib.hid hA
  clear hA h
  obtain ⟨i0, hi, hz0, hz1, hz2⟩ := info_parts info_area
  by_cases f1 : c ≤ wd - (c + 1) * g
  · by_cases f2 : r ≤ ht - (r + 1) * g
    · have hf : arFit r c wd ht g = true := by simp [arFit, f1, f2]
      rw [HA.out, if_pos hf, hf]
      obtain ⟨W, hW⟩ : ∃ W, (wd - (c + 1) * g) / c = W := ⟨_, rfl⟩
      obtain ⟨T, hT⟩ : ∃ T, (ht - (r + 1) * g) / r = T := ⟨_, rfl⟩
      have q1 : 0 ≤ W ∧ W ≤ 10000 := by
        rw [← hW]
        exact ⟨Int.ediv_nonneg (by omega) (by omega), Int.le_trans (Int.ediv_le_self _ (by omega)) (by omega)⟩
      have q2 : 0 ≤ T ∧ T ≤ 10000 := by
        rw [← hT]
        exact ⟨Int.ediv_nonneg (by omega) (by omega), Int.le_trans (Int.ediv_le_self _ (by omega)) (by omega)⟩
      obtain ⟨q1, q1'⟩ := q1
      obtain ⟨q2, q2'⟩ := q2
      obtain ⟨R, rfl⟩ := Int.eq_ofNat_of_zero_le (show 0 ≤ r by omega)
      obtain ⟨C, rfl⟩ := Int.eq_ofNat_of_zero_le (show 0 ≤ c by omega)
      have hRC : (R : Int) * (C : Int) = ((R * C : Nat) : Int) := (Int.natCast_mul R C).symm
      have hRC36 : R * C ≤ 36 := Nat.le_trans (Nat.mul_le_mul (show R ≤ 6 by omega) (show C ≤ 6 by omega)) (by omega)
      obtain ⟨N, hN⟩ : ∃ N, R * C = N := ⟨_, rfl⟩
      rw [hW, hT, hRC, Int.toNat_natCast, Int.toNat_natCast, hN]
      rw [hN] at hRC hRC36
      clear hf HA
      go_enter Try.func26, Try.ntmps26
      go_wp2_with (go_at_call 48; refine (l1In_any _ _ _ _).mono ?_; rintro e w' ⟨rfl, rfl⟩)
      go_loopw [12, 15] (fun v i wr => ∃ k : Nat, k ≤ N ∧ i = .int .i64 k ∧ Hid (wr.ownsRow w.heap.size 44 4 v k ((areaL g W T C k).flatMap encArea)) ∧ Below w.heap.size w wr) (fun _ i _ => N - (intOf i).toNat)
      case atStart => exact ⟨0, Nat.zero_le _, rfl, World.ownsRow_made _ #[] 0 (Nat.le_refl _) (Nat.zero_le _) rfl, (Below.refl _ _).alloc (Nat.le_refl _) _⟩
      case round =>
        obtain ⟨k, hk, rfl, ho, hb⟩ := hrel
        by_cases hlt : k < N
        · have hC0 : 0 < C := by omega
          have k1 : ((k / C : Nat) : Int) = (k : Int) / (C : Int) := Int.natCast_ediv k C
          have k2 : ((k % C : Nat) : Int) = (k : Int) % (C : Int) := Int.natCast_emod k C
          have kd : (k : Int) / (C : Int) ≤ 36 := Int.le_trans (Int.ediv_le_self _ (by omega)) (by omega)
          have kd0 : 0 ≤ (k : Int) / (C : Int) := Int.ediv_nonneg (by omega) (by omega)
          have km0 : 0 ≤ (k : Int) % (C : Int) := Int.emod_nonneg _ (by omega)
          have km : (k : Int) % (C : Int) ≤ 6 := by have := Int.emod_lt_of_pos (k : Int) (show (0 : Int) < C by omega); omega
          have m1 : 0 ≤ ((k : Int) % (C : Int)) * (W + g) := Int.mul_nonneg km0 (by omega)
          have m2 : ((k : Int) % (C : Int)) * (W + g) ≤ 2000000 := Int.le_trans (Int.mul_le_mul (show (k : Int) % C ≤ 100 by omega) (show W + g ≤ 20000 by omega) (by omega) (by omega)) (by omega)
          have m3 : 0 ≤ ((k : Int) / (C : Int)) * (T + g) := Int.mul_nonneg kd0 (by omega)
          have m4 : ((k : Int) / (C : Int)) * (T + g) ≤ 2000000 := Int.le_trans (Int.mul_le_mul (show (k : Int) / C ≤ 100 by omega) (show T + g ≤ 20000 by omega) (by omega) (by omega)) (by omega)
          have K1 := Lib.hid k1
          have K2 := Lib.hid k2
          clear k1 k2
          go_wp2
          have y1 : ¬ C = 0 := by omega
          have y2 : ¬ R = 0 := by omega
          have y3 : ((k : Int)).tmod (C : Int) = (k : Int) % (C : Int) := Int.tmod_eq_emod_of_nonneg (by omega)
          have y4 : ((k : Int)).tdiv (C : Int) = (k : Int) / (C : Int) := Int.tdiv_eq_ediv_of_nonneg (by omega)
          have y5 : (wd - ((C : Int) + 1) * g).tdiv (C : Int) = W := by rw [Int.tdiv_eq_ediv_of_nonneg (by omega), hW]
          have y6 : (ht - ((R : Int) + 1) * g).tdiv (R : Int) = T := by rw [Int.tdiv_eq_ediv_of_nonneg (by omega), hT]
          have x1 : IntKind.i64.wrap ((k : Int) / (C : Int)) = (k : Int) / (C : Int) := IntWalk.i64_in _ (by omega)
          have x2 : IntKind.i64.wrap W = W := IntWalk.i64_in _ (by omega)
          have x3 : IntKind.i64.wrap T = T := IntWalk.i64_in _ (by omega)
          have x4 : IntKind.i64.wrap (W + g) = W + g := IntWalk.i64_in _ (by omega)
          have x5 : IntKind.i64.wrap (T + g) = T + g := IntWalk.i64_in _ (by omega)
          have x6 : IntKind.i64.wrap ((k : Int) % (C : Int) * (W + g)) = (k : Int) % (C : Int) * (W + g) := IntWalk.i64_in _ (by omega)
          have x7 : IntKind.i64.wrap ((k : Int) / (C : Int) * (T + g)) = (k : Int) / (C : Int) * (T + g) := IntWalk.i64_in _ (by omega)
          have x8 : IntKind.i64.wrap (g + (k : Int) % (C : Int) * (W + g)) = g + (k : Int) % (C : Int) * (W + g) := IntWalk.i64_in _ (by omega)
          have x9 : IntKind.i64.wrap (g + (k : Int) / (C : Int) * (T + g)) = g + (k : Int) / (C : Int) * (T + g) := IntWalk.i64_in _ (by omega)
          go_region_law (first | (refine step_append_own rfl (.tmp 69) (.tmp 99) 35 rfl w.heap.size 44 i0 (.agg #[.int .i64 0, .int .i64 0, .int .i64 0, .int .i64 0]) 4 32 Try.underlying35 hi hz0 hz1 hz2 rfl (by decide) _ _ _ rfl (ho.out.alloc _) ⟨wr.heap.size, 0, none⟩ 1 1 [.int .i64 (g + k % C * (W + g)), .int .i64 (g + k / C * (T + g)), .int .i64 W, .int .i64 T] rfl rfl (cells_new _ [_, _, _, _] _) (by intro u hu; simp at hu; rcases hu with rfl | rfl | rfl | rfl <;> rfl) (by unfold maxLen; omega) (by omega) (by have := hb.size; simp; omega) ?_; intro v' w1 hown' hgrow))
          go_wp2
          go_roundw
          case rel =>
            refine ⟨k + 1, by omega, by go_num, ?_, below_append hb.drew (Nat.le_refl _) ho.out hgrow⟩
            show World.ownsRow _ _ _ _ _ _ _
            rw [areaL_succ, List.flatMap_append]
            have e : areaAt g W T C k = ⟨g + (k : Int) % C * (W + g), g + (k : Int) / C * (T + g), W, T⟩ := by
              unfold areaAt
              rw [K1.out, K2.out]
            rw [e]
            exact hown'
          case measure => simp [intOf]; omega
        · obtain rfl : k = N := by omega
          go_wp2
          go_ret2
          exact ⟨_, rfl, by rw [areaL_len]; exact ho.out, hb⟩
    · have hf : arFit r c wd ht g = false := by simp [arFit, f2]
      rw [HA.out, hf, if_neg (by decide)]
      have f3 : decide (ht - (r + 1) * g < r) = true := by simpa using f2
      clear hf HA
      go_enter Try.func26, Try.ntmps26
      go_wp2_with (go_at_call 48; refine (l1In_any _ _ _ _).mono ?_; rintro e w' ⟨rfl, rfl⟩)
      go_ret2
      exact ⟨_, rfl, World.ownsRow_made _ #[] 0 (Nat.le_refl _) (Nat.zero_le _) rfl, (Below.refl _ _).alloc (Nat.le_refl _) _⟩
  · have hf : arFit r c wd ht g = false := by simp [arFit, f1]
    rw [HA.out, hf, if_neg (by decide)]
    have f3 : decide (wd - (c + 1) * g < c) = true := by simpa using f1
    clear hf HA
    go_enter Try.func26, Try.ntmps26
    go_wp2_with (go_at_call 48; refine (l1In_any _ _ _ _).mono ?_; rintro e w' ⟨rfl, rfl⟩)
    go_ret2
    exact ⟨_, rfl, World.ownsRow_made _ #[] 0 (Nat.le_refl _) (Nat.zero_le _) rfl, (Below.refl _ _).alloc (Nat.le_refl _) _⟩

theorem areas_len (r c wd ht g : Int) : (areas r c wd ht g).length ≤ 36 := by
  unfold areas
  split
  · rename_i h
    rw [Bool.and_eq_true] at h
    obtain ⟨h1, h2, _, _, _⟩ := arOk_true h.1
    obtain ⟨r1, r2⟩ := inB_true h1
    obtain ⟨c1, c2⟩ := inB_true h2
    rw [areaL_len]
    have : r * c ≤ 6 * 6 := Int.mul_le_mul r2 c2 (by omega) (by omega)
    omega
  · simp

/-- What both return. -/
def arB (r c wd ht g : Int) : Bool := arOk r c wd ht g && arFit r c wd ht g
theorem implAr_any (r c wd ht g : Int) (w : World) : Calls Try.prog 27 #[.int .i64 r, .int .i64 c, .int .i64 wd, .int .i64 ht, .int .i64 g] w (ArPost (areas r c wd ht g) (arB r c wd ht g) w) := by
  cases h : arOk r c wd ht g
  · have e : areas r c wd ht g = [] := by simp [areas, h]
    rw [e, arB, h]
    exact implAr_no r c wd ht g w h
  · rw [arB, h]
    exact implAr_yes r c wd ht g w h
theorem specAr_any (r c wd ht g : Int) (w : World) : Calls Try.prog 26 #[.int .i64 r, .int .i64 c, .int .i64 wd, .int .i64 ht, .int .i64 g] w (ArPost (areas r c wd ht g) (arB r c wd ht g) w) := by
  cases h : arOk r c wd ht g
  · have e : areas r c wd ht g = [] := by simp [areas, h]
    rw [e, arB, h]
    exact specAr_no r c wd ht g w h
  · rw [arB, h]
    exact specAr_yes r c wd ht g w h
end Go.Proofs.Ytgbbodmggbeflaa

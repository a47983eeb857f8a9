/-
  PROVED HERE: what the text of the law FnAreaAt does: it returns true and turns nothing that was there. Conditions: the walk's own.
-/
import Derived.Test.YtgbbodmggbeflaaDrawAA
namespace Go.Proofs.Ytgbbodmggbeflaa
open Go.RowKit

theorem findA_bd (x y : Int) : ∀ (xs : List DArea) (k : Int), 0 ≤ k → -1 ≤ findA x y xs k ∧ findA x y xs k < k + xs.length
  | [], k, h => by simp [findA]; omega
  | a :: t, k, h => by
    have ih := findA_bd x y t (k + 1) (by omega)
    rw [findA]
    split
    · simp; omega
    · simp; omega
theorem findA_le (x y : Int) : ∀ (xs : List DArea) (k : Int) (j : Nat) (hj : j < xs.length), 0 ≤ k → areaHit x y xs[j] = true → k ≤ findA x y xs k ∧ findA x y xs k ≤ k + j
  | [], _, _, hj, _, _ => by simp at hj
  | a :: t, k, j, hj, h, hh => by
    rw [findA]
    split
    · omega
    · cases j with
      | zero => simp at hh; simp_all
      | succ j =>
        have ih := findA_le x y t (k + 1) j (by simpa using hj) (by omega) (by simpa using hh)
        omega

set_option maxHeartbeats 4000000 in
theorem fnAreaAt_walk (a : Option Addr) (n cap : Nat) (w : World) (h : Code8 w a n cap) : Calls Try.prog 10 #[.slice a n cap] w (Ret (.bool true) w) := by
  have hn : n ≤ 9223372036854775807 := by have := h.2.1; unfold maxLen at this; omega
  by_cases hbig : 1048576 < n
  · go_enter Try.func10, Try.ntmps10
    go_wp2
    go_ret
    exact ⟨rfl, Below.refl _ _⟩
  · have H := Lib.hid h
    clear h
    go_enter Try.func10, Try.ntmps10
    go_wp2_with fail
    refine (drawAreaAt_any a n cap w H.out).mono ?_
    rintro e w1 ⟨xs, v, x, y, h1, h2, x1, x2, y1, y2, rfl, ho, hb⟩
    have hs : SRow 4 encArea w1 v xs := SRow.of_owns encArea_len rfl ho
    obtain ⟨a2, cap2, rfl⟩ : ∃ a2 cap2, v = .slice a2 xs.length cap2 := by
      rcases ho.2 with ⟨e, q⟩ | ⟨g, cap, _, e, _⟩
      · subst e; exact ⟨_, _, by rw [q]⟩
      · exact ⟨_, _, e⟩
    clear ho
    have HS := Lib.hid hs
    have HB := Lib.hid hb
    have SM := Lib.hid h2
    clear hs hb h2
    obtain ⟨k, hk⟩ : ∃ k, k = findA x y xs 0 := ⟨_, rfl⟩
    obtain ⟨m, hm⟩ : ∃ m, m = xs.length := ⟨_, rfl⟩
    have kb := findA_bd x y xs 0 (by omega)
    rw [← hk, ← hm] at kb
    obtain ⟨kb1, kb2⟩ := kb
    have HM := Lib.hid hm
    have CI := fun w (h : SRow 4 encArea w (.slice a2 xs.length cap2) xs) (x y : Int) (x1 : -10 ≤ x) (x2 : x ≤ 1000000) (y1 : -10 ≤ y) (y2 : y ≤ 1000000) => implAreaAt_any (.slice a2 xs.length cap2) xs x y w h SM.out (by omega) x1 x2 y1 y2
    have CS := fun w (h : SRow 4 encArea w (.slice a2 xs.length cap2) xs) => specAreaAt_any (.slice a2 xs.length cap2) xs x y w h SM.out (by omega) (by omega) (by omega) (by omega) (by omega)
    have CX := CI w1 HS.out x y x1 (by omega) y1 (by omega)
    rw [← hk] at CS CX
    rw [← hm] at CI CS h1 CX
    have hs1 := HS.out
    rw [← hm] at hs1 ⊢
    have C1 := Lib.hid CI
    have C2 := Lib.hid CS
    have C3 := Lib.hid CX
    have HS1 := Lib.hid hs1
    clear hk hm CI CS CX hs1 HS
    go_wp2_with fail
    refine C3.out.mono ?_
    rintro e w2 ⟨rfl, b2⟩
    have HS2 := Lib.hid (HS1.out.below b2)
    have HB2 := Lib.hid (below_next HB.out b2 (Nat.le_refl _))
    clear b2 HS1 HB C3
    go_wp2_with fail
    refine (C2.out w2 HS2.out).mono ?_
    rintro e w3 ⟨rfl, b3⟩
    have HS := Lib.hid (HS2.out.below b3)
    have HB := Lib.hid (below_next HB2.out b3 (Nat.le_refl _))
    clear b3 HS2 HB2 C2
    by_cases hm0 : m = 0
    · subst hm0
      clear SM C1 HM HS
      go_wp2_with fail
      refine wp_loop_rounds 1 ?_
      rw [rounds_succ]
      go_wp2_with fail
      refine (alive_any _).mono ?_
      rintro e w5 ⟨rfl, b5⟩
      go_wp2
      go_ret
      exact ⟨rfl, below_next HB.out b5 (Nat.le_refl _)⟩
    · obtain ⟨b, off, cap3, e, hbl, hc⟩ := HS.out.pos encArea_pos (by rw [← HM.out]; omega)
      simp at e
      obtain ⟨rfl, em, rfl⟩ := e
      clear em
      have HC := Lib.hid hc
      clear hc
      go_wp2_with fail
      go_loopw [7] (fun i wr => ∃ j : Nat, j ≤ m ∧ i = .int .i64 j ∧ Hid (Below w3.heap.size w3 wr)) (fun i _ => m - (intOf i).toNat)
      case atStart => exact ⟨0, Nat.zero_le _, rfl, Below.refl _ _⟩
      case round =>
        obtain ⟨j, hj, rfl, hbw⟩ := hrel
        by_cases hlt : j < m
        · have hj1 : j < xs.length := by rw [← HM.out]; exact hlt
          have q := HC.out j hj1
          have sm := SM.out xs[j] (List.getElem_mem hj1)
          have fl := fun x y h => findA_le x y xs 0 j hj1 (by omega) h
          obtain ⟨z, hz⟩ : ∃ z, z = xs[j] := ⟨_, rfl⟩
          rw [← hz] at q sm fl
          obtain ⟨s1, s2, s3, s4, s5, s6, s7, s8⟩ := sm
          obtain ⟨r, hr⟩ : ∃ r, r = findA z.f0 z.f1 xs 0 := ⟨_, rfl⟩
          have fl2 := fl z.f0 z.f1
          have C4 := Lib.hid (C1.out wr.drew (SRow.below HS.out hbw.out.drew) z.f0 z.f1 (by omega) (by omega) (by omega) (by omega))
          rw [← hr] at fl2 C4
          have fl3 : 0 < z.f2 → 0 < z.f3 → 0 ≤ r ∧ r ≤ j := by
            intro g1 g2
            have := fl2 (by unfold areaHit; rw [inW_eq, inW_eq, Bool.and_eq_true]; exact ⟨decide_eq_true (by omega), decide_eq_true (by omega)⟩)
            omega
          have d : ∀ i u, (encArea z)[i]? = some u → w3.cell? ⟨b, off + j * 4 + i, none⟩ = some u := q
          have c : ∀ i u, (encArea z)[i]? = some u → wr.cell? ⟨b, off + j * 4 + i, none⟩ = some u := fun i u hu => (hbw.out.cell (p := ⟨b, off + j * 4 + i, none⟩) (World.block_lt_of_cell? w3 _ (d i u hu))).trans (d i u hu)
          have c0 : wr.cell? ⟨b, off + j * 4, none⟩ = some (.int .i64 z.f0) := by simpa using c 0 _ rfl
          have c1 : wr.cell? ⟨b, off + j * 4 + 1, none⟩ = some (.int .i64 z.f1) := by simpa using c 1 _ rfl
          have hbr : b < wr.heap.size := by have := hbw.out.size; omega
          have c2 : wr.cell? ⟨b, off + j * 4 + 2, none⟩ = some (.int .i64 z.f2) := by simpa using c 2 _ rfl
          have c3 : wr.cell? ⟨b, off + j * 4 + 3, none⟩ = some (.int .i64 z.f3) := by simpa using c 3 _ rfl
          clear q d c fl fl2 hr hz
          have hbd : Below w3.heap.size w3 wr.drew := hbw.out.drew
          have HBD := Lib.hid hbd
          clear hbd hbw
          go_wp2
          go_still_tail 11, (by kernel_rfl)
          change wpList _ _ _ _ _ wr.drew
          go_wp2_with fail
          refine C4.out.mono ?_
          rintro e w6 ⟨rfl, b6⟩
          have hb6 := below_next HBD.out b6 (Nat.le_refl _)
          have HB6 := Lib.hid hb6
          have e2 : w6.cell? ⟨b, off + j * 4 + 2, none⟩ = some (.int .i64 z.f2) := (b6.cell (p := ⟨b, off + j * 4 + 2, none⟩) hbr).trans c2
          have e3 : w6.cell? ⟨b, off + j * 4 + 3, none⟩ = some (.int .i64 z.f3) := (b6.cell (p := ⟨b, off + j * 4 + 3, none⟩) hbr).trans c3
          clear b6 hb6 c0 c1 c2 c3 C4
          by_cases g1 : 0 < z.f2
          · by_cases g2 : 0 < z.f3
            · obtain ⟨r1, r2⟩ := fl3 g1 g2
              clear fl3
              go_wp2
              go_roundw
              case rel => exact ⟨j + 1, by omega, by go_num, HB6.out⟩
              case measure => simp [intOf]; omega
            · clear fl3
              go_wp2
              go_roundw
              case rel => exact ⟨j + 1, by omega, by go_num, HB6.out⟩
              case measure => simp [intOf]; omega
          · clear fl3
            go_wp2
            go_roundw
            case rel => exact ⟨j + 1, by omega, by go_num, HB6.out⟩
            case measure => simp [intOf]; omega
        · obtain rfl : j = m := by omega
          go_wp2_with fail
          refine (alive_any _).mono ?_
          rintro e w5 ⟨rfl, b5⟩
          go_wp2
          go_ret
          exact ⟨rfl, below_next (below_next HB.out hbw.out (Nat.le_refl _)) b5 (Nat.le_refl _)⟩
end Go.Proofs.Ytgbbodmggbeflaa

/-
  PROVED HERE: what the text of the law FnAvoidLonely does: it returns true and turns nothing that was there. Conditions: the walk's own.
-/
import Derived.Test.YtaolkplecdbadaaAvoidS
import Derived.Test.YtaolkplecdbadaaAvoidM
import Derived.Test.YtaolkplecdbadaaDrawAv
import Derived.Test.YtaolkplecdbadaaLonely3
import Derived.Test.YtaolkplecdbadaaRows2
namespace Go.Proofs.Ytaolkplecdbadaa
open Go.RowKit

set_option maxHeartbeats 8000000 in
theorem fnAvoidLonely_walk (a : Option Addr) (n cap : Nat) (w : World) (h : Code8 w a n cap) : Calls Try.prog 8 #[.slice a n cap] w (Ret (.bool true) w) := by
  have hn : n ≤ 9223372036854775807 := by have := h.2.1; unfold maxLen at this; omega
  by_cases hbig : 1048576 < n
  · go_enter Try.func8, Try.ntmps8
    go_wp2
    go_ret
    exact ⟨rfl, Below.refl _ _⟩
  · have H := Lib.hid h
    clear h
    go_enter Try.func8, Try.ntmps8
    go_wp2_with fail
    refine (drawAvoid_any a n cap w H.out).mono ?_
    rintro e w1 ⟨M, ps, v, l, M0, M1, hpl, l0, l1, rfl, iv, b1⟩
    have hlaw := Lib.hid (av_law M ps l)
    have hyl := avL_len M ps l
    obtain ⟨ys, hys⟩ : ∃ ys, ys = avL M ps l := ⟨_, rfl⟩
    have C1 := Lib.hid (fun w (h : IRow w v ps) => (hys ▸ implAvoid_any M l v ps w h (by omega) (by omega) : Calls Try.prog 26 #[.int .i64 M, v, .int .i64 l] w (OwnInts ys w)))
    have C2 := Lib.hid (fun w (h : IRow w v ps) => (hys ▸ specAvoid_any M l v ps w h (by omega) (by omega) : Calls Try.prog 25 #[.int .i64 M, v, .int .i64 l] w (OwnInts ys w)))
    have LAW : Hid (ys ≠ [] → stepOk l 0 ys ∧ lonA M ps ys = 0 ∧ lonB M ps ys = 0) := by rw [hys]; exact hlaw.out
    rw [← hys] at hyl
    clear hys H hlaw
    go_wp2_with fail
    refine (C1.out w1 iv).mono ?_
    rintro e w2 ⟨X, rfl, ox, b2⟩
    go_wp2_with fail
    refine (C2.out w2 (iv.below b2)).mono ?_
    rintro e w3 ⟨Y, rfl, oy, b3⟩
    go_wp2_with fail
    refine (sameInts_any X Y ys w3 ((IRow.of_owns ox).below b3) (IRow.of_owns oy)).mono ?_
    rintro e w5 ⟨rfl, b4⟩
    have B5 := Lib.hid (below_next (below_next (below_next b1 b2 (Nat.le_refl _)) b3 (Nat.le_refl _)) b4 (Nat.le_refl _))
    have IX := Lib.hid (((IRow.of_owns ox).below b3).below b4)
    have IV := Lib.hid (((iv.below b2).below b3).below b4)
    clear C1 C2 iv ox oy b1 b2 b3 b4
    by_cases h0 : ys.length = 0
    · obtain rfl : ys = [] := List.eq_nil_of_length_eq_zero h0
      obtain ⟨xa, xc, rfl⟩ := IX.out.empty
      go_wp2_with fail
      refine (alive_any _).mono ?_
      rintro e w6 ⟨rfl, b6⟩
      have B6 := Lib.hid (below_next B5.out b6 (Nat.le_refl _))
      clear b6
      go_wp2
      go_ret
      exact ⟨rfl, B6.out⟩
    · obtain ⟨s1, s2, s3⟩ := LAW.out (fun e => h0 (by rw [e]; rfl))
      have S1 := Lib.hid s1
      have S2 := Lib.hid s2
      have S3 := Lib.hid s3
      obtain ⟨b, off, cx, rfl, hc⟩ := IX.out.pos (by omega)
      obtain ⟨m, hm⟩ : ∃ m, m = ys.length := ⟨_, rfl⟩
      rw [← hm] at hc h0 hyl IX ⊢
      have HC := Lib.hid hc
      have HM := Lib.hid hm
      have hne : ((m : Int) == 0) = false := by simp; omega
      clear hm hc s1 s2 s3 LAW
      go_wp2
      go_loop [7] (fun i => ∃ (k : Nat) (p : Int), k ≤ m ∧ i = .int .i64 k ∧ 0 ≤ p ∧ p ≤ 1000 * k ∧ Hid (stepOk l p (ys.drop k)) ∧ Hid (k = 0 → p = 0) ∧ Hid (0 < k → ys.getD (k - 1) 0 = p)) (fun i => m - (intOf i).toNat)
      case atStart => exact ⟨0, 0, Nat.zero_le _, rfl, by omega, by omega, S1.out, fun _ => rfl, fun h => absurd h (Nat.lt_irrefl _)⟩
      case round =>
        obtain ⟨k, p, hk, rfl, hp0, hp1, hst, hpz, hpk⟩ := hrel
        by_cases hlt : k < m
        · have hk' : k < ys.length := by rw [← HM.out]; exact hlt
          have hd := getD_drop hk'
          have c1 := HC.out k hlt
          have c2 : 0 < k → w5.cell? ⟨b, off + (k - 1), none⟩ = some (.int .i64 p) := fun h0 => by rw [HC.out (k - 1) (by omega), hpk.out h0]
          have st := hst.out
          have nx : ys.getD (k + 1 - 1) 0 = ys.getD k 0 := rfl
          obtain ⟨y, hy⟩ : ∃ y, y = ys.getD k 0 := ⟨_, rfl⟩
          rw [← hy] at hd c1 nx
          rw [hd, stepOk] at st
          obtain ⟨t1, t2, t3⟩ := st
          have T3 := Lib.hid t3
          have NX := Lib.hid nx
          have C2 := Lib.hid c2
          have PZ := Lib.hid hpz.out
          have g1 : ¬ y ≤ p := by omega
          have g2 : ¬ l < y - p := by omega
          clear hy hd t3 nx c2 hst hpz hpk
          by_cases hk0 : 0 < k
          · have c3 := C2.out hk0
            go_wp2
            go_round
            case rel => exact ⟨k + 1, y, by omega, by go_num, by omega, by omega, T3.out, fun h => absurd h (by omega), fun _ => NX.out⟩
            case measure => simp [intOf]; omega
          · obtain rfl : k = 0 := by omega
            obtain rfl : p = 0 := PZ.out rfl
            simp only [Nat.add_zero] at c1
            simp only [Int.sub_zero] at g2 t2
            go_wp2
            go_round
            case rel => exact ⟨0 + 1, y, by omega, by go_num, by omega, by omega, T3.out, fun h => absurd h (by omega), fun _ => NX.out⟩
            case measure => simp [intOf]; omega
        · clear hst hpz hpk HC
          have C := implLonely_any M v (.slice (some ⟨b, off, none⟩) m cx) ps ys w5 IV.out IX.out
          rw [S2.out, S3.out] at C
          go_wp2_with fail
          refine C.mono ?_
          rintro e w6 ⟨rfl, b6⟩
          have B6 := Lib.hid (below_next B5.out b6 (Nat.le_refl _))
          clear b6 C
          go_wp2
          go_ret
          exact ⟨rfl, B6.out⟩
end Go.Proofs.Ytaolkplecdbadaa

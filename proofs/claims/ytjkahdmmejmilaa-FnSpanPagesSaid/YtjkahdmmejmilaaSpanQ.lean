/-
  PROVED HERE: the pages of ranges: what the reference returns. Conditions: each theorem's own.
-/
import Derived.Test.YtjkahdmmejmilaaSpanP
namespace Go.Proofs.Ytjkahdmmejmilaa
open Go.RowKit

set_option maxHeartbeats 4000000 in
theorem specSpanPages_any (v : Value) (xs : List DSpan) (many : Int) (w : World) (h : SRow 2 encSpan w v xs) : Calls Try.prog 17 #[v, .int .i64 many] w (PagesPost (spPages many xs) w) := by
  have H := Lib.hid h
  obtain ⟨i0, hi, hz0, hz1, hz2⟩ := info_parts info_int
  clear h
  go_enter Try.func17, Try.ntmps17
  have B0 := Lib.hid ((Below.refl w.heap.size w).alloc (Nat.le_refl _) (.cells #[] 3))
  have O0 := Lib.hid (World.ownsRow_made (base := w.heap.size) (e := 3) (size := 1) w #[] 0 (Nat.le_refl _) (Nat.zero_le _) rfl)
  by_cases h0 : xs.length = 0
  · obtain rfl : xs = [] := List.eq_nil_of_length_eq_zero h0
    obtain ⟨a, cap, rfl⟩ := H.out.empty
    have E2 : Hid (spPages many [] = []) := rfl
    clear h0
    go_wp2
    refine wp_loop_rounds 1 ?_
    rw [rounds_succ]
    go_wp2
    go_ret
    exact ⟨_, rfl, by rw [E2.out]; exact O0.out, B0.out⟩
  · obtain ⟨b, off, cap, rfl, hbl, hc⟩ := H.out.pos encSpan_pos (by omega)
    have HC := Lib.hid hc
    have hnl : xs.length ≤ 9223372036854775807 := H.out.len
    obtain ⟨n, hn⟩ : ∃ n, n = xs.length := ⟨_, rfl⟩
    rw [← hn] at h0 H hnl ⊢
    have HN := Lib.hid hn
    clear hn hc
    have hn0 : 0 < n := by omega
    cases hv : spB xs
    · have E : Hid (spPages many xs = []) := by show _ = _; unfold spPages; rw [hv]; rfl
      have HV := Lib.hid hv
      clear hv
      go_wp2
      refine wp_loop_rounds 1 ?_
      rw [rounds_succ]
      go_wp2_with fail
      refine (specSpansValid_any _ xs _ (H.out.below B0.out)).mono ?_
      rintro e w1 ⟨rfl, b1⟩
      rw [HV.out]
      have B1 := Lib.hid (below_next B0.out b1 (Nat.le_refl _))
      have O1 := Lib.hid (owns_below O0.out b1)
      clear b1
      go_wp2
      go_ret
      exact ⟨_, rfl, by rw [E.out]; exact O1.out, B1.out⟩
    · have E : Hid (spPages many xs = spP many xs) := by show _ = _; unfold spPages; rw [hv]; rfl
      obtain ⟨hx10, hxb⟩ := spB_true hv
      have HV := Lib.hid hv
      have HXB := Lib.hid hxb
      rw [← HN.out] at hx10
      clear hv hxb
      go_wp2
      go_loopw [5, 6] (fun v i wr => ∃ k L : Nat, k ≤ n ∧ i = .int .i64 k ∧ L ≤ 999 * k ∧ Hid (wr.ownsRow w.heap.size 3 1 v L ((spP many (xs.take k)).map (Value.int .i64))) ∧ Hid (Below w.heap.size w wr)) (fun _ i _ => n - (intOf i).toNat)
      case atStart => exact ⟨0, 0, Nat.zero_le _, rfl, by omega, O0.out, B0.out⟩
      case round =>
        obtain ⟨k, L, hk, rfl, hL, ho, hb⟩ := hrel
        by_cases hlt : k < n
        · have hk' : k < xs.length := by rw [← HN.out]; exact hlt
          have q := HC.out k hk'
          obtain ⟨z1, z2, z3⟩ := HXB.out xs[k] (List.getElem_mem hk')
          have sn := spP_snoc many xs k hk'
          obtain ⟨z, hx⟩ : ∃ x, x = xs[k] := ⟨_, rfl⟩
          rw [← hx] at q z1 z2 z3 sn
          have hbr : b < wr.heap.size := by have := hb.out.size; omega
          have r : ∀ i u, (encSpan z)[i]? = some u → wr.cell? ⟨b, off + k * 2 + i, none⟩ = some u := fun i u hu => by
            have h3 : w.cell? ⟨b, off + k * 2 + i, none⟩ = some u := q i u hu
            exact (hb.out.cell (p := ⟨b, off + k * 2 + i, none⟩) hbl).trans h3
          obtain ⟨f, t⟩ := z
          simp only at z1 z2 z3 sn
          have c0 : wr.cell? ⟨b, off + k * 2, none⟩ = some (.int .i64 f) := by simpa using r 0 _ rfl
          have c1 : wr.cell? ⟨b, off + k * 2 + 1, none⟩ = some (.int .i64 t) := by simpa using r 1 _ rfl
          obtain ⟨c, hc⟩ : ∃ c, c = spN many ⟨f, t⟩ := ⟨_, rfl⟩
          rw [← hc] at sn
          have hcv : c = (min t many + 1 - f).toNat := by rw [hc]; rfl
          have SN := Lib.hid sn
          have HCV := Lib.hid hcv
          clear q r hx sn hc hcv
          go_wp2_with fail
          refine (specSpansValid_any _ xs _ (H.out.below hb.out)).mono ?_
          rintro e w1 ⟨rfl, b1⟩
          rw [HV.out]
          have OW := Lib.hid (owns_below ho.out b1)
          have BW := Lib.hid (below_next hb.out b1 (Nat.le_refl _))
          have e0 : w1.cell? ⟨b, off + k * 2, none⟩ = some (.int .i64 f) := (b1.cell (p := ⟨b, off + k * 2, none⟩) hbr).trans c0
          have e1 : w1.cell? ⟨b, off + k * 2 + 1, none⟩ = some (.int .i64 t) := (b1.cell (p := ⟨b, off + k * 2 + 1, none⟩) hbr).trans c1
          have E1 : Hid (w.cell? ⟨b, off + k * 2 + 1, none⟩ = some (.int .i64 t)) := (BW.out.cell (p := ⟨b, off + k * 2 + 1, none⟩) hbl).symm.trans e1
          clear c0 c1 ho hb b1 e1
          go_wp2
          obtain ⟨wo, rfl⟩ : ∃ wo : World, wo = wr := ⟨_, rfl⟩
          go_loopw [5, 7] (fun v m wi => ∃ j : Nat, j ≤ c ∧ m = .int .i64 (f + j) ∧ Hid (wi.ownsRow w.heap.size 3 1 v (L + j) ((spP many (xs.take k) ++ iota f j).map (Value.int .i64))) ∧ Hid (Below w.heap.size w wi)) (fun _ m _ => (1000 - intOf m).toNat)
          case atStart => exact ⟨0, Nat.zero_le _, by simp, by show World.ownsRow _ _ _ _ _ _ _; rw [iota_zero, List.append_nil]; exact OW.out, BW.out⟩
          case round =>
            obtain ⟨j, hj, rfl, ho, hb⟩ := hrel
            have cd1 : wr.cell? ⟨b, off + k * 2 + 1, none⟩ = some (.int .i64 t) := (hb.out.cell (p := ⟨b, off + k * 2 + 1, none⟩) hbl).trans E1.out
            have hws2 := hb.out.size
            have hcv := HCV.out
            have hc999 : c ≤ 999 := by omega
            by_cases hjc : j < c
            · have g1 : f + j ≤ t := by omega
              have g2 : f + j ≤ many := by omega
              clear hcv
              go_wp2_with (at_builtin; refine append_mine _ rfl _ _ 37 rfl w.heap.size 3 i0 (.int .i64 0) 1 8 Try.underlying37 hi hz0 hz1 hz2 rfl (by decide) _ _ _ rfl (ho.out.alloc _) ⟨wr.heap.size, 0, none⟩ 1 1 [.int .i64 (f + j)] rfl rfl (by simpa using cells_new wr [_] _) (by intro u hu; simp at hu; subst hu; rfl) (by unfold maxLen; omega) (by omega) (by simp; omega) ?_; intro v' w5 hown' hgrow hmv)
              have bf := (hb.out.alloc hws2 (.cells #[.int .i64 (f + j)] 3)).grown hgrow (by simp; omega) (fun j hj => (ho.out.lt j hj).1)
              clear cd1 hmv
              go_roundw
              case rel => exact ⟨j + 1, by omega, by go_num, by show World.ownsRow _ _ _ _ _ _ _; rw [iota_succ, ← List.append_assoc, List.map_append]; exact hown', bf⟩
              case measure => simp [intOf]; omega
            · obtain rfl : j = c := by omega
              have fin : wr.ownsRow w.heap.size 3 1 u5 (L + j) ((spP many (xs.take (k + 1))).map (Value.int .i64)) := by rw [SN.out]; exact ho.out
              have FIN := Lib.hid fin
              by_cases hm : t < f + j
              · clear fin ho hcv
                go_wp2
                go_roundw
                case rel => exact ⟨k + 1, L + j, by omega, by go_num, by omega, FIN.out, hb.out⟩
                case measure => simp [intOf]; omega
              · have hm2 : many < f + j := by omega
                clear fin ho hcv
                go_wp2
                go_roundw
                case rel => exact ⟨k + 1, L + j, by omega, by go_num, by omega, FIN.out, hb.out⟩
                case measure => simp [intOf]; omega
        · have hkn : k = n := by omega
          have e : spPages many xs = spP many (xs.take k) := by rw [E.out, List.take_of_length_le (by have := HN.out; omega)]
          have hLe : (spP many (xs.take k)).length = L := by have := ho.out.1; simpa using this
          have E2 := Lib.hid e
          have HLE := Lib.hid hLe
          clear e hLe hkn HC HXB
          go_wp2
          go_ret
          exact ⟨_, rfl, by rw [E2.out, HLE.out]; exact ho.out, hb.out⟩
end Go.Proofs.Ytjkahdmmejmilaa

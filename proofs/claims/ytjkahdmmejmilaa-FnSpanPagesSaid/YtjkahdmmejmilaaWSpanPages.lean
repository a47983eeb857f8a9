/-
  PROVED HERE: what the text of the law FnSpanPages does: it returns true and turns nothing that was there. Conditions: the walk's own.
-/
import Derived.Test.YtjkahdmmejmilaaDrawSp
import Derived.Test.YtjkahdmmejmilaaSpanQ
import Derived.Test.YtjkahdmmejmilaaSpanL
import Derived.Test.YtjkahdmmejmilaaRows2
namespace Go.Proofs.Ytjkahdmmejmilaa
open Go.RowKit

set_option maxHeartbeats 8000000 in
theorem fnSpanPages_walk (a : Option Addr) (n cap : Nat) (w : World) (h : Code8 w a n cap) : Calls Try.prog 5 #[.slice a n cap] w (Ret (.bool true) w) := by
  have hn : n ≤ 9223372036854775807 := by have := h.2.1; unfold maxLen at this; omega
  by_cases hbig : 1048576 < n
  · go_enter Try.func5, Try.ntmps5
    go_wp2
    go_ret
    exact ⟨rfl, Below.refl _ _⟩
  · have H := Lib.hid h
    clear h
    go_enter Try.func5, Try.ntmps5
    go_wp2_with fail
    refine (drawSpanPages_any a n cap w H.out).mono ?_
    rintro e w1 ⟨xs, V, many, hxl, hm1, hm2, rfl, ov, b1⟩
    have hs1 : SRow 2 encSpan w1 V xs := SRow.of_owns encSpan_len rfl ov
    have hlaw := pages_law many xs
    have hyl := spPages_len many xs
    obtain ⟨ys, hys⟩ : ∃ ys, ys = spPages many xs := ⟨_, rfl⟩
    have C1 := Lib.hid (fun w (h : SRow 2 encSpan w V xs) => (hys ▸ implSpanPages_any V xs many w h : Calls Try.prog 15 #[V, .int .i64 many] w (PagesPost ys w)))
    have C2 := Lib.hid (fun w (h : SRow 2 encSpan w V xs) => (hys ▸ specSpanPages_any V xs many w h : Calls Try.prog 17 #[V, .int .i64 many] w (PagesPost ys w)))
    rw [← hys] at hlaw hyl
    obtain ⟨law1, law2⟩ := hlaw
    have L1 := Lib.hid law1
    have L2 := Lib.hid law2
    clear hys H law1 law2 ov
    go_wp2_with fail
    refine (C1.out w1 hs1).mono ?_
    rintro e w2 ⟨X, rfl, ox, b2⟩
    go_wp2_with fail
    refine (C2.out w2 (hs1.below b2)).mono ?_
    rintro e w3 ⟨Y, rfl, oy, b3⟩
    go_wp2_with fail
    refine (sameInts_any X Y ys w3 ((IRow.of_owns ox).below b3) (IRow.of_owns oy)).mono ?_
    rintro e w5 ⟨rfl, b4⟩
    have B5 := Lib.hid (below_next (below_next (below_next b1 b2 (Nat.le_refl _)) b3 (Nat.le_refl _)) b4 (Nat.le_refl _))
    have IX := ((IRow.of_owns ox).below b3).below b4
    have SV := ((hs1.below b2).below b3).below b4
    clear C1 C2 hs1 ox oy b1 b2 b3 b4
    obtain ⟨xa, xc, e1, _, hix⟩ := IX
    obtain ⟨va, vc, e2, hvl, hiv⟩ := SV
    subst e1 e2
    obtain ⟨m, hm⟩ : ∃ m, m = ys.length := ⟨_, rfl⟩
    obtain ⟨nv, hnv⟩ : ∃ nv, nv = xs.length := ⟨_, rfl⟩
    rw [← hm] at hyl ⊢
    rw [← hnv] at hxl hvl ⊢
    have HIX := Lib.hid hix
    have HIV := Lib.hid hiv
    have HM := Lib.hid hm
    have HNV := Lib.hid hnv
    clear hm hnv hix hiv
    go_wp2
    go_loopw [6] (fun i wr => ∃ k : Nat, k ≤ m ∧ i = .int .i64 k ∧ Hid (Below w5.heap.size w5 wr)) (fun i _ => m - (intOf i).toNat)
    case atStart => exact ⟨0, Nat.zero_le _, rfl, Below.refl _ _⟩
    case round =>
      obtain ⟨k, hk, rfl, hb⟩ := hrel
      by_cases hlt : k < m
      · have hk' : k < ys.length := by rw [← HM.out]; exact hlt
        obtain ⟨bx, ox, rfl, hcx⟩ := HIX.out k hk'
        have hbx : bx < w5.heap.size := World.block_lt_of_cell? w5 _ hcx
        obtain ⟨l1, l2⟩ := L1.out k hk'
        obtain ⟨y, hy⟩ : ∃ y, y = ys.getD k 0 := ⟨_, rfl⟩
        rw [← hy] at hcx l1 l2
        have HY := Lib.hid hy
        have LA := Lib.hid l2
        have HCX := Lib.hid hcx
        have HBO := Lib.hid hb.out
        clear hy l2 hcx hb
        go_wp2
        go_loopw [7, 8] (fun fd i wi => ∃ j : Nat, j ≤ nv ∧ i = .int .i64 j ∧ fd = .bool ((xs.take j).any (inR y)) ∧ Hid (Below w5.heap.size w5 wi)) (fun _ i _ => nv - (intOf i).toNat)
        case atStart => exact ⟨0, Nat.zero_le _, rfl, rfl, HBO.out⟩
        case round =>
          obtain ⟨j, hj, rfl, rfl, hbi⟩ := hrel
          have cy : wr.cell? ⟨bx, ox + k, none⟩ = some (.int .i64 y) := (hbi.out.cell (p := ⟨bx, ox + k, none⟩) hbx).trans HCX.out
          by_cases hlj : j < nv
          · have hj' : j < xs.length := by rw [← HNV.out]; exact hlj
            obtain ⟨bv, off, rfl, hcv⟩ := HIV.out j hj'
            have tk : (xs.take (j + 1)).any (inR y) = ((xs.take j).any (inR y) || inR y xs[j]) := by
              rw [List.take_succ_eq_append_getElem hj', List.any_append]
              simp
            obtain ⟨z, hz⟩ : ∃ z, z = xs[j] := ⟨_, rfl⟩
            rw [← hz] at hcv tk
            obtain ⟨f, t⟩ := z
            have c0' := hcv 0 _ rfl
            have c1' := hcv 1 _ rfl
            have hbv : bv < w5.heap.size := World.block_lt_of_cell? w5 _ c0'
            have c0 : wr.cell? ⟨bv, off + j * 2, none⟩ = some (.int .i64 f) := (hbi.out.cell (p := ⟨bv, off + j * 2, none⟩) hbv).trans (by simpa using c0')
            have c1 : wr.cell? ⟨bv, off + j * 2 + 1, none⟩ = some (.int .i64 t) := (hbi.out.cell (p := ⟨bv, off + j * 2 + 1, none⟩) hbv).trans (by simpa using c1')
            obtain ⟨fb, hfb⟩ : ∃ fb, fb = (xs.take j).any (inR y) := ⟨_, rfl⟩
            rw [← hfb] at tk ⊢
            have TK := Lib.hid tk
            have HB := Lib.hid hbi.out
            clear hcv tk hz c0' c1' hfb hbi
            cases fb with
            | true =>
              go_wp2_with fail
              go_quiet (fail)
              go_wp2
              go_roundw
              case rel => exact ⟨j + 1, by omega, by go_num, by rw [TK.out, Bool.true_or], below_drewN HB.out _⟩
              case measure => simp [intOf]; omega
            | false =>
              have TK2 : Hid ((xs.take (j + 1)).any (inR y) = (decide (f ≤ y) && decide (y ≤ t))) := by show _ = _; rw [TK.out, Bool.false_or]; rfl
              by_cases q1 : f ≤ y
              · by_cases q2 : y ≤ t
                · have d1 : decide (f ≤ y) = true := decide_eq_true q1
                  have d2 : decide (y ≤ t) = true := decide_eq_true q2
                  go_wp2_with fail
                  go_quiet (fail)
                  go_wp2
                  go_roundw
                  case rel => exact ⟨j + 1, by omega, by go_num, by rw [TK2.out, d1, d2]; rfl, below_drewN HB.out _⟩
                  case measure => simp [intOf]; omega
                · have d1 : decide (f ≤ y) = true := decide_eq_true q1
                  have d2 : decide (y ≤ t) = false := decide_eq_false q2
                  go_wp2_with fail
                  go_quiet (fail)
                  go_wp2
                  go_roundw
                  case rel => exact ⟨j + 1, by omega, by go_num, by rw [TK2.out, d1, d2]; rfl, below_drewN HB.out _⟩
                  case measure => simp [intOf]; omega
              · have d1 : decide (f ≤ y) = false := decide_eq_false q1
                go_wp2_with fail
                go_quiet (fail)
                go_wp2
                go_roundw
                case rel => exact ⟨j + 1, by omega, by go_num, by rw [TK2.out, d1]; rfl, below_drewN HB.out _⟩
                case measure => simp [intOf]; omega
          · have hfd : (xs.take j).any (inR y) = true := by rw [List.take_of_length_le (by have := HNV.out; omega)]; exact LA.out
            have HBI := Lib.hid hbi.out
            have g1 : decide (many < y) = false := decide_eq_false (by omega)
            rw [hfd]
            clear hfd hbi HBO
            by_cases hk0 : 0 < k
            · have c2' := HIX.out (k - 1) (by have := HM.out; omega)
              obtain ⟨bx', ox', e3, hcx'⟩ := c2'
              obtain ⟨rfl, rfl⟩ : bx = bx' ∧ ox = ox' := by simpa using e3
              have l3 := L2.out k hk0 hk'
              rw [← HY.out] at l3
              obtain ⟨y', hy'⟩ : ∃ y', y' = ys.getD (k - 1) 0 := ⟨_, rfl⟩
              rw [← hy'] at hcx' l3
              have c2 : wr.cell? ⟨bx, ox + (k - 1), none⟩ = some (.int .i64 y') := (HBI.out.cell (p := ⟨bx, ox + (k - 1), none⟩) hbx).trans hcx'
              have g2 : decide (y ≤ y') = false := decide_eq_false (by omega)
              clear hy' hcx' e3
              go_wp2_with fail
              go_quiet (fail)
              go_wp2
              go_roundw
              case rel => exact ⟨k + 1, by omega, by go_num, below_drewN HBI.out _⟩
              case measure => simp [intOf]; omega
            · obtain rfl : k = 0 := by omega
              simp only [Nat.add_zero] at cy
              go_wp2_with fail
              go_quiet (fail)
              go_wp2
              go_roundw
              case rel => exact ⟨0 + 1, by omega, by go_num, below_drewN HBI.out _⟩
              case measure => simp [intOf]; omega
      · go_wp2_with fail
        refine (alive_any _).mono ?_
        rintro e w9 ⟨rfl, b9⟩
        have B9 := Lib.hid (below_next (below_next B5.out hb.out (Nat.le_refl _)) b9 (Nat.le_refl _))
        clear b9
        go_wp2
        go_ret
        exact ⟨rfl, B9.out⟩
end Go.Proofs.Ytjkahdmmejmilaa

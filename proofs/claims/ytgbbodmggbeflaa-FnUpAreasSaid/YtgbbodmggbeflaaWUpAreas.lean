/-
  PROVED HERE: what the text of the law FnUpAreas does: it returns true and turns nothing that was there. Conditions: the walk's own.
-/
import Derived.Test.YtgbbodmggbeflaaUpArS
import Derived.Test.YtgbbodmggbeflaaDrawAr
import Derived.Test.YtgbbodmggbeflaaGeo
set_option linter.unusedVariables false
set_option linter.unusedSimpArgs false
namespace Go.Proofs.Ytgbbodmggbeflaa
open Go.RowKit

set_option maxRecDepth 100000 in
set_option maxHeartbeats 8000000 in
theorem fnUpAreas_walk (a : Option Addr) (n cap : Nat) (w : World) (h : Code8 w a n cap) : Calls Try.prog 9 #[.slice a n cap] w (Ret (.bool true) w) := by
  have hn : n ≤ 9223372036854775807 := by have := h.2.1; unfold maxLen at this; omega
  by_cases hbig : 1048576 < n
  · go_enter Try.func9, Try.ntmps9
    go_wp2
    go_ret
    exact ⟨rfl, Below.refl _ _⟩
  · have H := Lib.hid h
    clear h
    go_enter Try.func9, Try.ntmps9
    go_wp2_with fail
    refine (drawUpAreas_any a n cap w H.out).mono ?_
    rintro e w1 ⟨r, c, wd, ht, g, ⟨r1, r2⟩, ⟨c1, c2⟩, ⟨d1, d2⟩, ⟨t1, t2⟩, ⟨g1, g2⟩, rfl, b1⟩
    go_wp2_with fail
    refine (implAr_any r c wd ht g w1).mono ?_
    rintro e w2 ⟨v1, rfl, o1, b2⟩
    go_wp2_with fail
    refine (specAr_any r c wd ht g w2).mono ?_
    rintro e w3 ⟨v0, rfl, o0, b3⟩
    have i1 := (SRow.of_owns encArea_len rfl o1).below b3
    go_wp2_with fail
    refine (sameAreas_any v1 v0 _ w3 i1 (SRow.of_owns encArea_len rfl o0)).mono ?_
    rintro e w4 ⟨rfl, b4⟩
    have j1 := i1.below b4
    have bb : Below w.heap.size w w4 := below_next (below_next (below_next b1 b2 (Nat.le_refl _)) b3 (Nat.le_refl _)) b4 (Nat.le_refl _)
    have BB := Lib.hid bb
    clear b1 b2 b3 b4 o0 o1 i1 bb
    cases hB : arB r c wd ht g
    · have he : areas r c wd ht g = [] := by unfold areas; unfold arB at hB; rw [hB]; rfl
      rw [he] at j1
      obtain ⟨a', cap', rfl⟩ := j1.empty
      clear he j1 hB
      go_wp2_with (go_at_call 18; refine (alive_any _).mono ?_; rintro e w5 ⟨rfl, b5⟩)
      go_ret
      exact ⟨rfl, below_next BB.out (by assumption) (Nat.le_refl _)⟩
    · obtain ⟨N, Wd, Ht, X, hx, hN, hN36, hw0, hh0, hX, hXX⟩ := areas_geo hB
      rw [hx] at j1
      have hlen : (List.map (fun k => (⟨(X k).1, (X k).2, Wd, Ht⟩ : DArea)) (List.range N)).length = N := by simp
      have hp : 0 ≤ r * c := Int.mul_nonneg (by omega) (by omega)
      have hp2 : r * c ≤ 100 := Int.le_trans (Int.mul_le_mul r2 c2 (by omega) (by omega)) (by omega)
      have hNb : ((N : Int) == r * c) = true := by simpa using hN
      have HX := Lib.hid hX
      have HXX := Lib.hid hXX
      clear hx hX hXX hB hN
      by_cases hN0 : N = 0
      · subst hN0
        obtain ⟨a', cap', rfl⟩ := j1.empty
        have hz : ((0 : Int) == r * c) = true := by simpa using hNb
        clear hNb j1 hlen
        go_wp2_with fail
        refine wp_loop_rounds 1 ?_
        rw [rounds_succ]
        go_wp2
        go_ret
        exact ⟨rfl, BB.out⟩
      · obtain ⟨b, off, cap', rfl, hbl, hc⟩ := j1.pos encArea_pos (by omega)
        rw [hlen] at ⊢
        have hcell : ∀ k, k < N → w4.cell? ⟨b, off + k * 4, none⟩ = some (.int .i64 (X k).1) ∧ w4.cell? ⟨b, off + k * 4 + 1, none⟩ = some (.int .i64 (X k).2) ∧ w4.cell? ⟨b, off + k * 4 + 2, none⟩ = some (.int .i64 Wd) ∧ w4.cell? ⟨b, off + k * 4 + 3, none⟩ = some (.int .i64 Ht) := by
          intro k hk
          have q := hc k (by rw [hlen]; exact hk)
          rw [List.getElem_map, List.getElem_range] at q
          exact ⟨by simpa using q 0 _ rfl, q 1 _ rfl, q 2 _ rfl, q 3 _ rfl⟩
        have HC := Lib.hid hcell
        clear hc hcell j1 hlen
        go_wp2_with fail
        go_loopw [12] (fun i wr => ∃ k : Nat, k ≤ N ∧ i = .int .i64 k ∧ Below w4.heap.size w4 wr) (fun i _ => N - (intOf i).toNat)
        case atStart => exact ⟨0, Nat.zero_le _, rfl, Below.refl _ _⟩
        case round =>
          obtain ⟨k, hk, rfl, hb⟩ := hrel
          by_cases hlt : k < N
          · obtain ⟨La, hLa⟩ : ∃ z, z = (X k).1 := ⟨_, rfl⟩
            obtain ⟨Ta, hTa⟩ : ∃ z, z = (X k).2 := ⟨_, rfl⟩
            have hq := HC.out k hlt
            have hg := HX.out k hlt
            rw [← hLa, ← hTa] at hq hg
            have cc : ∀ o u, w4.cell? ⟨b, o, none⟩ = some u → wr.cell? ⟨b, o, none⟩ = some u := fun o u h => (hb.cell (p := ⟨b, o, none⟩) hbl).trans h
            have e0 := cc _ _ hq.1
            have e1 := cc _ _ hq.2.1
            have e2 := cc _ _ hq.2.2.1
            have e3 := cc _ _ hq.2.2.2
            have h0 := HC.out 0 (by omega)
            have e4 : wr.cell? ⟨b, off + 2, none⟩ = some (.int .i64 Wd) := cc _ _ (by simpa using h0.2.2.1)
            have e5 : wr.cell? ⟨b, off + 3, none⟩ = some (.int .i64 Ht) := cc _ _ (by simpa using h0.2.2.2)
            have hbw : b < wr.heap.size := by have := hb.size; omega
            obtain ⟨y1, y2, y3, y4⟩ := hg
            have HLa := Lib.hid hLa
            have HTa := Lib.hid hTa
            have HB := Lib.hid hb
            clear hLa hTa hq cc h0 hb
            have z1 : decide (La < g) = false := by simp; omega
            have z2 : decide (Ta < g) = false := by simp; omega
            have z3 : decide (wd < La + Wd + g) = false := by simp; omega
            have z4 : decide (ht < Ta + Ht + g) = false := by simp; omega
            have z5 : decide (Wd < 1) = false := by simp; omega
            have z6 : decide (Ht < 1) = false := by simp; omega
            go_wp2
            go_quiet (fail)
            go_wp2
            clear z1 z2 z3 z4 z5 z6 e4 e5
            obtain ⟨wo, hwo⟩ : ∃ wo, wo = (wr.alloc (.cells #[.int .i64 La, .int .i64 Ta, .int .i64 Wd, .int .i64 Ht] 44)).drewN nq := ⟨_, rfl⟩
            rw [← hwo]
            have f0 : wo.cell? ⟨wr.heap.size, 0, none⟩ = some (.int .i64 La) := by rw [hwo]; exact World.cell?_alloc_at _ _ _ _ rfl
            have f1 : wo.cell? ⟨wr.heap.size, 1, none⟩ = some (.int .i64 Ta) := by rw [hwo]; exact World.cell?_alloc_at _ _ _ _ rfl
            have f2 : wo.cell? ⟨wr.heap.size, 2, none⟩ = some (.int .i64 Wd) := by rw [hwo]; exact World.cell?_alloc_at _ _ _ _ rfl
            have f3 : wo.cell? ⟨wr.heap.size, 3, none⟩ = some (.int .i64 Ht) := by rw [hwo]; exact World.cell?_alloc_at _ _ _ _ rfl
            have fs : wo.heap.size = wr.heap.size + 1 := by rw [hwo]; simp
            have fb : Below w4.heap.size w4 wo := by rw [hwo]; exact below_drewN (HB.out.alloc (by have := HB.out.size; omega) _) _
            obtain ⟨A, hA⟩ : ∃ A, A = wr.heap.size := ⟨_, rfl⟩
            rw [← hA] at f0 f1 f2 f3 fs hbw ⊢
            have FB := Lib.hid fb
            have FSQ := Lib.hid fs
            have hbo : b < wo.heap.size := by omega
            have hAo : A < wo.heap.size := by omega
            have F := Lib.hid (And.intro f0 (And.intro f1 (And.intro f2 f3)))
            clear f0 f1 f2 f3 fb fs hwo hA HB e0 e1 e2 e3
            go_loopw [14] (fun i wi => ∃ j : Nat, j ≤ k ∧ i = .int .i64 j ∧ Below wo.heap.size wo wi) (fun i _ => k - (intOf i).toNat)
            case atStart => exact ⟨0, Nat.zero_le _, rfl, Below.refl _ _⟩
            case round =>
              obtain ⟨j, hj, rfl, hbi⟩ := hrel
              have a0 : wr.cell? ⟨A, 0, none⟩ = some (.int .i64 La) := (hbi.cell (p := ⟨A, 0, none⟩) hAo).trans F.out.1
              have a1 : wr.cell? ⟨A, 1, none⟩ = some (.int .i64 Ta) := (hbi.cell (p := ⟨A, 1, none⟩) hAo).trans F.out.2.1
              have a2 : wr.cell? ⟨A, 2, none⟩ = some (.int .i64 Wd) := (hbi.cell (p := ⟨A, 2, none⟩) hAo).trans F.out.2.2.1
              have a3 : wr.cell? ⟨A, 3, none⟩ = some (.int .i64 Ht) := (hbi.cell (p := ⟨A, 3, none⟩) hAo).trans F.out.2.2.2
              have hAr : A < wr.heap.size := by have := hbi.size; omega
              by_cases hjk : j < k
              · obtain ⟨Lb, hLb⟩ : ∃ z, z = (X j).1 := ⟨_, rfl⟩
                obtain ⟨Tb, hTb⟩ : ∃ z, z = (X j).2 := ⟨_, rfl⟩
                have hq := HC.out j (by omega)
                have hg := HX.out j (by omega)
                have hx := HXX.out j k hjk hlt
                rw [← hLb, ← hTb, ← HLa.out, ← HTa.out] at hx
                rw [← hLb, ← hTb] at hq hg
                have cc : ∀ o u, w4.cell? ⟨b, o, none⟩ = some u → wr.cell? ⟨b, o, none⟩ = some u := fun o u h => (hbi.cell (p := ⟨b, o, none⟩) hbo).trans ((FB.out.cell (p := ⟨b, o, none⟩) hbl).trans h)
                have e0 := cc _ _ hq.1
                have e1 := cc _ _ hq.2.1
                have e2 := cc _ _ hq.2.2.1
                have e3 := cc _ _ hq.2.2.2
                have hbr : b < wr.heap.size := by have := hbi.size; omega
                obtain ⟨u1, u2, u3, u4⟩ := hg
                have HBI := Lib.hid hbi
                clear hLb hTb hq cc hbi
                rcases hx with hx | hx | ⟨hx, hx'⟩
                · have z1 : decide (La < Lb + Wd) = false := by simp; omega
                  go_wp2
                  go_roundw
                  case rel => exact ⟨j + 1, by omega, by go_num, HBI.out.alloc (by have := HBI.out.size; omega) _⟩
                  case measure => simp [intOf]; omega
                · have z1 : decide (La < Lb + Wd) = true := by simp; omega
                  have z2 : decide (Lb < La + Wd) = false := by simp; omega
                  go_wp2
                  go_roundw
                  case rel => exact ⟨j + 1, by omega, by go_num, HBI.out.alloc (by have := HBI.out.size; omega) _⟩
                  case measure => simp [intOf]; omega
                · subst hx
                  have z1 : decide (Lb < Lb + Wd) = true := by simp; omega
                  have z3 : decide (Ta < Tb + Ht) = false := by simp; omega
                  go_wp2
                  go_roundw
                  case rel => exact ⟨j + 1, by omega, by go_num, HBI.out.alloc (by have := HBI.out.size; omega) _⟩
                  case measure => simp [intOf]; omega
              · have hfin := FB.out.trans (hbi.mono (by have := FB.out.size; omega))
                have HF := Lib.hid hfin
                clear hbi hfin
                go_wp2
                go_roundw
                case rel => exact ⟨k + 1, by omega, by go_num, HF.out⟩
                case measure => simp [intOf]; omega
          · clear HX HXX HC
            go_wp2
            go_ret
            exact ⟨rfl, below_next BB.out hb (Nat.le_refl _)⟩
end Go.Proofs.Ytgbbodmggbeflaa

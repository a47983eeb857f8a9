/-
  PROVED HERE: what the program's SpansOf returns. Conditions: each theorem's own.
-/
import Derived.Test.YtnlhlgefaamdgaaSoJ
set_option linter.unusedVariables false
set_option linter.unusedSimpArgs false
namespace Go.Proofs.Ytnlhlgefaamdgaa
open Go.RowKit
set_option maxRecDepth 100000

theorem soR_len (zs : List Int) : (soR zs).length ≤ 999 := by
  unfold soR
  split
  · have := spFoldTo_len zs 999; rwa [pgsTo_all] at this
  · exact Nat.zero_le _
set_option maxHeartbeats 4000000 in
theorem implSpansOf_any (v : Value) (zs : List Int) (w : World) (h : IRow w v zs) (hl : zs.length ≤ 1048576) : Calls Try.prog 7 #[v] w (OwnSpB (soR zs) (soB zs) w) := by
  obtain ⟨i0, hi, hz0, hz1, hz2⟩ := info_parts info_Span
  have H := Lib.hid h
  have HL := Lib.hid hl
  have PB : Hid ((!zs.all fun x => inB x 1 999) = !pgB zs) := rfl
  clear h hl
  go_enter Try.func7, Try.ntmps7
  go_wp2_with fail
  refine (containsPage_any v zs w H.out).mono ?_
  rintro e w1 ⟨rfl, b1⟩
  rw [PB.out]
  have B1 := Lib.hid b1
  have r1 := Lib.hid (H.out.below b1)
  clear b1 H PB
  cases hv : pgB zs
  · have E1 : Hid (soB zs = false) := by show _ = _; unfold soB; rw [hv]; rfl
    have E2 : Hid (soR zs = []) := by show _ = _; unfold soR; rw [E1.out]; rfl
    clear hv r1 HL
    go_wp2
    go_ret2
    exact ⟨_, by rw [E1.out]; rfl, by rw [E2.out]; exact World.ownsRow_nil _ _ _ _, B1.out⟩
  · have E1 : Hid (soB zs = decide ((spFold (pgs zs)).length ≤ 10)) := by show _ = _; unfold soB; rw [hv]; rfl
    have E2 : Hid (soR zs = if soB zs = true then spFold (pgs zs) else []) := rfl
    have PG : Hid (∀ z ∈ zs, 1 ≤ z ∧ z ≤ 999) := fun z hz => by
      unfold pgB at hv
      rw [List.all_eq_true] at hv
      exact inB_true (hv z hz)
    have CP := Lib.hid (compact_pgs zs PG.out)
    clear hv
    go_wp2_with fail
    refine (clone_any v zs w1 r1.out HL.out).mono ?_
    rintro e w2 ⟨V2, rfl, o2, b2⟩
    have O2 := Lib.hid (o2.mono B1.out.size)
    have B2 := Lib.hid (below_next B1.out b2 (Nat.le_refl _))
    clear o2 b2 r1
    go_wp2_with fail
    refine (sort_own V2 zs w.heap.size w2 O2.out HL.out).mono ?_
    rintro e w3 ⟨rfl, o3, g3⟩
    have O3 := Lib.hid o3
    have B3 := Lib.hid (B2.out.grown g3 B2.out.size (fun j hj => (O2.out.lt j hj).1))
    clear o3 g3 O2 B2
    obtain ⟨ss, hss⟩ : ∃ ss, ss = zs.mergeSort fun x y => decide (x ≤ y) := ⟨_, rfl⟩
    have hsl : ss.length = zs.length := by rw [hss]; exact List.length_mergeSort zs
    rw [← hss] at O3 CP
    rw [← hsl] at O3 HL
    have CPH := CP
    clear hss hsl
    go_wp2_with fail
    refine (compact_own V2 ss w.heap.size w3 O3.out HL.out).mono ?_
    rintro e w4 ⟨V4, rfl, o4, g4⟩
    rw [CP.out] at o4
    have O4 := Lib.hid o4
    have B4 := Lib.hid (B3.out.grown g4 B3.out.size (fun j hj => (O3.out.lt j hj).1))
    clear o4 g4 O3 B3 CP CPH PG
    obtain ⟨ps, hps⟩ : ∃ ps, ps = pgs zs := ⟨_, rfl⟩
    have PL : Hid (ps.length ≤ 999) := by
      show _ ≤ _
      rw [hps]
      unfold pgs
      exact Nat.le_trans (List.length_filter_le _ _) (by simp)
    have PZ : Hid (∀ n ∈ ps, 1 ≤ n ∧ n ≤ 999) := fun n hn => by
      rw [hps, pgs_mem] at hn
      exact ⟨hn.1, hn.2.1⟩
    have SV : Hid (spB (spFold ps) = decide ((spFold ps).length ≤ 10)) := by show _ = _; rw [hps]; exact spFold_valid zs
    rw [← hps] at O4 E1 E2
    clear hps HL
    go_wp2_with fail
    refine (runsOf_any V4 ps w4 (IRow.of_owns O4.out) (by have := PL.out; omega) PZ.out).mono ?_
    rintro e w5 ⟨V5, rfl, o5, b5⟩
    have RL := spFold_len _ ps rfl
    have PLo := PL.out
    obtain ⟨R, hR⟩ : ∃ R, R = spFold ps := ⟨_, rfl⟩
    rw [← hR] at o5 RL SV E1 E2
    have hR999 : R.length ≤ 999 := by omega
    have O5 := Lib.hid (o5.mono B4.out.size)
    have B5 := Lib.hid (below_next B4.out b5 (Nat.le_refl _))
    have SR := SRow.of_owns encSpan_len rfl o5
    clear o5 b5 hR RL PLo PZ PL O4 B4
    obtain ⟨n, hn⟩ : ∃ n, n = R.length := ⟨_, rfl⟩
    by_cases h0 : R.length = 0
    · obtain rfl : R = [] := List.eq_nil_of_length_eq_zero h0
      obtain ⟨ae, ce, rfl⟩ := SR.empty
      have S1 : Hid (soB zs = true) := by show _ = _; rw [E1.out]; rfl
      have S2 : Hid (soR zs = []) := by show _ = _; rw [E2.out, S1.out, if_pos rfl]
      clear SV E1 E2 SR O5 hn h0 hR999
      go_wp2
      refine wp_loop_rounds 1 ?_
      rw [rounds_succ]
      go_wp2_with fail
      have EN := Lib.hid (SRow.of_owns (n := 0) (xs := ([] : List DSpan)) encSpan_len rfl (World.ownsRow_nil w5 0 40 2))
      refine (implSpansValid_any _ [] w5 EN.out).mono ?_
      rintro e w7 ⟨rfl, b7⟩
      have B7 := Lib.hid (below_next B5.out b7 (Nat.le_refl _))
      rw [show spB [] = true from rfl]
      clear b7
      go_wp2
      go_ret2
      exact ⟨_, by rw [S1.out]; rfl, by rw [S2.out]; exact World.ownsRow_nil _ _ _ _, B7.out⟩
    · have hs5 : w.heap.size ≤ w5.heap.size := B5.out.size
      obtain ⟨b, off, cap, rfl, hbl, hc⟩ := SR.pos encSpan_pos (by omega)
      rw [← hn] at h0 hR999 SV E1 ⊢
      have HC := Lib.hid hc
      have HN := Lib.hid hn
      clear hc hn SR O5
      go_wp2
      go_loopw [5, 18] (fun o i wr => ∃ k : Nat, k ≤ n ∧ i = .int .i64 k ∧ Hid (wr.ownsRow w5.heap.size 40 2 o k ((R.take k).flatMap encSpan)) ∧ Hid (Below w5.heap.size w5 wr)) (fun _ i _ => n - (intOf i).toNat)
      case atStart => exact ⟨0, Nat.zero_le _, rfl, World.ownsRow_nil _ _ _ _, Below.refl _ _⟩
      case round =>
        obtain ⟨k, hk, rfl, ho, hb⟩ := hrel
        have hwr : w5.heap.size ≤ wr.heap.size := hb.out.size
        by_cases hlt : k < n
        · have hk' : k < R.length := by rw [← HN.out]; exact hlt
          have q := HC.out k hk'
          have TK : Hid (R.take (k + 1) = R.take k ++ [R[k]]) := List.take_succ_eq_append_getElem hk'
          obtain ⟨z, hx⟩ : ∃ x, x = R[k] := ⟨_, rfl⟩
          rw [← hx] at q TK
          obtain ⟨f, t⟩ := z
          have r : ∀ i u, (encSpan ⟨f, t⟩)[i]? = some u → wr.cell? ⟨b, off + k * 2 + i, none⟩ = some u := fun i u hu => (hb.out.cell (p := ⟨b, off + k * 2 + i, none⟩) hbl).trans (q i u hu)
          have c0 : wr.cell? ⟨b, off + k * 2, none⟩ = some (.int .i64 f) := by simpa using r 0 _ rfl
          have c1 : wr.cell? ⟨b, off + k * 2 + 1, none⟩ = some (.int .i64 t) := by simpa using r 1 _ rfl
          have hbr : b < wr.heap.size := by omega
          clear q r hx
          go_wp2_with (at_builtin; refine append_mine _ rfl _ _ 23 rfl w5.heap.size 40 i0 (.agg #[.int .i64 0, .int .i64 0]) 2 16 Try.underlying23 hi hz0 hz1 hz2 rfl (by decide) _ _ _ rfl ((ho.out.alloc _).alloc _) ⟨wr.heap.size + 1, 0, none⟩ 1 1 [.int .i64 f, .int .i64 t] rfl rfl (by simpa using cells_new (wr.alloc (.cells #[.int .i64 f, .int .i64 t] 46)) [_, _] _) (by intro u hu; simp at hu; rcases hu with rfl | rfl <;> rfl) (by unfold maxLen; omega) (by omega) (by simp; omega) ?_; intro v' w6 hown' hgrow hmv)
          have bf := ((hb.out.alloc hwr (.cells #[.int .i64 f, .int .i64 t] 46)).alloc (by simp; omega) (.cells #[.int .i64 f, .int .i64 t] 40)).grown hgrow (by simp; omega) (fun j hj => (ho.out.lt j hj).1)
          clear hmv c0 c1
          go_roundw
          case rel => exact ⟨k + 1, by omega, by go_num, by rw [TK.out, List.flatMap_append]; exact hown', bf⟩
          case measure => simp [intOf]; omega
        · obtain rfl : k = n := by omega
          have hT : R.take k = R := List.take_of_length_le (by rw [← HN.out]; exact Nat.le_refl _)
          rw [hT] at ho
          have OF := Lib.hid (ho.out.mono hs5)
          have BF := Lib.hid (below_next B5.out hb.out (Nat.le_refl _))
          have SRF := SRow.of_owns encSpan_len HN.out.symm ho.out
          have SB := SV.out
          have SRF := Lib.hid SRF
          clear hT ho hb HC
          go_wp2_with fail
          refine (implSpansValid_any _ R wr SRF.out).mono ?_
          rintro e w7 ⟨rfl, b7⟩
          have B7 := Lib.hid (below_next BF.out b7 (Nat.le_refl _))
          have OF7 := Lib.hid (owns_below OF.out b7)
          have hl10 : R.length ≤ 10 ∨ ¬ R.length ≤ 10 := Decidable.em _
          rcases hl10 with hl10 | hl10
          · have S1 : Hid (soB zs = true) := by show _ = _; rw [E1.out]; exact decide_eq_true (by first | exact hl10 | (have := HN.out; omega))
            have S2 : Hid (soR zs = R) := by show _ = _; rw [E2.out, S1.out, if_pos rfl]
            have S3 : Hid (spB R = true) := by show _ = _; rw [SV.out]; exact decide_eq_true (by first | exact hl10 | (have := HN.out; omega))
            rw [S3.out]
            clear SV E1 E2 S3 b7
            go_wp2
            go_ret2
            exact ⟨_, by rw [S1.out]; rfl, by rw [S2.out, ← HN.out]; exact OF7.out, B7.out⟩
          · have S1 : Hid (soB zs = false) := by show _ = _; rw [E1.out]; exact decide_eq_false (by first | exact hl10 | (have := HN.out; omega))
            have S2 : Hid (soR zs = []) := by show _ = _; rw [E2.out, S1.out, if_neg (by decide)]
            have S3 : Hid (spB R = false) := by show _ = _; rw [SV.out]; exact decide_eq_false (by first | exact hl10 | (have := HN.out; omega))
            rw [S3.out]
            clear SV E1 E2 S3 b7
            go_wp2
            go_ret2
            exact ⟨_, by rw [S1.out]; rfl, by rw [S2.out]; exact World.ownsRow_nil _ _ _ _, B7.out⟩
end Go.Proofs.Ytnlhlgefaamdgaa

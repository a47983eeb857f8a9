/-
  PROVED HERE: what SpansText of both sides returns. Conditions: each theorem's own.
-/
import Derived.Test.YtjkahdmmejmilaaDoorSpTxtP
import Derived.Test.YtjkahdmmejmilaaDoorMine
import Derived.Test.YtjkahdmmejmilaaDoorShelf
import Derived.Lib.AppendIntMem
import Derived.WalkSmall
import Derived.Deep.QuietTactic
import Derived.BigQuiet
set_option linter.unusedVariables false
set_option linter.unusedSimpArgs false
namespace Go.Proofs.YtjkahdmmejmilaaDoor
open Go.RowKit
set_option maxRecDepth 100000

theorem gPow : Tryd.prog.globalNamed "internal/strconv.uint64pow10" = some 3 := by kernel_rfl
/-- The library's table of powers. -/
def PwTab (w : World) : Prop := Lib.TabIs Tryd.prog w "internal/strconv.uint64pow10" .u64 Lib.pow10Tab
theorem PwTab.below {w w' : World} {B : Nat} (h : PwTab w) (hb : Below B w w') (hB : w.heap.size ≤ B) : PwTab w' :=
  var?_below hb gPow (Nat.lt_of_lt_of_le (World.block_lt_of_cell? w _ (Lib.TabIs.cell h gPow 0 (by decide))) hB) h
theorem itoaD (pg : Int) (h1 : 1 ≤ pg) (h2 : pg ≤ 999) (w : World) (htab : PwTab w) : Calls Tryd.prog 38 #[.int .i64 pg] w (RetT (Lib.decDigits pg.toNat) w) := by
  refine (Tryd.strconv_Itoa pg (by omega) (by omega) w htab).mono ?_
  rintro e w1 ⟨rfl, k, os, rfl⟩
  refine ⟨?_, Lib.below_grow _ _ (Nat.le_refl _) _ _⟩
  obtain ⟨N, rfl⟩ := Int.eq_ofNat_of_zero_le (show 0 ≤ pg by omega)
  rw [Lib.itoa_nonneg]
  rfl
theorem runText_any (x : DSpan) (h1 : 1 ≤ x.f0) (h2 : x.f0 ≤ x.f1) (h3 : x.f1 ≤ 999) (w : World) (ht : PwTab w) : Calls Tryd.prog 24 #[.int .i64 x.f0, .int .i64 x.f1] w (RetT (runT x) w) := by
  have TAB := Lib.hid ht
  have ea : Hid (runT x = if x.f0 = x.f1 then Lib.decDigits x.f0.toNat else Lib.decDigits x.f0.toNat ++ (45 :: Lib.decDigits x.f1.toNat)) := rfl
  obtain ⟨T, hT⟩ : ∃ T, T = runT x := ⟨_, rfl⟩
  obtain ⟨a, b⟩ := x
  simp only at h1 h2 h3 ea ⊢
  rw [← hT] at ea ⊢
  have I0 := Lib.hid (fun w h => itoaD a h1 (by omega) w h)
  have I1 := Lib.hid (fun w h => itoaD b (by omega) h3 w h)
  have la := decDigits_len a.toNat (by omega)
  have lb := decDigits_len b.toNat (by omega)
  obtain ⟨A, hA⟩ : ∃ A, A = Lib.decDigits a.toNat := ⟨_, rfl⟩
  obtain ⟨B, hB⟩ : ∃ B, B = Lib.decDigits b.toNat := ⟨_, rfl⟩
  rw [← hA] at I0 ea la
  rw [← hB] at I1 ea lb
  clear hT hA hB ht
  by_cases hab : a = b
  · have E : Hid (T = A) := by show _ = _; rw [ea.out, if_pos hab]
    subst hab
    clear ea
    go_enter Tryd.func24, Tryd.ntmps24
    go_wp2_with (go_at_call 38; refine (I0.out _ TAB.out).mono ?_)
    rintro e w1 ⟨rfl, b1⟩
    have B1 := Lib.hid b1
    clear b1
    go_wp2
    go_ret
    exact ⟨by rw [E.out]; rfl, B1.out⟩
  · have E : Hid (bs A ++ (⟨#[45]⟩ : ByteArray) ++ bs B = bs T) := by
      show _ = _
      rw [ea.out, if_neg hab, show (⟨#[45]⟩ : ByteArray) = bs [45] from rfl, bs_append, bs_append, List.append_assoc]
      rfl
    have c1 : ¬ 9223372036854775807 < A.length + 1 := by omega
    have c2 : ¬ 9223372036854775807 < A.length + 1 + B.length := by omega
    clear ea
    go_enter Tryd.func24, Tryd.ntmps24
    go_wp2_with (go_at_call 38; refine (I0.out _ TAB.out).mono ?_)
    rintro e w1 ⟨rfl, b1⟩
    have B1 := Lib.hid b1
    clear b1
    go_wp2_with (go_at_call 38; refine (I1.out _ (TAB.out.below B1.out (Nat.le_refl _))).mono ?_)
    rintro e w2 ⟨rfl, b2⟩
    have B2 := Lib.hid (below_next B1.out b2 (Nat.le_refl _))
    clear b2 B1
    go_wp2
    go_ret
    exact ⟨by rw [← E.out]; rfl, B2.out⟩

set_option maxHeartbeats 4000000 in
theorem specTxt_any (v : Value) (xs : List DSpan) (w : World) (h : SRow 2 encSpan w v xs) : Calls Tryd.prog 8 #[v] w (RetT (spTxt xs) w) := by
  have hlen := h.len
  have SV := Lib.hid (fun w h => specSpansValid_any v xs w h)
  have SR0 := Lib.hid h
  obtain ⟨a, cap, hv, _⟩ := h
  cases hval : spB xs
  · have et : spTxt xs = [] := by unfold spTxt; rw [hval]; rfl
    rw [hval] at SV
    rw [et]
    obtain ⟨n, hn⟩ : ∃ n, n = xs.length := ⟨_, rfl⟩
    rw [← hn] at hv hlen
    clear et hval hn
    by_cases h0 : n = 0
    · subst h0 hv
      go_enter Tryd.func8, Tryd.ntmps8
      go_wp2
      refine wp_loop_rounds 1 ?_
      rw [rounds_succ]
      go_wp2
      go_ret
      exact ⟨rfl, Below.refl _ _⟩
    · subst hv
      have hn0 : (0 : Int) < (n : Int) := by omega
      go_enter Tryd.func8, Tryd.ntmps8
      go_wp2
      refine wp_loop_rounds 1 ?_
      rw [rounds_succ]
      go_wp2_with (go_at_call 13; refine (SV.out _ SR0.out).mono ?_)
      rintro e w1 ⟨rfl, b1⟩
      have B1 := Lib.hid b1
      clear b1
      go_wp2
      go_ret
      exact ⟨rfl, B1.out⟩
  · obtain ⟨h10, hall⟩ := spB_all hval
    have et : Hid (spTxt xs = accT xs xs.length) := by show _ = _; unfold spTxt; rw [hval, if_pos rfl]
    rw [hval] at SV
    have AL := Lib.hid (accT_len xs hall)
    have HA := Lib.hid hall
    obtain ⟨T, hT⟩ : ∃ T, T = spTxt xs := ⟨_, rfl⟩
    rw [← hT] at et ⊢
    obtain ⟨n, hn⟩ : ∃ n, n = xs.length := ⟨_, rfl⟩
    rw [← hn] at hv hlen h10 et AL
    have HN := Lib.hid hn
    have HC : Hid (∀ k (hk : k < xs.length), ∃ b off, a = some ⟨b, off, none⟩ ∧ b < w.heap.size ∧ w.cell? ⟨b, off + k * 2, none⟩ = some (.int .i64 xs[k].f0) ∧ w.cell? ⟨b, off + k * 2 + 1, none⟩ = some (.int .i64 xs[k].f1)) := by
      intro k hk
      obtain ⟨b, off, cap', e, hbl, hc⟩ := SR0.out.pos encSpan_pos (by omega)
      have q := hc k hk
      rw [e] at hv
      have ea : a = some ⟨b, off, none⟩ := by cases hv; rfl
      exact ⟨b, off, ea, hbl, by simpa using q 0 _ rfl, q 1 _ rfl⟩
    subst hv
    clear hval hT hn hall
    go_enter Tryd.func8, Tryd.ntmps8
    go_wp2
    go_loopw [3, 4] (fun o kk wr => ∃ k : Nat, k ≤ n ∧ kk = .int .i64 k ∧ o = .string (bs (accT xs k)) ∧ Hid (Below w.heap.size w wr)) (fun _ kk _ => n - (intOf kk).toNat)
    case atStart => exact ⟨0, Nat.zero_le _, rfl, rfl, Below.refl _ _⟩
    case round =>
      obtain ⟨k, hk, rfl, rfl, hb⟩ := hrel
      by_cases hlt : k < n
      · have hk' : k < xs.length := by rw [← HN.out]; exact hlt
        obtain ⟨b, off, ea, hbl, d0, d1⟩ := HC.out k hk'
        obtain ⟨x1, x2, x3⟩ := HA.out _ (List.getElem_mem hk')
        have cellsAt : Hid (∀ wi, Below w.heap.size w wi → wi.cell? ⟨b, off + k * 2, none⟩ = some (.int .i64 xs[k].f0) ∧ wi.cell? ⟨b, off + k * 2 + 1, none⟩ = some (.int .i64 xs[k].f1)) := fun wi hbi => ⟨(hbi.cell (p := ⟨b, off + k * 2, none⟩) hbl).trans d0, (hbi.cell (p := ⟨b, off + k * 2 + 1, none⟩) hbl).trans d1⟩
        have hal := AL.out k hk
        have hstep : Hid (accT xs (k + 1) = (if k = 0 then [] else accT xs k ++ [44]) ++ runT xs[k]) := by
          show _ = _
          by_cases h0 : k = 0
          · subst h0
            rw [if_pos rfl]
            exact accT_one xs hk'
          · rw [if_neg h0, accT_succ xs k (by omega) hk', List.append_assoc]
            rfl
        have hak0 : Hid (k = 0 → accT xs k = []) := fun e => by rw [e]; rfl
        have hrt : Hid (runT xs[k] = if xs[k].f0 = xs[k].f1 then Lib.decDigits xs[k].f0.toNat else Lib.decDigits xs[k].f0.toNat ++ (45 :: Lib.decDigits xs[k].f1.toNat)) := rfl
        obtain ⟨N1, hN1⟩ : ∃ N1, N1 = accT xs (k + 1) := ⟨_, rfl⟩
        obtain ⟨R, hR⟩ : ∃ R, R = runT xs[k] := ⟨_, rfl⟩
        rw [← hN1, ← hR] at hstep
        rw [← hR] at hrt
        obtain ⟨A, hA⟩ : ∃ A, A = accT xs k := ⟨_, rfl⟩
        rw [← hA] at hstep hak0 hal ⊢
        have HN1 := Lib.hid hN1
        obtain ⟨y, z, hyz⟩ : ∃ y z, xs[k].f0 = y ∧ xs[k].f1 = z := ⟨_, _, rfl, rfl⟩
        obtain ⟨hy, hz⟩ := hyz
        rw [hy, hz] at cellsAt hrt
        rw [hy] at x1 x2
        rw [hz] at x2 x3
        have I0 := Lib.hid (fun w => numI y x1 (by omega) w)
        have I1 := Lib.hid (fun w => numI z (by omega) x3 w)
        have ly := decDigits_len y.toNat (by omega)
        have lz := decDigits_len z.toNat (by omega)
        obtain ⟨Y, hY⟩ : ∃ Y, Y = Lib.decDigits y.toNat := ⟨_, rfl⟩
        obtain ⟨Z, hZ⟩ : ∃ Z, Z = Lib.decDigits z.toNat := ⟨_, rfl⟩
        rw [← hY] at I0 hrt ly
        rw [← hZ] at I1 hrt lz
        have SRW := Lib.hid (SR0.out.below hb.out)
        clear hY hZ hA hN1 hR hy hz d0 d1
        subst ea
        by_cases hk0 : k = 0
        · subst hk0
          have cellsAt0 : Hid (∀ wi, Below w.heap.size w wi → wi.cell? ⟨b, off, none⟩ = some (.int .i64 y) ∧ wi.cell? ⟨b, off + 1, none⟩ = some (.int .i64 z)) := fun wi hbi => by simpa using cellsAt.out wi hbi
          clear cellsAt
          have cellsAt := cellsAt0
          clear cellsAt0
          by_cases hyz : y = z
          · have e2 : Hid (bs A ++ bs Y = bs N1) := by
              show _ = _
              rw [hstep.out, if_pos rfl, hrt.out, if_pos hyz, hak0.out rfl]
              simp only [bs_append, List.append_assoc, List.nil_append, List.cons_append]
            have c1 : ¬ 9223372036854775807 < A.length + 1 := by omega
            have c2 : ¬ 9223372036854775807 < A.length + Y.length := by omega
            have c3 : ¬ 9223372036854775807 < A.length + Y.length + 1 := by omega
            have c4 : ¬ 9223372036854775807 < A.length + Y.length + 1 + Z.length := by omega
            have dz : decide (y < z) = false := decide_eq_false (by omega)
            clear hstep hrt hak0 hyz
            go_wp2_with (go_at_call 13; refine (SV.out _ SRW.out).mono ?_)
            rintro e w5 ⟨rfl, b5⟩
            have B5 := Lib.hid (below_next hb.out b5 (Nat.le_refl _))
            obtain ⟨d0, d1⟩ := cellsAt.out w5 B5.out
            clear b5
            go_wp2_with (go_at_call 21; refine (I0.out _).mono ?_)
            rintro e w6 ⟨rfl, b6⟩
            have B6 := Lib.hid (below_next B5.out b6 (Nat.le_refl _))
            obtain ⟨f0, f1⟩ := cellsAt.out w6 B6.out
            clear b6 d0 d1
            go_wp2_with fail
            go_quiet (fail)
            go_wp2
            exact ⟨⟨0 + 1, by omega, by go_num, by rw [e2.out, HN1.out], below_drewN B6.out _⟩, by simp [intOf]; omega⟩
          · have e2 : Hid (bs A ++ bs Y ++ (⟨#[45]⟩ : ByteArray) ++ bs Z = bs N1) := by
              show _ = _
              rw [hstep.out, if_pos rfl, hrt.out, if_neg hyz, hak0.out rfl, show (⟨#[45]⟩ : ByteArray) = bs [45] from rfl]
              simp only [bs_append, List.append_assoc, List.nil_append, List.cons_append]
            have c1 : ¬ 9223372036854775807 < A.length + 1 := by omega
            have c2 : ¬ 9223372036854775807 < A.length + Y.length := by omega
            have c3 : ¬ 9223372036854775807 < A.length + Y.length + 1 := by omega
            have c4 : ¬ 9223372036854775807 < A.length + Y.length + 1 + Z.length := by omega
            have dz : decide (y < z) = true := decide_eq_true (by omega)
            clear hstep hrt hak0 hyz
            go_wp2_with (go_at_call 13; refine (SV.out _ SRW.out).mono ?_)
            rintro e w5 ⟨rfl, b5⟩
            have B5 := Lib.hid (below_next hb.out b5 (Nat.le_refl _))
            obtain ⟨d0, d1⟩ := cellsAt.out w5 B5.out
            clear b5
            go_wp2_with (go_at_call 21; refine (I0.out _).mono ?_)
            rintro e w6 ⟨rfl, b6⟩
            have B6 := Lib.hid (below_next B5.out b6 (Nat.le_refl _))
            obtain ⟨f0, f1⟩ := cellsAt.out w6 B6.out
            clear b6 d0 d1
            go_wp2_with fail
            go_quiet (fail)
            go_wp2_with (go_at_call 21; refine (I1.out _).mono ?_)
            rintro e w7 ⟨rfl, b7⟩
            have B7 := Lib.hid (below_next (below_drewN B6.out _) b7 (Nat.le_refl _))
            clear b7
            go_wp2
            exact ⟨⟨0 + 1, by omega, by go_num, by rw [e2.out, HN1.out], B7.out⟩, by simp [intOf]; omega⟩
        · by_cases hyz : y = z
          · have e2 : Hid (bs A ++ (⟨#[44]⟩ : ByteArray) ++ bs Y = bs N1) := by
              show _ = _
              rw [hstep.out, if_neg hk0, hrt.out, if_pos hyz, show (⟨#[44]⟩ : ByteArray) = bs [44] from rfl]
              simp only [bs_append, List.append_assoc, List.nil_append, List.cons_append]
            have c1 : ¬ 9223372036854775807 < A.length + 1 := by omega
            have c2 : ¬ 9223372036854775807 < A.length + 1 + Y.length := by omega
            have c3 : ¬ 9223372036854775807 < A.length + 1 + Y.length + 1 := by omega
            have c4 : ¬ 9223372036854775807 < A.length + 1 + Y.length + 1 + Z.length := by omega
            have kz : (0 : Int) < (k : Int) := by omega
            have dz : decide (y < z) = false := decide_eq_false (by omega)
            clear hstep hrt hak0 hyz
            go_wp2_with (go_at_call 13; refine (SV.out _ SRW.out).mono ?_)
            rintro e w5 ⟨rfl, b5⟩
            have B5 := Lib.hid (below_next hb.out b5 (Nat.le_refl _))
            obtain ⟨d0, d1⟩ := cellsAt.out w5 B5.out
            clear b5
            go_wp2_with (go_at_call 21; refine (I0.out _).mono ?_)
            rintro e w6 ⟨rfl, b6⟩
            have B6 := Lib.hid (below_next B5.out b6 (Nat.le_refl _))
            obtain ⟨f0, f1⟩ := cellsAt.out w6 B6.out
            clear b6 d0 d1
            go_wp2_with fail
            go_quiet (fail)
            go_wp2
            exact ⟨⟨k + 1, by omega, by go_num, by rw [e2.out, HN1.out], below_drewN B6.out _⟩, by simp [intOf]; omega⟩
          · have e2 : Hid (bs A ++ (⟨#[44]⟩ : ByteArray) ++ bs Y ++ (⟨#[45]⟩ : ByteArray) ++ bs Z = bs N1) := by
              show _ = _
              rw [hstep.out, if_neg hk0, hrt.out, if_neg hyz, show (⟨#[44]⟩ : ByteArray) = bs [44] from rfl, show (⟨#[45]⟩ : ByteArray) = bs [45] from rfl]
              simp only [bs_append, List.append_assoc, List.nil_append, List.cons_append]
            have c1 : ¬ 9223372036854775807 < A.length + 1 := by omega
            have c2 : ¬ 9223372036854775807 < A.length + 1 + Y.length := by omega
            have c3 : ¬ 9223372036854775807 < A.length + 1 + Y.length + 1 := by omega
            have c4 : ¬ 9223372036854775807 < A.length + 1 + Y.length + 1 + Z.length := by omega
            have kz : (0 : Int) < (k : Int) := by omega
            have dz : decide (y < z) = true := decide_eq_true (by omega)
            clear hstep hrt hak0 hyz
            go_wp2_with (go_at_call 13; refine (SV.out _ SRW.out).mono ?_)
            rintro e w5 ⟨rfl, b5⟩
            have B5 := Lib.hid (below_next hb.out b5 (Nat.le_refl _))
            obtain ⟨d0, d1⟩ := cellsAt.out w5 B5.out
            clear b5
            go_wp2_with (go_at_call 21; refine (I0.out _).mono ?_)
            rintro e w6 ⟨rfl, b6⟩
            have B6 := Lib.hid (below_next B5.out b6 (Nat.le_refl _))
            obtain ⟨f0, f1⟩ := cellsAt.out w6 B6.out
            clear b6 d0 d1
            go_wp2_with fail
            go_quiet (fail)
            go_wp2_with (go_at_call 21; refine (I1.out _).mono ?_)
            rintro e w7 ⟨rfl, b7⟩
            have B7 := Lib.hid (below_next (below_drewN B6.out _) b7 (Nat.le_refl _))
            clear b7
            go_wp2
            exact ⟨⟨k + 1, by omega, by go_num, by rw [e2.out, HN1.out], B7.out⟩, by simp [intOf]; omega⟩
      · obtain rfl : k = n := by omega
        have E : Hid (accT xs k = T) := by show _ = _; rw [et.out]
        have SRW := Lib.hid (SR0.out.below hb.out)
        go_wp2
        go_ret
        exact ⟨by rw [← E.out]; rfl, hb.out⟩
end Go.Proofs.YtjkahdmmejmilaaDoor

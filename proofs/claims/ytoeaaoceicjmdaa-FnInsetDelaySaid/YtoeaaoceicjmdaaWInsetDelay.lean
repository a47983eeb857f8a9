/-
  PROVED HERE: what the text of the law FnInsetDelay does: it returns true and turns nothing that was there. Conditions: the walk's own.
-/
import Derived.Test.YtoeaaoceicjmdaaDrawPl
import Derived.Test.YtoeaaoceicjmdaaPlaceL3
namespace Go.Proofs.Ytoeaaoceicjmdaa
open Go.RowKit

theorem sum_bd : ∀ (xs : List DInset), (∀ x ∈ xs, 1 ≤ x.f0 ∧ x.f0 ≤ 1000) → 0 ≤ (xs.map (·.f0)).sum ∧ (xs.map (·.f0)).sum ≤ 1000 * xs.length
  | [], _ => by simp
  | x :: t, h => by
    have := sum_bd t (fun y hy => h y (List.mem_cons_of_mem _ hy))
    have := h x List.mem_cons_self
    rw [List.map_cons, List.sum_cons, List.length_cons]
    omega

set_option maxHeartbeats 8000000 in
theorem fnInsetDelay_walk (a : Option Addr) (n cap : Nat) (w : World) (h : Code8 w a n cap) : Calls Try.prog 9 #[.slice a n cap] w (Ret (.bool true) w) := by
  have hn : n ≤ 9223372036854775807 := by have := h.2.1; unfold maxLen at this; omega
  by_cases hbig : 1048576 < n
  · go_enter Try.func9, Try.ntmps9
    go_wp2
    go_ret
    exact ⟨rfl, Below.refl _ _⟩
  · have H := Lib.hid h
    clear h
    obtain ⟨i0, hi, hz0, hz1, hz2⟩ := info_parts info_int
    go_enter Try.func9, Try.ntmps9
    go_wp2_with fail
    refine (drawInsetDelay_any a n cap w H.out).mono ?_
    rintro e w1 ⟨xs, rs, v, u, hxl, hrl, rfl, ov, ou, b1⟩
    have hs1 : SRow 2 encInset w1 v xs := SRow.of_owns encInset_len rfl ov
    have hi1 : IRow w1 u rs := IRow.of_owns ou
    have hnil : NilOk u := NilOk.of_owns ou
    obtain ⟨d, hd⟩ : ∃ d, d = delayOf xs rs := ⟨_, rfl⟩
    have hdb : -1 ≤ d := by rw [hd]; exact delay_bd xs rs
    have S1 := fun w (h : SRow 2 encInset w v xs) (hr : IRow w u rs) => (hd ▸ implDelay_any v u xs rs w h hr : Calls Try.prog 27 #[v, u] w (Ret (.int .i64 d) w))
    have S2 := fun w (h : SRow 2 encInset w v xs) (hr : IRow w u rs) => (hd ▸ specDelay_any v u xs rs w h hr hnil (by omega) : Calls Try.prog 26 #[v, u] w (Ret (.int .i64 d) w))
    have C1 := Lib.hid S1
    have C2 := Lib.hid S2
    have HD := Lib.hid hd
    clear S1 S2 hd
    go_wp2_with fail
    refine (C1.out w1 hs1 hi1).mono ?_
    rintro e w2 ⟨rfl, b2⟩
    go_wp2_with fail
    refine (C2.out w2 (hs1.below b2) (hi1.below b2)).mono ?_
    rintro e w3 ⟨rfl, b3⟩
    have hs3 := (hs1.below b2).below b3
    go_wp2_with fail
    refine (implInsetsValid_any v xs w3 hs3).mono ?_
    rintro e w4 ⟨rfl, b4⟩
    have hs4 := hs3.below b4
    have B4 := Lib.hid (below_next (below_next (below_next b1 b2 (Nat.le_refl _)) b3 (Nat.le_refl _)) b4 (Nat.le_refl _))
    have hws : w.heap.size ≤ w4.heap.size := B4.out.size
    clear C1 C2 ov ou hs1 hi1 hnil b1 b2 b3 b4 H hs3
    cases hv : insB xs
    · have hd0 : d = -1 := by
        rw [HD.out]
        have hp := (place_none (rs := rs) (fun h => by rw [hv] at h; exact absurd h.1 (by decide) : ¬ (insB xs = true ∧ roomsB rs = true))).2
        unfold delayOf
        rw [hp]
        rfl
      subst hd0
      clear hs4 hv
      go_wp2_with fail
      refine (alive_any _).mono ?_
      rintro e w5 ⟨rfl, b5⟩
      have B5 := Lib.hid (below_next B4.out b5 (Nat.le_refl _))
      clear b5
      go_wp2
      go_ret
      exact ⟨rfl, B5.out⟩
    · have HV := Lib.hid hv
      have HS4 := Lib.hid hs4
      have O1 := Lib.hid (World.ownsRow_made (base := w4.heap.size) (e := 3) (size := 1) w4 #[] 0 (Nat.le_refl _) (Nat.zero_le _) rfl)
      clear hs4 hv
      go_wp2
      go_loopw [6, 8] (fun vw i wr => ∃ k : Nat, k ≤ 20 ∧ i = .int .i64 k ∧ Hid (wr.ownsRow w4.heap.size 3 1 vw k ((List.replicate k (1000 : Int)).map (Value.int .i64))) ∧ Hid (Below w4.heap.size w4 wr)) (fun _ i _ => 20 - (intOf i).toNat)
      case atStart => exact ⟨0, by omega, rfl, O1.out, (Below.refl _ _).alloc (Nat.le_refl _) _⟩
      case round =>
        obtain ⟨k, hk, rfl, ho, hb⟩ := hrel
        have hsr := hb.out.size
        by_cases hlt : k < 20
        · go_wp2_with (at_builtin; refine wpList_append_own _ rfl _ _ 35 rfl w4.heap.size 3 i0 (.int .i64 0) 1 8 Try.underlying35 hi hz0 hz1 hz2 rfl (by decide) _ _ _ rfl (ho.out.alloc _) ⟨wr.heap.size, 0, none⟩ 1 1 [.int .i64 1000] rfl rfl (by simpa using cells_new wr [_] _) (by intro u hu; simp at hu; subst hu; rfl) (by unfold maxLen; omega) (by omega) (by simp; omega) ?_; intro v' w5 hown' hgrow _)
          have bf := (hb.out.alloc hsr (.cells #[.int .i64 1000] 3)).grown hgrow (by simp; omega) (fun j hj => (ho.out.lt j hj).1)
          go_roundw
          case rel => exact ⟨k + 1, by omega, by go_num, by show World.ownsRow _ _ _ _ _ _ _; rw [List.replicate_succ', List.map_append]; exact hown', bf⟩
          case measure => simp [intOf]; omega
        · obtain rfl : k = 20 := by omega
          have iw : IRow wr u6 (List.replicate 20 1000) := IRow.of_owns (n := 20) ho.out
          have IW := Lib.hid iw
          have HSR := Lib.hid (HS4.out.below hb.out)
          have BR := Lib.hid (below_next B4.out hb.out (Nat.le_refl _))
          clear iw ho hb HS4 O1
          obtain ⟨hx20, hxb⟩ := insB_true HV.out
          by_cases h0 : xs.length = 0
          · obtain rfl : xs = [] := List.eq_nil_of_length_eq_zero h0
            obtain ⟨va, vc, rfl⟩ := HSR.out.empty
            have F := Lib.hid (full_law HV.out (by simp) : delayOf [] (List.replicate 20 1000) = 0)
            clear h0 hx20 hxb HD
            go_wp2
            refine wp_loop_rounds 1 ?_
            rw [rounds_succ]
            go_wp2_with fail
            refine (implDelay_any _ _ [] _ _ HSR.out IW.out).mono ?_
            rintro e w6 ⟨rfl, b6⟩
            rw [F.out]
            have B6 := Lib.hid (below_next BR.out b6 (Nat.le_refl _))
            clear b6
            go_wp2
            go_ret
            exact ⟨rfl, B6.out⟩
          · obtain ⟨b, off, vc, rfl, hbl, hc⟩ := HSR.out.pos encInset_pos (by omega)
            obtain ⟨m, hm⟩ : ∃ m, m = xs.length := ⟨_, rfl⟩
            have HC := Lib.hid hc
            have HXB := Lib.hid hxb
            rw [← hm] at HSR hx20 h0 ⊢
            have HM := Lib.hid hm
            clear hm hc hxb
            go_wp2
            go_loop [7, 9] (fun sm i => ∃ (j : Nat) (s : Int), j ≤ m ∧ i = .int .i64 j ∧ sm = .int .i64 s ∧ 0 ≤ s ∧ s ≤ 1000 * j ∧ Hid ((xs.map (·.f0)).sum = s + ((xs.drop j).map (·.f0)).sum)) (fun _ i => m - (intOf i).toNat)
            case atStart => exact ⟨0, 0, Nat.zero_le _, rfl, rfl, by omega, by omega, by show _ = _; simp⟩
            case round =>
              obtain ⟨j, s, hj, rfl, rfl, hs0, hs1, hsum⟩ := hrel
              by_cases hlj : j < m
              · have hj' : j < xs.length := by rw [← HM.out]; exact hlj
                have c := HC.out j hj' 0 _ rfl
                have hd : xs.drop j = xs[j] :: xs.drop (j + 1) := List.drop_eq_getElem_cons hj'
                obtain ⟨z1, z2, _, _⟩ := HXB.out xs[j] (List.getElem_mem hj')
                have s2 := hsum.out
                rw [hd, List.map_cons, List.sum_cons] at s2
                obtain ⟨z, hz⟩ : ∃ z, z = xs[j] := ⟨_, rfl⟩
                rw [← hz] at c z1 z2 s2
                obtain ⟨h0', f1⟩ := z
                simp only at z1 z2 s2
                have c0 : wr.cell? ⟨b, off + j * 2, none⟩ = some (.int .i64 h0') := by simpa using c
                have S2 : Hid ((xs.map (·.f0)).sum = s + h0' + ((xs.drop (j + 1)).map (·.f0)).sum) := by show _ = _; rw [s2]; omega
                clear c hd s2 hz hsum
                go_wp2
                go_round
                case rel => exact ⟨j + 1, _, by omega, by go_num, rfl, by omega, by omega, S2.out⟩
                case measure => simp [intOf]; omega
              · have e : (xs.map (·.f0)).sum = s := by rw [hsum.out, List.drop_of_length_le (by have := HM.out; omega)]; simp
                have E := Lib.hid e
                clear e hsum HC
                by_cases hbg : 1000 < s
                · go_wp2
                  go_ret
                  exact ⟨rfl, BR.out⟩
                · have F := Lib.hid (full_law HV.out (by rw [E.out]; omega))
                  go_wp2_with fail
                  refine (implDelay_any _ _ xs _ _ HSR.out IW.out).mono ?_
                  rintro e w6 ⟨rfl, b6⟩
                  rw [F.out]
                  have B6 := Lib.hid (below_next BR.out b6 (Nat.le_refl _))
                  clear b6
                  go_wp2
                  go_ret
                  exact ⟨rfl, B6.out⟩
end Go.Proofs.Ytoeaaoceicjmdaa

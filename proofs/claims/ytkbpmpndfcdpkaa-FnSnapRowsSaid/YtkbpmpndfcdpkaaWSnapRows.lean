/-
  PROVED HERE: what the text of the law FnSnapRows does: it returns true and turns nothing that was there. Conditions: the walk's own.
-/
import Derived.Test.YtkbpmpndfcdpkaaDrawSnapR
import Derived.Test.YtkbpmpndfcdpkaaSnapA
import Derived.Test.YtkbpmpndfcdpkaaRows3
namespace Go.Proofs.Ytkbpmpndfcdpkaa
open Go.RowKit

theorem snapTops_get (s : Int) : ∀ (l : List Int) (a : Int) (j : Nat), j < l.length → (snapTops s a l).getD j 0 = snapI (snapBot s a (l.take j)) s
  | [], _, _, h => by simp at h
  | h :: t, a, 0, _ => rfl
  | h :: t, a, j + 1, hj => by
    rw [snapTops, List.getD_cons_succ, List.take_succ_cons, snapBot]
    exact snapTops_get s t _ j (by simpa using hj)

set_option maxHeartbeats 4000000 in
theorem fnSnapRows_walk (a : Option Addr) (n cap : Nat) (w : World) (h : Code8 w a n cap) : Calls Try.prog 6 #[.slice a n cap] w (Ret (.bool true) w) := by
  have hn : n ≤ 9223372036854775807 := by have := h.2.1; unfold maxLen at this; omega
  by_cases hbig : 1048576 < n
  · go_enter Try.func6, Try.ntmps6
    go_wp2
    go_ret
    exact ⟨rfl, Below.refl _ _⟩
  · have H := Lib.hid h
    clear h
    go_enter Try.func6, Try.ntmps6
    go_wp2_with fail
    refine (drawSnapRows_any a n cap w H.out).mono ?_
    rintro e w1 ⟨xs, v, l, h1, h2, h3, rfl, ho, hb⟩
    have hs : SRow 4 encRow w1 v xs := SRow.of_owns encRow_len rfl ho
    obtain ⟨a2, cap2, rfl⟩ : ∃ a2 cap2, v = .slice a2 xs.length cap2 := by
      rcases ho.2 with ⟨e, q⟩ | ⟨g, cap, _, e, _⟩
      · subst e; exact ⟨_, _, by rw [q]⟩
      · exact ⟨_, _, e⟩
    clear ho
    have HS := Lib.hid hs
    have HB := Lib.hid hb
    clear hs hb
    obtain ⟨k, hk⟩ : ∃ k, k = snapB l xs := ⟨_, rfl⟩
    obtain ⟨ys, hys⟩ : ∃ ys, ys = snapXs l xs := ⟨_, rfl⟩
    obtain ⟨m, hm⟩ : ∃ m, m = xs.length := ⟨_, rfl⟩
    have HK := Lib.hid hk
    have HY := Lib.hid hys
    have HM := Lib.hid hm
    have CI := fun w h => implSnapRows_any (.slice a2 xs.length cap2) xs l w h
    have CS := fun w h => specSnapRows_any (.slice a2 xs.length cap2) xs l w h
    rw [← hk, ← hys, ← hm] at CI CS
    have C1 := Lib.hid CI
    have C2 := Lib.hid CS
    have hs1 := HS.out
    rw [← hm] at h1 hs1 ⊢
    have HS1 := Lib.hid hs1
    clear hk hys hm CI CS hs1 HS
    go_wp2_with fail
    refine (C1.out w1 HS1.out).mono ?_
    rintro e w2 ⟨v1, rfl, o1, b2⟩
    have hs2 := HS1.out.below b2
    have hb2 := below_next HB.out b2 (Nat.le_refl _)
    have i1 := IRow.of_owns o1
    have HS2 := Lib.hid hs2
    have HB2 := Lib.hid hb2
    have I1 := Lib.hid i1
    clear hs2 hb2 b2 i1 o1 HS1 HB C1
    go_wp2_with fail
    refine (C2.out w2 HS2.out).mono ?_
    rintro e w3 ⟨v2, rfl, o2, b3⟩
    have hs3 := HS2.out.below b3
    have hb3 := below_next HB2.out b3 (Nat.le_refl _)
    have i1 := I1.out.below b3
    have i2 := IRow.of_owns o2
    have HS := Lib.hid hs3
    have HB := Lib.hid hb3
    have I2 := Lib.hid i1
    have I3 := Lib.hid i2
    clear hs3 hb3 b3 i1 i2 o2 HS2 HB2 C2 I1
    go_wp2_with fail
    refine (sameInts_any _ _ ys _ I2.out I3.out).mono ?_
    rintro e w' ⟨rfl, b4⟩
    have hs3 := HS.out.below b4
    have hb3 := below_next HB.out b4 (Nat.le_refl _)
    have i1 := I2.out.below b4
    have HS := Lib.hid hs3
    have HB := Lib.hid hb3
    have I2 := Lib.hid i1
    clear hs3 hb3 b4 i1
    by_cases hok : (rowsB xs && inB l 1 1000) = true
    · have e1 : k = snapBot l 0 (xs.map (·.f0)) := by rw [HK.out, snapB, if_pos hok]
      have e2 : ys = snapTops l 0 (xs.map (·.f0)) := by rw [HY.out, snapXs, if_pos hok]
      rw [Bool.and_eq_true] at hok
      obtain ⟨c1, c2⟩ := inB_true hok.2
      have r := rowsB_true hok.1
      have rz : ∀ z ∈ xs.map (·.f0), 1 ≤ z ∧ z ≤ 1000 := by
        intro z hz
        obtain ⟨y, hy, rfl⟩ := List.mem_map.1 hz
        exact r.1 y hy
      have rl := r.2
      have kb := snapBot_bd l _ c1 c2 rz
      rw [← e1, List.length_map] at kb
      have hyl : ys.length = m := by rw [e2, snapTops_len, List.length_map, HM.out]
      obtain ⟨kb1, kb2⟩ := kb
      have E1 := Lib.hid e1
      have E2 := Lib.hid e2
      have RZ := Lib.hid rz
      rw [← HM.out] at rl kb2
      clear e1 e2 hok r rz HK HY
      by_cases hm0 : m = 0
      · obtain rfl : ys = [] := List.eq_nil_of_length_eq_zero (by omega)
        obtain rfl : xs = [] := List.eq_nil_of_length_eq_zero (by rw [← HM.out]; exact hm0)
        obtain rfl : k = 0 := by rw [E1.out]; rfl
        subst hm0
        obtain ⟨a1, cap1, rfl⟩ := I2.out.empty
        clear E1 E2 RZ hyl HM
        go_wp2_with fail
        refine wp_loop_rounds 1 ?_
        rw [rounds_succ]
        go_wp2
        go_ret
        exact ⟨rfl, HB.out⟩
      · obtain ⟨b1, o1, cap1, rfl, hc1⟩ := I2.out.pos (by omega)
        obtain ⟨b, off, cap3, e, hbl, hc⟩ := HS.out.pos encRow_pos (by rw [← HM.out]; omega)
        simp at e
        obtain ⟨rfl, _, rfl⟩ := e
        have HC := Lib.hid hc
        have HC1 := Lib.hid hc1
        have HYL := Lib.hid hyl
        clear hc hc1 HS I2 I3
        rw [hyl]
        clear hyl
        go_wp2_with fail
        obtain ⟨w5, hw5⟩ : ∃ w5, w5 = w' := ⟨_, rfl⟩
        rw [← hw5] at HB HC HC1 ⊢
        clear hw5
        go_loopw [9, 10] (fun t i wr => ∃ j : Nat, j ≤ m ∧ i = .int .i64 j ∧ t = .int .i64 (snapBot l 0 ((xs.map (·.f0)).take j)) ∧ Hid (Below w5.heap.size w5 wr)) (fun _ i _ => m - (intOf i).toNat)
        case atStart => exact ⟨0, Nat.zero_le _, rfl, rfl, Below.refl _ _⟩
        case round =>
          obtain ⟨j, hj, rfl, rfl, hbw⟩ := hrel
          by_cases hlt : j < m
          · have hj1 : j < xs.length := by rw [← HM.out]; exact hlt
            have q := HC1.out j (by rw [HYL.out]; exact hlt)
            rw [E2.out, snapTops_get l _ 0 j (by simpa using hj1)] at q
            have q2 := HC.out j hj1 0 _ rfl
            have tk : (xs.map (·.f0)).take (j + 1) = (xs.map (·.f0)).take j ++ [xs[j].f0] := by
              rw [List.take_succ_eq_append_getElem (by simpa using hj1)]; simp
            have sn := snapBot_snoc l ((xs.map (·.f0)).take j) 0 xs[j].f0
            rw [← tk] at sn
            have rz := RZ.out xs[j].f0 (List.mem_map.2 ⟨xs[j], List.getElem_mem hj1, rfl⟩)
            obtain ⟨hgt, hhgt⟩ : ∃ z, z = xs[j].f0 := ⟨_, rfl⟩
            rw [← hhgt] at q2 sn rz
            have bd := snapBot_bd l ((xs.map (·.f0)).take j) c1 c2 (fun z hz => RZ.out z (List.mem_of_mem_take hz))
            have tl : ((xs.map (·.f0)).take j).length ≤ 40 := by simp; omega
            obtain ⟨A, hA⟩ : ∃ A, A = snapBot l 0 ((xs.map (·.f0)).take j) := ⟨_, rfl⟩
            rw [← hA] at q sn bd ⊢
            have sb := snapI_bd A l c1
            have sm := snapI_mod A l
            obtain ⟨T, hT⟩ : ∃ T, T = snapI A l := ⟨_, rfl⟩
            rw [← hT] at q sn sb sm
            obtain ⟨bd1, bd2⟩ := bd
            obtain ⟨sb1, sb2⟩ := sb
            obtain ⟨rz1, rz2⟩ := rz
            have A2 : A ≤ 80000 := by omega
            have cT : wr.cell? ⟨b1, o1 + j, none⟩ = some (.int .i64 T) := (hbw.out.cell (p := ⟨b1, o1 + j, none⟩) (World.block_lt_of_cell? w5 _ q)).trans q
            have q3 : w5.cell? ⟨b, off + j * 4, none⟩ = some (.int .i64 hgt) := by simpa using q2
            have cH : wr.cell? ⟨b, off + j * 4, none⟩ = some (.int .i64 hgt) := (hbw.out.cell (p := ⟨b, off + j * 4, none⟩) (World.block_lt_of_cell? w5 _ q3)).trans q3
            have z1 : decide (T < A) = false := decide_eq_false (by omega)
            have z2 : decide (A + l ≤ T) = false := decide_eq_false (by omega)
            have SN := Lib.hid sn
            clear tk hhgt hA hT q q2 q3 sn tl bd2
            go_wp2_with fail
            go_quiet (fail)
            go_wp2
            go_roundw
            case rel => exact ⟨j + 1, by omega, by go_num, by rw [SN.out], below_drewN hbw.out _⟩
            case measure => simp [intOf]; omega
          · obtain rfl : j = m := by omega
            have ee : snapBot l 0 ((xs.map (·.f0)).take j) = k := by
              rw [E1.out, List.take_of_length_le (by simp; have := HM.out; omega)]
            rw [ee]
            clear ee E1 E2 RZ HC HC1
            go_wp2
            go_ret
            exact ⟨rfl, below_next HB.out hbw.out (Nat.le_refl _)⟩
    · have e1 : k = -1 := by rw [HK.out, snapB, if_neg hok]
      have e2 : ys = [] := by rw [HY.out, snapXs, if_neg hok]
      subst e1 e2
      obtain ⟨a1, cap1, rfl⟩ := I2.out.empty
      clear HK HY hok
      go_wp2_with (go_at_call 12; refine (alive_any _).mono ?_; rintro e w5 ⟨rfl, b5⟩)
      go_ret
      exact ⟨rfl, below_next HB.out (by assumption) (Nat.le_refl _)⟩
end Go.Proofs.Ytkbpmpndfcdpkaa

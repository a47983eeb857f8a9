/-
  PROVED HERE: what the text of the law FnPageText does: it returns true and turns nothing that was there. Conditions: the walk's own.
-/
import Derived.Test.YtgdiciaddhbogaaDoorPage
import Derived.Test.YtgdiciaddhbogaaDoorDrawPage
import Derived.Test.YtgdiciaddhbogaaDoorRdP
namespace Go.Proofs.YtgdiciaddhbogaaDoor
open Go.RowKit

theorem pageT_in {n st : Int} (h : pageT n st ≠ []) : 1 ≤ n ∧ n ≤ 999 ∧ (st = 1 ∨ st = 2 ∨ st = 3) := by
  cases hin : inB n 1 999
  · unfold pageT at h
    rw [hin] at h
    exact absurd rfl h
  · obtain ⟨n1, n2⟩ := inB_true hin
    refine ⟨n1, n2, Classical.byContradiction fun hc => ?_⟩
    unfold pageT at h
    rw [if_pos hin, if_neg (by omega), if_neg (by omega), if_neg (by omega)] at h
    exact h rfl
theorem pageT_rom {n : Int} (h1 : 1 ≤ n) (h2 : n ≤ 999) : pageT n 2 = romZ n := by
  unfold pageT
  rw [if_pos (inB_yes h1 h2)]
  rfl
theorem u8_ne {a b : Nat} (ha : a < 200) (hb : b < 200) (h : UInt8.ofNat a = UInt8.ofNat b) : a = b := by
  have := congrArg UInt8.toNat h
  simp at this
  omega
theorem romZ_eq {n : Int} (h1 : 1 ≤ n) (h2 : n ≤ 3999) : romZ n = rom n.toNat := by
  unfold romZ
  rw [if_pos (inB_yes h1 h2)]
theorem pageT_next {n st : Int} (h : pageT n st ≠ []) : pageT (n + 1) st ≠ pageT n st := by
  obtain ⟨n1, n2, hs⟩ := pageT_in h
  intro e
  obtain ⟨_, m2, _⟩ := pageT_in (n := n + 1) (st := st) (by rw [e]; exact h)
  unfold pageT at e
  rw [if_pos (inB_yes (by omega) m2), if_pos (inB_yes n1 n2)] at e
  rcases hs with rfl | rfl | rfl
  · rw [if_pos rfl, if_pos rfl, preD_last, preD_last n.toNat] at e
    have e2 := (List.append_inj' e rfl).2
    have := u8_ne (by omega) (by omega) (List.head_eq_of_cons_eq e2)
    omega
  · have e' : romZ (n + 1) = romZ n := e
    rw [romZ_eq (by omega) (by omega), romZ_eq (by omega) (by omega)] at e'
    have key : ∀ N : Nat, N < 4000 → rd (rom N) = (N, []) := fun N hN => by simpa using List.all_eq_true.1 rd_all N (List.mem_range.2 hN)
    have k1 := key (n + 1).toNat (by omega)
    rw [e', key n.toNat (by omega)] at k1
    have := congrArg Prod.fst k1
    simp at this
    omega
  · have e' : List.replicate (reps (n + 1)) (ltr (n + 1)) = List.replicate (reps n) (ltr n) := e
    obtain ⟨a, ha⟩ : ∃ a, reps (n + 1) = a + 1 := ⟨reps (n + 1) - 1, by unfold reps; omega⟩
    obtain ⟨b, hb⟩ : ∃ b, reps n = b + 1 := ⟨reps n - 1, by unfold reps; omega⟩
    rw [ha, hb, List.replicate_succ, List.replicate_succ] at e'
    have := u8_ne (by omega) (by omega) (List.head_eq_of_cons_eq e')
    omega

set_option maxHeartbeats 1000000 in
theorem fnPageText_walk (a : Option Addr) (n cap : Nat) (w : World) (h : Code8 w a n cap) (ht : PgTab w) : Calls Tryd.prog 4 #[.slice a n cap] w (Ret (.bool true) w) := by
  have hn : n ≤ 9223372036854775807 := by have := h.2.1; unfold maxLen at this; omega
  by_cases hbig : 1048576 < n
  · clear ht
    go_enter Tryd.func4, Tryd.ntmps4
    go_wp2
    go_ret
    exact ⟨rfl, Below.refl _ _⟩
  · have H := Lib.hid h
    have TAB := Lib.hid ht
    clear h ht
    go_enter Tryd.func4, Tryd.ntmps4
    go_wp2_with fail
    refine (drawPageText_any a n cap w H.out).mono ?_
    rintro e w1 ⟨m, st, m0, m1, s0, s1, rfl, b1⟩
    have B1 := Lib.hid b1
    clear b1
    go_wp2_with fail
    refine (implPage_any m st w1 (TAB.out.below B1.out)).mono ?_
    rintro e w2 ⟨rfl, b2⟩
    have B2 := Lib.hid (below_next B1.out b2 (Nat.le_refl _))
    clear b2 B1
    go_wp2_with fail
    refine (specPage_any m st w2).mono ?_
    rintro e w3 ⟨rfl, b3⟩
    have B3 := Lib.hid (below_next B2.out b3 (Nat.le_refl _))
    clear b3 B2
    by_cases hT0 : pageT m st = []
    · rw [hT0]
      clear hT0
      go_wp2_with fail
      refine (alive_any _).mono ?_
      rintro e w4 ⟨rfl, b4⟩
      have B4 := Lib.hid (below_next B3.out b4 (Nat.le_refl _))
      clear b4 B3
      go_wp2
      go_ret
      exact ⟨rfl, B4.out⟩
    · obtain ⟨n1, n2, hs⟩ := pageT_in hT0
      have hnx := pageT_next hT0
      have hrm : Hid (st = 2 → romZ m = pageT m st) := fun e => by rw [e, pageT_rom n1 n2]
      have IP := Lib.hid (fun w h => implPage_any (m + 1) st w h)
      obtain ⟨U, hU⟩ : ∃ U, U = pageT (m + 1) st := ⟨_, rfl⟩
      obtain ⟨T, hT⟩ : ∃ T, T = pageT m st := ⟨_, rfl⟩
      rw [← hU] at IP hnx
      rw [← hT] at hnx hT0 hrm ⊢
      have c1 : (U == T) = false := by simpa using hnx
      have c2 : T.isEmpty = false := by cases T with
        | nil => exact absurd rfl hT0
        | cons x t => rfl
      clear hU hT hT0 hnx
      by_cases h2 : st = 2
      · have hr := hrm.out h2
        subst h2
        have IT := Lib.hid (fun w h => implRoman_any m w h)
        rw [hr] at IT
        clear hr hs
        go_wp2_with (first | (go_at_call 6; refine (IP.out _ (TAB.out.below B3.out)).mono ?_) | fail)
        rintro e w4 ⟨rfl, b4⟩
        have B4 := Lib.hid (below_next B3.out b4 (Nat.le_refl _))
        clear b4 B3
        go_wp2_with (first | (go_at_call 9; refine (IT.out _ (TAB.out.below B4.out).1).mono ?_) | fail)
        rintro e w5 ⟨rfl, b5⟩
        have B5 := Lib.hid (below_next B4.out b5 (Nat.le_refl _))
        clear b5 B4
        go_wp2
        go_ret
        exact ⟨rfl, B5.out⟩
      · clear hs
        go_wp2_with (first | (go_at_call 6; refine (IP.out _ (TAB.out.below B3.out)).mono ?_) | fail)
        rintro e w4 ⟨rfl, b4⟩
        have B4 := Lib.hid (below_next B3.out b4 (Nat.le_refl _))
        clear b4 B3
        go_wp2
        go_ret
        exact ⟨rfl, B4.out⟩
end Go.Proofs.YtgdiciaddhbogaaDoor

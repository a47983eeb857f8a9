/-
  PROVED HERE: where parts of lines end, whether a number is in a list, how many lines stand alone: what the program and the reference return. Conditions: each theorem's own.
-/
import Derived.Test.YtaolkplecdbadaaIn
import Derived.Test.YtaolkplecdbadaaCore
import Derived.StillTailTactics
import Derived.OwnWalk
namespace Go.Proofs.Ytaolkplecdbadaa
open Go.RowKit

def ascB : Int → List Int → Bool
  | _, [] => true
  | p, x :: t => decide (p < x) && ascB x t
def lastI : Int → List Int → Int
  | p, [] => p
  | _, x :: t => lastI x t
def endsB (m : Int) (xs : List Int) : Bool := ascB 0 xs && (lastI 0 xs == m)
def hasB (xs : List Int) (n : Int) : Bool := xs.any fun x => x == n
def lonF (pg : List Int) : Int → List Int → Int
  | _, [] => 0
  | f, t :: ts => (if decide (1 < t - f) && hasB pg (f + 1) then 1 else 0) + lonF pg t ts
def lonL (pg : List Int) : Int → List Int → Int
  | _, [] => 0
  | f, t :: ts => (if decide (1 < t - f) && hasB pg (t - 1) then 1 else 0) + lonL pg t ts
def lonOk (m : Int) (ps pg : List Int) : Bool := inB m 0 999 && (endsB m ps && endsB m pg)
def lonA (m : Int) (ps pg : List Int) : Int := if lonOk m ps pg = true then lonF pg 0 ps else -1
def lonB (m : Int) (ps pg : List Int) : Int := if lonOk m ps pg = true then lonL pg 0 ps else -1

theorem asc_bd : ∀ (p : Int) (xs : List Int), ascB p xs = true → p ≤ lastI p xs ∧ ∀ x ∈ xs, p < x ∧ x ≤ lastI p xs
  | p, [], _ => ⟨Int.le_refl _, fun x hx => by cases hx⟩
  | p, y :: t, h => by
    rw [ascB, Bool.and_eq_true] at h
    obtain ⟨h1, h2⟩ := h
    have h1 := of_decide_eq_true h1
    obtain ⟨i1, i2⟩ := asc_bd y t h2
    rw [lastI]
    refine ⟨by omega, fun x hx => ?_⟩
    rcases List.mem_cons.1 hx with rfl | hx
    · exact ⟨h1, i1⟩
    · have := i2 x hx
      omega
theorem endsB_true {m : Int} {xs : List Int} (h : endsB m xs = true) : ascB 0 xs = true ∧ lastI 0 xs = m ∧ ∀ x ∈ xs, 0 < x ∧ x ≤ m := by
  unfold endsB at h
  rw [Bool.and_eq_true] at h
  have h2 : lastI 0 xs = m := by simpa using h.2
  have h3 := (asc_bd 0 xs h.1).2
  rw [h2] at h3
  exact ⟨h.1, h2, h3⟩
theorem getD_drop {xs : List Int} {k : Nat} (h : k < xs.length) : xs.drop k = xs.getD k 0 :: xs.drop (k + 1) := by
  rw [List.drop_eq_getElem_cons h]
  simp [List.getD, h]
theorem hasB_drop {xs : List Int} {n : Int} {k : Nat} (h : k < xs.length) : hasB (xs.drop k) n = ((xs.getD k 0 == n) || hasB (xs.drop (k + 1)) n) := by
  rw [getD_drop h]
  rfl

set_option maxHeartbeats 1000000 in
theorem endsFit_any (m : Int) (v : Value) (xs : List Int) (w : World) (h : IRow w v xs) : Calls Try.prog 49 #[.int .i64 m, v] w fun e w' => e = .returned (.bool (endsB m xs)) ∧ w = w' := by
  by_cases h0 : xs.length = 0
  · obtain rfl : xs = [] := List.eq_nil_of_length_eq_zero h0
    obtain ⟨a, cap, rfl⟩ := h.empty
    clear h h0
    go_enter Try.func49, Try.ntmps49
    go_wp2
    refine wp_loop_rounds 1 ?_
    rw [rounds_succ]
    go_wp2
    go_ret
    exact ⟨by simp [endsB, ascB, lastI], rfl⟩
  · have hsz : xs.length ≤ 9223372036854775807 := by obtain ⟨_, _, _, h, _⟩ := h; exact h
    obtain ⟨b, off, cap, rfl, hc⟩ := h.pos (by omega)
    obtain ⟨n, hn⟩ : ∃ n, n = xs.length := ⟨_, rfl⟩
    rw [← hn] at hc hsz h0 ⊢
    have HC := Lib.hid hc
    have HN := Lib.hid hn
    clear hn hc h
    go_enter Try.func49, Try.ntmps49
    go_wp2
    go_loop [5, 10] (fun l i => ∃ (k : Nat) (p : Int), k ≤ n ∧ i = .int .i64 k ∧ l = .int .i64 p ∧ Hid (ascB 0 xs = ascB p (xs.drop k)) ∧ Hid (lastI 0 xs = lastI p (xs.drop k))) (fun _ i => n - (intOf i).toNat)
    case atStart => exact ⟨0, 0, Nat.zero_le _, rfl, rfl, rfl, rfl⟩
    case round =>
      obtain ⟨k, p, hk, rfl, rfl, ha, hl⟩ := hrel
      by_cases hlt : k < n
      · obtain ⟨u, hu⟩ : ∃ u, u = xs.getD k 0 := ⟨_, rfl⟩
        have e1 : w.cell? ⟨b, off + k, none⟩ = some (.int .i64 u) := by
          have h := HC.out k hlt
          rw [← hu] at h
          exact h
        have hd := getD_drop (xs := xs) (k := k) (by rw [← HN.out]; exact hlt)
        rw [← hu] at hd
        have a2 : ascB 0 xs = (decide (p < u) && ascB u (xs.drop (k + 1))) := by rw [ha.out, hd, ascB]
        have l2 : lastI 0 xs = lastI u (xs.drop (k + 1)) := by rw [hl.out, hd, lastI]
        have A2 := Lib.hid a2
        have L2 := Lib.hid l2
        clear hu hd a2 l2 ha hl
        by_cases hpu : u ≤ p
        · have e : endsB m xs = false := by unfold endsB; rw [A2.out, decide_eq_false (by omega)]; rfl
          have E := Lib.hid e
          clear e A2 L2
          go_wp2
          go_ret
          exact ⟨by rw [E.out]; rfl, rfl⟩
        · have A3 : Hid (ascB 0 xs = ascB u (xs.drop (k + 1))) := by show _ = _; rw [A2.out, decide_eq_true (by omega)]; rfl
          clear A2
          go_wp2
          go_round
          case rel => exact ⟨k + 1, u, by omega, by go_num, rfl, A3.out, L2.out⟩
          case measure => simp [intOf]; omega
      · have e : endsB m xs = (p == m) := by
          unfold endsB
          rw [ha.out, hl.out, List.drop_of_length_le (by have := HN.out; omega), ascB, lastI, Bool.true_and]
        have E := Lib.hid e
        clear e ha hl HC
        go_wp2
        go_ret
        exact ⟨by rw [E.out]; rfl, rfl⟩

set_option maxHeartbeats 2000000 in
theorem l32Ends_any (m : Int) (v : Value) (xs : List Int) (w : World) (h : IRow w v xs) : Calls Try.prog 46 #[v, .int .i64 m] w (Ret (.bool (endsB m xs)) w) := by
  by_cases h0 : xs.length = 0
  · obtain rfl : xs = [] := List.eq_nil_of_length_eq_zero h0
    obtain ⟨a, cap, rfl⟩ := h.empty
    clear h h0
    by_cases hm : m = 0
    · subst hm
      go_enter Try.func46, Try.ntmps46
      go_wp2
      refine wp_loop_rounds 1 ?_
      rw [rounds_succ]
      go_wp2
      go_ret
      exact ⟨rfl, Below.refl _ _⟩
    · have hm1 : (m == 0) = false := by simpa using hm
      have hm2 : (0 == m) = false := by simpa using fun e => hm e.symm
      go_enter Try.func46, Try.ntmps46
      go_wp2
      refine wp_loop_rounds 1 ?_
      rw [rounds_succ]
      go_wp2
      go_ret
      exact ⟨by simp [endsB, ascB, lastI, hm2], Below.refl _ _⟩
  · have hsz : xs.length ≤ 9223372036854775807 := by obtain ⟨_, _, _, h, _⟩ := h; exact h
    obtain ⟨b, off, cap, rfl, hc⟩ := h.pos (by omega)
    have hbl : b < w.heap.size := World.block_lt_of_cell? w _ (hc 0 (by omega))
    obtain ⟨n, hn⟩ : ∃ n, n = xs.length := ⟨_, rfl⟩
    rw [← hn] at hc hsz h0 ⊢
    have HC := Lib.hid hc
    have HN := Lib.hid hn
    clear hn hc h
    go_enter Try.func46, Try.ntmps46
    go_wp2
    go_loopw [5] (fun i wr => ∃ (k : Nat) (p : Int), k ≤ n ∧ i = .int .i64 k ∧ 0 ≤ p ∧ Hid (k = 0 → p = 0) ∧ Hid (0 < k → xs.getD (k - 1) 0 = p) ∧ Hid (ascB 0 xs = ascB p (xs.drop k)) ∧ Hid (lastI 0 xs = lastI p (xs.drop k)) ∧ Hid (Below w.heap.size w wr)) (fun i _ => n - (intOf i).toNat)
    case atStart => exact ⟨0, 0, Nat.zero_le _, rfl, by omega, fun _ => rfl, fun h => absurd h (Nat.lt_irrefl _), rfl, rfl, Below.refl _ _⟩
    case round =>
      obtain ⟨k, p, hk, rfl, hp, hp0, hpk, ha, hl, hb⟩ := hrel
      by_cases hlt : k < n
      · obtain ⟨u, hu⟩ : ∃ u, u = xs.getD k 0 := ⟨_, rfl⟩
        have e1 : wr.cell? ⟨b, off + k, none⟩ = some (.int .i64 u) := by
          have h := HC.out k hlt
          rw [← hu] at h
          exact (hb.out.cell (p := ⟨b, off + k, none⟩) hbl).trans h
        have e2 : 0 < k → wr.cell? ⟨b, off + (k - 1), none⟩ = some (.int .i64 p) := fun h0 => by
          have h := HC.out (k - 1) (by omega)
          rw [hpk.out h0] at h
          exact (hb.out.cell (p := ⟨b, off + (k - 1), none⟩) hbl).trans h
        have hd := getD_drop (xs := xs) (k := k) (by rw [← HN.out]; exact hlt)
        have nx : xs.getD (k + 1 - 1) 0 = u := by rw [hu]; rfl
        rw [← hu] at hd
        have a2 : ascB 0 xs = (decide (p < u) && ascB u (xs.drop (k + 1))) := by rw [ha.out, hd, ascB]
        have l2 : lastI 0 xs = lastI u (xs.drop (k + 1)) := by rw [hl.out, hd, lastI]
        have A2 := Lib.hid a2
        have L2 := Lib.hid l2
        have E2 := Lib.hid e2
        have NX := Lib.hid nx
        have P0 := Lib.hid hp0.out
        have HB := Lib.hid hb.out
        clear hu hd a2 l2 ha hl e2 hpk nx hp0 hb
        by_cases hpu : u ≤ p
        · have e : endsB m xs = false := by unfold endsB; rw [A2.out, decide_eq_false (by omega)]; rfl
          have E := Lib.hid e
          clear e A2 L2
          by_cases hk0 : 0 < k
          · have c2 := E2.out hk0
            have hk0' : decide (0 < k) = true := decide_eq_true hk0
            by_cases hu0 : u ≤ 0
            · go_wp2_with fail
              go_quiet (fail)
              go_wp2
              go_ret
              exact ⟨by rw [E.out]; rfl, below_drewN HB.out _⟩
            · have hu0' : decide (u ≤ 0) = false := decide_eq_false hu0
              go_wp2_with fail
              go_quiet (fail)
              go_wp2
              go_ret
              exact ⟨by rw [E.out]; rfl, below_drewN HB.out _⟩
          · obtain rfl : k = 0 := by omega
            have hp00 : p = 0 := P0.out rfl
            have hu0 : u ≤ 0 := by omega
            simp only [Nat.add_zero] at e1
            clear hp00
            go_wp2_with fail
            go_quiet (fail)
            go_wp2
            go_ret
            exact ⟨by rw [E.out]; rfl, below_drewN HB.out _⟩
        · have A3 : Hid (ascB 0 xs = ascB u (xs.drop (k + 1))) := by show _ = _; rw [A2.out, decide_eq_true (by omega)]; rfl
          clear A2
          have hu0 : ¬ u ≤ 0 := by omega
          have hu0' : decide (u ≤ 0) = false := decide_eq_false hu0
          have hu1 : 0 ≤ u := by omega
          by_cases hk0 : 0 < k
          · have c2 := E2.out hk0
            have hpu' : decide (u ≤ p) = false := decide_eq_false hpu
            go_wp2_with fail
            go_quiet (fail)
            go_wp2
            go_roundw
            case rel => exact ⟨k + 1, u, by omega, by go_num, hu1, fun h => absurd h (by omega), fun _ => NX.out, A3.out, L2.out, below_drewN HB.out _⟩
            case measure => simp [intOf]; omega
          · obtain rfl : k = 0 := by omega
            simp only [Nat.add_zero] at e1
            go_wp2_with fail
            go_quiet (fail)
            go_wp2
            go_roundw
            case rel => exact ⟨0 + 1, u, by omega, by go_num, hu1, fun h => absurd h (by omega), fun _ => NX.out, A3.out, L2.out, below_drewN HB.out _⟩
            case measure => simp [intOf]; omega
      · have hkn : k = n := by omega
        have e : endsB m xs = (p == m) := by
          unfold endsB
          rw [ha.out, hl.out, List.drop_of_length_le (by have := HN.out; omega), ascB, lastI, Bool.true_and]
        have c2 : wr.cell? ⟨b, off + (n - 1), none⟩ = some (.int .i64 p) := by
          have h := HC.out (n - 1) (by omega)
          rw [← hkn, hpk.out (by omega)] at h
          rw [← hkn]
          exact (hb.out.cell (p := ⟨b, off + (k - 1), none⟩) hbl).trans h
        have E := Lib.hid e
        have HB := Lib.hid hb.out
        clear e ha hl HC hb hpk hp0 hkn
        have hn0 : 0 < n := by omega
        by_cases hm : m = 0
        · subst hm
          have hn1 : ((n : Int) == 0) = false := by simp; omega
          go_wp2
          go_ret
          exact ⟨by rw [E.out]; rfl, HB.out⟩
        · have hm1 : (m == 0) = false := by simpa using hm
          go_wp2
          go_ret
          exact ⟨by rw [E.out]; rfl, HB.out⟩

set_option maxHeartbeats 1000000 in
theorem l32Has_any (m : Int) (v : Value) (xs : List Int) (w : World) (h : IRow w v xs) : Calls Try.prog 47 #[v, .int .i64 m] w fun e w' => e = .returned (.bool (hasB xs m)) ∧ w = w' := by
  by_cases h0 : xs.length = 0
  · obtain rfl : xs = [] := List.eq_nil_of_length_eq_zero h0
    obtain ⟨a, cap, rfl⟩ := h.empty
    clear h h0
    go_enter Try.func47, Try.ntmps47
    go_wp2
    refine wp_loop_rounds 1 ?_
    rw [rounds_succ]
    go_wp2
    go_ret
    exact ⟨rfl, rfl⟩
  · have hsz : xs.length ≤ 9223372036854775807 := by obtain ⟨_, _, _, h, _⟩ := h; exact h
    obtain ⟨b, off, cap, rfl, hc⟩ := h.pos (by omega)
    obtain ⟨n, hn⟩ : ∃ n, n = xs.length := ⟨_, rfl⟩
    rw [← hn] at hc hsz h0 ⊢
    have HC := Lib.hid hc
    have HN := Lib.hid hn
    clear hn hc h
    go_enter Try.func47, Try.ntmps47
    go_wp2
    go_loop [5] (fun i => ∃ k : Nat, k ≤ n ∧ i = .int .i64 k ∧ Hid (hasB xs m = hasB (xs.drop k) m)) (fun i => n - (intOf i).toNat)
    case atStart => exact ⟨0, Nat.zero_le _, rfl, rfl⟩
    case round =>
      obtain ⟨k, hk, rfl, ha⟩ := hrel
      by_cases hlt : k < n
      · obtain ⟨u, hu⟩ : ∃ u, u = xs.getD k 0 := ⟨_, rfl⟩
        have e1 : w.cell? ⟨b, off + k, none⟩ = some (.int .i64 u) := by
          have h := HC.out k hlt
          rw [← hu] at h
          exact h
        have a2 : hasB xs m = ((u == m) || hasB (xs.drop (k + 1)) m) := by rw [ha.out, hasB_drop (by rw [← HN.out]; exact hlt), ← hu]
        have A2 := Lib.hid a2
        clear hu a2 ha
        cases hum : (u == m)
        · have A3 : Hid (hasB xs m = hasB (xs.drop (k + 1)) m) := by show _ = _; rw [A2.out, hum]; rfl
          clear A2
          go_wp2
          go_round
          case rel => exact ⟨k + 1, by omega, by go_num, A3.out⟩
          case measure => simp [intOf]; omega
        · have e : hasB xs m = true := by rw [A2.out, hum]; rfl
          have E := Lib.hid e
          clear e A2
          go_wp2
          go_ret
          exact ⟨by rw [E.out]; rfl, rfl⟩
      · have e : hasB xs m = false := by
          rw [ha.out, List.drop_of_length_le (by have := HN.out; omega)]
          rfl
        have E := Lib.hid e
        clear e ha HC
        go_wp2
        go_ret
        exact ⟨by rw [E.out]; rfl, rfl⟩

/-- Some number that is not negative if b holds. -/
def IdxAny (b : Bool) (w : World) (e : Ending) (w' : World) : Prop := ∃ i : Int, e = .returned (.int .i64 i) ∧ decide (0 ≤ i) = b ∧ w = w'
set_option maxHeartbeats 1000000 in
theorem index_any (m : Int) (v : Value) (xs : List Int) (w : World) (h : IRow w v xs) : Calls Try.prog 59 #[v, .int .i64 m] w (IdxAny (hasB xs m) w) := by
  by_cases h0 : xs.length = 0
  · obtain rfl : xs = [] := List.eq_nil_of_length_eq_zero h0
    obtain ⟨a, cap, rfl⟩ := h.empty
    clear h h0
    go_enter Try.func59, Try.ntmps59
    go_wp2
    refine wp_loop_rounds 1 ?_
    rw [rounds_succ]
    go_wp2
    go_ret
    exact ⟨-1, rfl, rfl, rfl⟩
  · have hsz : xs.length ≤ 9223372036854775807 := by obtain ⟨_, _, _, h, _⟩ := h; exact h
    obtain ⟨b, off, cap, rfl, hc⟩ := h.pos (by omega)
    obtain ⟨n, hn⟩ : ∃ n, n = xs.length := ⟨_, rfl⟩
    rw [← hn] at hc hsz h0 ⊢
    have HC := Lib.hid hc
    have HN := Lib.hid hn
    clear hn hc h
    go_enter Try.func59, Try.ntmps59
    go_wp2
    go_loop [8] (fun i => ∃ k : Nat, k ≤ n ∧ i = .int .i64 k ∧ Hid (hasB xs m = hasB (xs.drop k) m)) (fun i => n - (intOf i).toNat)
    case atStart => exact ⟨0, Nat.zero_le _, rfl, rfl⟩
    case round =>
      obtain ⟨k, hk, rfl, ha⟩ := hrel
      by_cases hlt : k < n
      · obtain ⟨u, hu⟩ : ∃ u, u = xs.getD k 0 := ⟨_, rfl⟩
        have e1 : w.cell? ⟨b, off + k, none⟩ = some (.int .i64 u) := by
          have h := HC.out k hlt
          rw [← hu] at h
          exact h
        have a2 : hasB xs m = ((u == m) || hasB (xs.drop (k + 1)) m) := by rw [ha.out, hasB_drop (by rw [← HN.out]; exact hlt), ← hu]
        have A2 := Lib.hid a2
        clear hu a2 ha
        cases hum : (u == m)
        · have hmu : (m == u) = false := by rw [beq_eq_false_iff_ne] at hum ⊢; exact fun e => hum e.symm
          have A3 : Hid (hasB xs m = hasB (xs.drop (k + 1)) m) := by show _ = _; rw [A2.out, hum]; rfl
          clear A2
          go_wp2
          go_round
          case rel => exact ⟨k + 1, by omega, by go_num, A3.out⟩
          case measure => simp [intOf]; omega
        · have hmu : (m == u) = true := by rw [beq_iff_eq] at hum ⊢; exact hum.symm
          have e : hasB xs m = true := by rw [A2.out, hum]; rfl
          have E := Lib.hid e
          clear e A2
          go_wp2
          go_ret
          exact ⟨k, rfl, by rw [E.out]; simp, rfl⟩
      · have e : hasB xs m = false := by
          rw [ha.out, List.drop_of_length_le (by have := HN.out; omega)]
          rfl
        have E := Lib.hid e
        clear e ha HC
        go_wp2
        go_ret
        exact ⟨-1, rfl, by rw [E.out]; rfl, rfl⟩
theorem contains_any (m : Int) (v : Value) (xs : List Int) (w : World) (h : IRow w v xs) : Calls Try.prog 50 #[v, .int .i64 m] w fun e w' => e = .returned (.bool (hasB xs m)) ∧ w = w' := by
  have H := Lib.hid h
  clear h
  go_enter Try.func50, Try.ntmps50
  go_wp2_with fail
  refine (index_any m v xs w H.out).mono ?_
  rintro e w1 ⟨i, rfl, hi, rfl⟩
  have HI := Lib.hid hi
  clear hi
  go_wp2
  go_ret
  exact ⟨by rw [← HI.out]; rfl, rfl⟩
end Go.Proofs.Ytaolkplecdbadaa

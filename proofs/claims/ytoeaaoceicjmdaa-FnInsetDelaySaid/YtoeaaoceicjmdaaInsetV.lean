/-
  PROVED HERE: pictures: their cells; whether they are valid. Conditions: each theorem's own.
-/
import Derived.Test.YtoeaaoceicjmdaaIn
import Derived.Test.YtoeaaoceicjmdaaSRow
import Derived.StillTailTactics
import Derived.BigQuiet
import Derived.OwnWalk
namespace Go.Proofs.Ytoeaaoceicjmdaa
open Go.RowKit

/-- What a Inset holds. -/
structure DInset where
  f0 : Int
  f1 : Int
/-- Its cells. -/
def encInset (x : DInset) : List Value := [.int .i64 x.f0, .int .i64 x.f1]
theorem encInset_len (x : DInset) : (encInset x).length = 2 := rfl
theorem encInset_pos (x : DInset) : 0 < (encInset x).length := by rw [encInset_len]; decide
/-- The marks of one that is marked from k on. -/
def mkInset (k : Int) : DInset := ⟨k, k + 1⟩
def mkLInset (k : Int) (n : Nat) : List DInset := (List.range n).map fun j : Nat => mkInset (k + 2 * (j : Int))
theorem mkLInset_len (k : Int) (n : Nat) : (mkLInset k n).length = n := by simp [mkLInset]
theorem mkLInset_succ (k : Int) (n : Nat) : mkLInset k (n + 1) = mkLInset k n ++ [mkInset (k + 2 * (n : Int))] := by simp [mkLInset, List.range_succ]
theorem mkLInset_get (k : Int) (n j : Nat) (h : j < (mkLInset k n).length) : (mkLInset k n)[j] = mkInset (k + 2 * (j : Int)) := by simp [mkLInset]
theorem setInset_run (A R : List Value) (c0 c1 v0 v1 : Value) (n : Nat) (h : A.length = n) : (((A ++ (c0 :: c1 :: R)).set n v0).set (n + 1) v1) = A ++ (v0 :: v1 :: R) := by
  subst h
  simp
/-- One more is marked. -/
theorem markInset_run (k : Int) (xs : List DInset) (j : Nat) (h : j < xs.length) (M : List Value) (hM : M = (mkLInset k j ++ xs.drop j).flatMap encInset) :
    ((M.set (j * 2) (.int .i64 (mkInset (k + 2 * (j : Int))).f0)).set (j * 2 + 1) (.int .i64 (mkInset (k + 2 * (j : Int))).f1)) = (mkLInset k (j + 1) ++ xs.drop (j + 1)).flatMap encInset := by
  subst hM
  rw [List.flatMap_append, List.drop_eq_getElem_cons h, List.flatMap_cons]
  have e := setInset_run ((mkLInset k j).flatMap encInset) ((xs.drop (j + 1)).flatMap encInset) (.int .i64 xs[j].f0) (.int .i64 xs[j].f1) (.int .i64 (mkInset (k + 2 * (j : Int))).f0) (.int .i64 (mkInset (k + 2 * (j : Int))).f1) (j * 2) (by rw [flatMap_len encInset 2 _ (fun x _ => encInset_len x), mkLInset_len])
  simp only [encInset, List.cons_append, List.nil_append] at e ⊢
  rw [e, mkLInset_succ, List.flatMap_append]
  simp [encInset]

def insFrom : Int → List DInset → Bool
  | _, [] => true
  | p, x :: t => inB x.f0 1 1000 && (inB x.f1 0 19 && (decide (p ≤ x.f1) && insFrom x.f1 t))
def insB (xs : List DInset) : Bool := insFrom (-1) xs && decide (xs.length ≤ 20)
theorem isHeight_any (n : Int) (w : World) : Calls Try.prog 31 #[.int .i64 n] w fun e w' => e = .returned (.bool (inB n 1 1000)) ∧ w = w' := by
  go_enter Try.func31, Try.ntmps31
  go_wp2_with (go_at_call 32; refine (in_any _ _ _ _).mono ?_; rintro e w' ⟨rfl, rfl⟩)
  go_ret
  exact ⟨rfl, rfl⟩
theorem isHeight_q (n : Int) (w : World) : Calls Try.prog 31 #[.int .i64 n] w fun e w' => e = .returned (.bool (inB n 1 1000)) ∧ w' = w := (isHeight_any n w).mono (by rintro e w' ⟨rfl, rfl⟩; exact ⟨rfl, rfl⟩)
theorem in_q (n lo hi : Int) (w : World) : Calls Try.prog 32 #[.int .i64 n, .int .i64 lo, .int .i64 hi] w fun e w' => e = .returned (.bool (inB n lo hi)) ∧ w' = w := (in_any n lo hi w).mono (by rintro e w' ⟨rfl, rfl⟩; exact ⟨rfl, rfl⟩)
theorem l1In_q (n lo hi : Int) (w : World) : Calls Try.prog 29 #[.int .i64 n, .int .i64 lo, .int .i64 hi] w fun e w' => e = .returned (.bool (inB n lo hi)) ∧ w' = w := (l1In_any n lo hi w).mono (by rintro e w' ⟨rfl, rfl⟩; exact ⟨rfl, rfl⟩)

set_option maxHeartbeats 4000000 in
theorem implInsetsValid_any (v : Value) (xs : List DInset) (w : World) (h : SRow 2 encInset w v xs) : Calls Try.prog 13 #[v] w (Ret (.bool (insB xs)) w) := by
  have hb30 : insB xs = (insFrom (-1) xs && decide (xs.length ≤ 20)) := rfl
  by_cases h0 : xs.length = 0
  · obtain rfl : xs = [] := List.eq_nil_of_length_eq_zero h0
    obtain ⟨a, cap, rfl⟩ := h.empty
    clear h h0 hb30
    go_enter Try.func13, Try.ntmps13
    go_wp2
    refine wp_loop_rounds 1 ?_
    rw [rounds_succ]
    go_wp2
    go_ret
    exact ⟨rfl, Below.refl _ _⟩
  · have hsz := h.len
    obtain ⟨b, off, cap, rfl, hbl, hc⟩ := h.pos encInset_pos (by omega)
    obtain ⟨n, hn⟩ : ∃ n, n = xs.length := ⟨_, rfl⟩
    rw [← hn] at hsz h0 hb30 ⊢
    have HC := Lib.hid hc
    have HN := Lib.hid hn
    have HB := Lib.hid hb30
    clear hn hc h hb30
    go_enter Try.func13, Try.ntmps13
    go_wp2
    go_loopw [7] (fun i wr => ∃ (k : Nat) (p : Int), k ≤ n ∧ i = .int .i64 k ∧ Hid (insFrom (-1) xs = insFrom p (xs.drop k)) ∧ Hid (k = 0 → p = -1) ∧ Hid (∀ hk : 0 < k, ∀ hj : k - 1 < xs.length, xs[k - 1].f1 = p) ∧ Below w.heap.size w wr) (fun i _ => n - (intOf i).toNat)
    case atStart => exact ⟨0, -1, Nat.zero_le _, rfl, rfl, fun _ => rfl, fun hk => absurd hk (Nat.lt_irrefl _), Below.refl _ _⟩
    case round =>
      obtain ⟨k, p, hk, rfl, hall, hp0, hp1, hb⟩ := hrel
      by_cases hlt : k < n
      · have hk' : k < xs.length := by rw [← HN.out]; exact hlt
        have q := HC.out k hk'
        have hd : xs.drop k = xs[k] :: xs.drop (k + 1) := List.drop_eq_getElem_cons hk'
        obtain ⟨z, hx⟩ : ∃ x, x = xs[k] := ⟨_, rfl⟩
        have fe : insFrom (-1) xs = (inB z.f0 1 1000 && (inB z.f1 0 19 && (decide (p ≤ z.f1) && insFrom z.f1 (xs.drop (k + 1))))) := by
          rw [hall.out, hd, ← hx]
          rfl
        rw [← hx] at q
        have r : ∀ i u, (encInset z)[i]? = some u → wr.cell? ⟨b, off + k * 2 + i, none⟩ = some u := fun i u hu => (hb.cell (p := ⟨b, off + k * 2 + i, none⟩) hbl).trans (q i u hu)
        have c0 : wr.cell? ⟨b, off + k * 2, none⟩ = some (.int .i64 z.f0) := by simpa using r 0 _ rfl
        have c1 : wr.cell? ⟨b, off + k * 2 + 1, none⟩ = some (.int .i64 z.f1) := by simpa using r 1 _ rfl
        have hbr : b < wr.heap.size := by have := hb.size; omega
        have nx : Hid (∀ hk : 0 < k + 1, ∀ hj : k + 1 - 1 < xs.length, xs[k + 1 - 1].f1 = z.f1) := fun _ _ => by
          have : xs[k + 1 - 1] = xs[k] := rfl
          rw [this, ← hx]
        have HB2 := Lib.hid hb
        have FE := Lib.hid fe
        have q1 : ∀ hk0 : 0 < k, wr.cell? ⟨b, off + (k - 1) * 2 + 1, none⟩ = some (.int .i64 p) := fun hk0 => by
          have hk1 : k - 1 < xs.length := by omega
          have q2 := HC.out (k - 1) hk1 1 _ rfl
          rw [hp1.out hk0 hk1] at q2
          exact (hb.cell (p := ⟨b, off + (k - 1) * 2 + 1, none⟩) hbl).trans q2
        have hp := hp0.out
        have Q1 := Lib.hid q1
        have HP := Lib.hid hp
        clear q r hx hb hd hall fe hp0 hp1 q1 hp
        have hb1 : Below w.heap.size w (wr.alloc (.cells #[.int .i64 z.f0, .int .i64 z.f1] 32)) := HB2.out.alloc (by have := HB2.out.size; omega) _
        have HB3 := Lib.hid hb1
        clear hb1
        cases b1 : inB z.f0 1 1000
        · have e : insFrom (-1) xs = false := by rw [FE.out, b1]; rfl
          have E := Lib.hid e
          clear e FE Q1 HP nx
          go_wp2_with fail
          go_quiet (first | (go_at_call 31; refine Calls.quiet_of_same (isHeight_q _ _)) | (go_at_call 32; refine Calls.quiet_of_same (in_q _ _ _ _)))
          go_wp2
          go_ret
          exact ⟨by rw [HB.out, E.out]; rfl, below_drewN HB3.out _⟩
        · cases b2 : inB z.f1 0 19
          · have e : insFrom (-1) xs = false := by rw [FE.out, b1, b2]; rfl
            have E := Lib.hid e
            clear e FE Q1 HP nx
            go_wp2_with fail
            go_quiet (first | (go_at_call 31; refine Calls.quiet_of_same (isHeight_q _ _)) | (go_at_call 32; refine Calls.quiet_of_same (in_q _ _ _ _)))
            go_wp2
            go_ret
            exact ⟨by rw [HB.out, E.out]; rfl, below_drewN HB3.out _⟩
          · by_cases hk0 : 0 < k
            · have c2 := Q1.out hk0
              clear Q1 HP
              by_cases hpz : p ≤ z.f1
              · have e : insFrom (-1) xs = insFrom z.f1 (xs.drop (k + 1)) := by rw [FE.out, b1, b2, decide_eq_true hpz]; rfl
                have E := Lib.hid e
                clear e FE
                go_wp2_with fail
                go_quiet (first | (go_at_call 31; refine Calls.quiet_of_same (isHeight_q _ _)) | (go_at_call 32; refine Calls.quiet_of_same (in_q _ _ _ _)))
                go_wp2
                go_roundw
                case rel => exact ⟨k + 1, z.f1, by omega, by go_num, E.out, fun h => absurd h (by omega), nx.out, below_drewN HB3.out _⟩
                case measure => simp [intOf]; omega
              · have e : insFrom (-1) xs = false := by rw [FE.out, b1, b2, decide_eq_false hpz]; rfl
                have E := Lib.hid e
                clear e FE nx
                go_wp2_with fail
                go_quiet (first | (go_at_call 31; refine Calls.quiet_of_same (isHeight_q _ _)) | (go_at_call 32; refine Calls.quiet_of_same (in_q _ _ _ _)))
                go_wp2
                go_ret
                exact ⟨by rw [HB.out, E.out]; rfl, below_drewN HB3.out _⟩
            · obtain rfl : k = 0 := by omega
              simp only [Nat.zero_mul, Nat.add_zero] at c0 c1
              have hp : p = -1 := HP.out rfl
              have i2 := (inB_true b2).1
              have e : insFrom (-1) xs = insFrom z.f1 (xs.drop (0 + 1)) := by rw [FE.out, b1, b2, decide_eq_true (by omega)]; rfl
              have E := Lib.hid e
              clear e FE Q1 HP i2
              go_wp2_with fail
              go_quiet (first | (go_at_call 31; refine Calls.quiet_of_same (isHeight_q _ _)) | (go_at_call 32; refine Calls.quiet_of_same (in_q _ _ _ _)))
              go_wp2
              go_roundw
              case rel => exact ⟨0 + 1, z.f1, by omega, by go_num, E.out, fun h => absurd h (by omega), nx.out, below_drewN HB3.out _⟩
              case measure => simp [intOf]; omega
      · have e : insFrom (-1) xs = true := by
          rw [hall.out, List.drop_of_length_le (by have := HN.out; omega)]
          rfl
        have hd : decide ((n : Int) ≤ 20) = decide (n ≤ 20) := decide_eq_decide.2 (by omega)
        have e2 : insB xs = decide ((n : Int) ≤ 20) := by rw [HB.out, e, hd, Bool.true_and]
        have E := Lib.hid e2
        have HB2 := Lib.hid hb
        clear HC HB hall hd e e2 hp0 hp1 hb
        go_wp2
        go_ret
        exact ⟨by rw [E.out]; rfl, HB2.out⟩

set_option maxHeartbeats 4000000 in
theorem specInsetsValid_any (v : Value) (xs : List DInset) (w : World) (h : SRow 2 encInset w v xs) : Calls Try.prog 11 #[v] w (Ret (.bool (insB xs)) w) := by
  have hb30 : insB xs = (insFrom (-1) xs && decide (xs.length ≤ 20)) := rfl
  by_cases h0 : xs.length = 0
  · obtain rfl : xs = [] := List.eq_nil_of_length_eq_zero h0
    obtain ⟨a, cap, rfl⟩ := h.empty
    clear h h0 hb30
    go_enter Try.func11, Try.ntmps11
    go_wp2
    refine wp_loop_rounds 1 ?_
    rw [rounds_succ]
    go_wp2
    go_ret
    exact ⟨rfl, Below.refl _ _⟩
  · have hsz := h.len
    obtain ⟨b, off, cap, rfl, hbl, hc⟩ := h.pos encInset_pos (by omega)
    obtain ⟨n, hn⟩ : ∃ n, n = xs.length := ⟨_, rfl⟩
    rw [← hn] at hsz h0 hb30 ⊢
    have HC := Lib.hid hc
    have HN := Lib.hid hn
    have HB := Lib.hid hb30
    clear hn hc h hb30
    go_enter Try.func11, Try.ntmps11
    go_wp2
    go_loopw [3] (fun i wr => ∃ (k : Nat) (p : Int), k ≤ n ∧ i = .int .i64 k ∧ Hid (insFrom (-1) xs = insFrom p (xs.drop k)) ∧ Hid (k = 0 → p = -1) ∧ Hid (∀ hk : 0 < k, ∀ hj : k - 1 < xs.length, xs[k - 1].f1 = p) ∧ Below w.heap.size w wr) (fun i _ => n - (intOf i).toNat)
    case atStart => exact ⟨0, -1, Nat.zero_le _, rfl, rfl, fun _ => rfl, fun hk => absurd hk (Nat.lt_irrefl _), Below.refl _ _⟩
    case round =>
      obtain ⟨k, p, hk, rfl, hall, hp0, hp1, hb⟩ := hrel
      by_cases hlt : k < n
      · have hk' : k < xs.length := by rw [← HN.out]; exact hlt
        have q := HC.out k hk'
        have hd : xs.drop k = xs[k] :: xs.drop (k + 1) := List.drop_eq_getElem_cons hk'
        obtain ⟨z, hx⟩ : ∃ x, x = xs[k] := ⟨_, rfl⟩
        have fe : insFrom (-1) xs = (inB z.f0 1 1000 && (inB z.f1 0 19 && (decide (p ≤ z.f1) && insFrom z.f1 (xs.drop (k + 1))))) := by
          rw [hall.out, hd, ← hx]
          rfl
        rw [← hx] at q
        have r : ∀ i u, (encInset z)[i]? = some u → wr.cell? ⟨b, off + k * 2 + i, none⟩ = some u := fun i u hu => (hb.cell (p := ⟨b, off + k * 2 + i, none⟩) hbl).trans (q i u hu)
        have c0 : wr.cell? ⟨b, off + k * 2, none⟩ = some (.int .i64 z.f0) := by simpa using r 0 _ rfl
        have c1 : wr.cell? ⟨b, off + k * 2 + 1, none⟩ = some (.int .i64 z.f1) := by simpa using r 1 _ rfl
        have hbr : b < wr.heap.size := by have := hb.size; omega
        have nx : Hid (∀ hk : 0 < k + 1, ∀ hj : k + 1 - 1 < xs.length, xs[k + 1 - 1].f1 = z.f1) := fun _ _ => by
          have : xs[k + 1 - 1] = xs[k] := rfl
          rw [this, ← hx]
        have HB2 := Lib.hid hb
        have FE := Lib.hid fe
        have q1 : ∀ hk0 : 0 < k, wr.cell? ⟨b, off + (k - 1) * 2 + 1, none⟩ = some (.int .i64 p) := fun hk0 => by
          have hk1 : k - 1 < xs.length := by omega
          have q2 := HC.out (k - 1) hk1 1 _ rfl
          rw [hp1.out hk0 hk1] at q2
          exact (hb.cell (p := ⟨b, off + (k - 1) * 2 + 1, none⟩) hbl).trans q2
        have hp := hp0.out
        have Q1 := Lib.hid q1
        have HP := Lib.hid hp
        clear q r hx hb hd hall fe hp0 hp1 q1 hp
        have hb1 : Below w.heap.size w (wr) := HB2.out
        have HB3 := Lib.hid hb1
        clear hb1
        cases b1 : inB z.f0 1 1000
        · have e : insFrom (-1) xs = false := by rw [FE.out, b1]; rfl
          have E := Lib.hid e
          clear e FE Q1 HP nx
          go_wp2_with fail
          go_quiet (first | (go_at_call 29; refine Calls.quiet_of_same (l1In_q _ _ _ _)))
          go_wp2
          go_ret
          exact ⟨by rw [HB.out, E.out]; rfl, below_drewN HB3.out _⟩
        · cases b2 : inB z.f1 0 19
          · have e : insFrom (-1) xs = false := by rw [FE.out, b1, b2]; rfl
            have E := Lib.hid e
            clear e FE Q1 HP nx
            go_wp2_with fail
            go_quiet (first | (go_at_call 29; refine Calls.quiet_of_same (l1In_q _ _ _ _)))
            go_wp2
            go_ret
            exact ⟨by rw [HB.out, E.out]; rfl, below_drewN HB3.out _⟩
          · by_cases hk0 : 0 < k
            · have c2 := Q1.out hk0
              clear Q1 HP
              by_cases hpz : p ≤ z.f1
              · have e : insFrom (-1) xs = insFrom z.f1 (xs.drop (k + 1)) := by rw [FE.out, b1, b2, decide_eq_true hpz]; rfl
                have E := Lib.hid e
                clear e FE
                go_wp2_with fail
                go_quiet (first | (go_at_call 29; refine Calls.quiet_of_same (l1In_q _ _ _ _)))
                go_wp2
                go_roundw
                case rel => exact ⟨k + 1, z.f1, by omega, by go_num, E.out, fun h => absurd h (by omega), nx.out, below_drewN HB3.out _⟩
                case measure => simp [intOf]; omega
              · have e : insFrom (-1) xs = false := by rw [FE.out, b1, b2, decide_eq_false hpz]; rfl
                have E := Lib.hid e
                clear e FE nx
                go_wp2_with fail
                go_quiet (first | (go_at_call 29; refine Calls.quiet_of_same (l1In_q _ _ _ _)))
                go_wp2
                go_ret
                exact ⟨by rw [HB.out, E.out]; rfl, below_drewN HB3.out _⟩
            · obtain rfl : k = 0 := by omega
              simp only [Nat.zero_mul, Nat.add_zero] at c0 c1
              have hp : p = -1 := HP.out rfl
              have i2 := (inB_true b2).1
              have e : insFrom (-1) xs = insFrom z.f1 (xs.drop (0 + 1)) := by rw [FE.out, b1, b2, decide_eq_true (by omega)]; rfl
              have E := Lib.hid e
              clear e FE Q1 HP i2
              go_wp2_with fail
              go_quiet (first | (go_at_call 29; refine Calls.quiet_of_same (l1In_q _ _ _ _)))
              go_wp2
              go_roundw
              case rel => exact ⟨0 + 1, z.f1, by omega, by go_num, E.out, fun h => absurd h (by omega), nx.out, below_drewN HB3.out _⟩
              case measure => simp [intOf]; omega
      · have e : insFrom (-1) xs = true := by
          rw [hall.out, List.drop_of_length_le (by have := HN.out; omega)]
          rfl
        have hd : decide ((n : Int) ≤ 20) = decide (n ≤ 20) := decide_eq_decide.2 (by omega)
        have e2 : insB xs = decide ((n : Int) ≤ 20) := by rw [HB.out, e, hd, Bool.true_and]
        have E := Lib.hid e2
        have HB2 := Lib.hid hb
        clear HC HB hall hd e e2 hp0 hp1 hb
        go_wp2
        go_ret
        exact ⟨by rw [E.out]; rfl, HB2.out⟩
end Go.Proofs.Ytoeaaoceicjmdaa

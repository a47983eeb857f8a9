
/-
  PROVED HERE: ranges: their cells; whether they are valid. Conditions: each theorem's own.
-/
import Derived.Test.YtnlhlgefaamdgaaIn
import Derived.Test.YtnlhlgefaamdgaaSRow
import Derived.StillTailTactics
import Derived.BigQuiet
import Derived.OwnWalk
set_option linter.unusedVariables false
set_option linter.unusedSimpArgs false
namespace Go.Proofs.Ytnlhlgefaamdgaa
open Go.RowKit

/-- What a Span holds. -/
structure DSpan where
  f0 : Int
  f1 : Int
/-- Its cells. -/
def encSpan (x : DSpan) : List Value := [.int .i64 x.f0, .int .i64 x.f1]
theorem encSpan_len (x : DSpan) : (encSpan x).length = 2 := rfl
theorem encSpan_pos (x : DSpan) : 0 < (encSpan x).length := by rw [encSpan_len]; decide
/-- The marks of one that is marked from k on. -/
def mkSpan (k : Int) : DSpan := ⟨k, k + 1⟩
def mkLSpan (k : Int) (n : Nat) : List DSpan := (List.range n).map fun j : Nat => mkSpan (k + 2 * (j : Int))
theorem mkLSpan_len (k : Int) (n : Nat) : (mkLSpan k n).length = n := by simp [mkLSpan]
theorem mkLSpan_succ (k : Int) (n : Nat) : mkLSpan k (n + 1) = mkLSpan k n ++ [mkSpan (k + 2 * (n : Int))] := by simp [mkLSpan, List.range_succ]
theorem mkLSpan_get (k : Int) (n j : Nat) (h : j < (mkLSpan k n).length) : (mkLSpan k n)[j] = mkSpan (k + 2 * (j : Int)) := by simp [mkLSpan]
theorem setSpan_run (A R : List Value) (c0 c1 v0 v1 : Value) (n : Nat) (h : A.length = n) : (((A ++ (c0 :: c1 :: R)).set n v0).set (n + 1) v1) = A ++ (v0 :: v1 :: R) := by
  subst h
  simp
/-- One more is marked. -/
theorem markSpan_run (k : Int) (xs : List DSpan) (j : Nat) (h : j < xs.length) (M : List Value) (hM : M = (mkLSpan k j ++ xs.drop j).flatMap encSpan) :
    ((M.set (j * 2) (.int .i64 (mkSpan (k + 2 * (j : Int))).f0)).set (j * 2 + 1) (.int .i64 (mkSpan (k + 2 * (j : Int))).f1)) = (mkLSpan k (j + 1) ++ xs.drop (j + 1)).flatMap encSpan := by
  subst hM
  rw [List.flatMap_append, List.drop_eq_getElem_cons h, List.flatMap_cons]
  have e := setSpan_run ((mkLSpan k j).flatMap encSpan) ((xs.drop (j + 1)).flatMap encSpan) (.int .i64 xs[j].f0) (.int .i64 xs[j].f1) (.int .i64 (mkSpan (k + 2 * (j : Int))).f0) (.int .i64 (mkSpan (k + 2 * (j : Int))).f1) (j * 2) (by rw [flatMap_len encSpan 2 _ (fun x _ => encSpan_len x), mkLSpan_len])
  simp only [encSpan, List.cons_append, List.nil_append] at e ⊢
  rw [e, mkLSpan_succ, List.flatMap_append]
  simp [encSpan]

def spOk (x : DSpan) : Bool := inB x.f0 1 999 && inB x.f1 x.f0 999
def spFrom : Int → List DSpan → Bool
  | _, [] => true
  | p, x :: t => spOk x && (decide (p + 2 ≤ x.f0) && spFrom x.f1 t)
def spB (xs : List DSpan) : Bool := spFrom (-1) xs && decide (xs.length ≤ 10)
theorem spOk_true {x : DSpan} (h : spOk x = true) : 1 ≤ x.f0 ∧ x.f0 ≤ x.f1 ∧ x.f1 ≤ 999 := by
  unfold spOk at h
  rw [Bool.and_eq_true] at h
  have a := inB_true h.1
  have b := inB_true h.2
  exact ⟨a.1, b.1, b.2⟩
theorem spOk_yes {x : DSpan} (h1 : 1 ≤ x.f0) (h2 : x.f0 ≤ x.f1) (h3 : x.f1 ≤ 999) : spOk x = true := by
  unfold spOk
  rw [inB_yes h1 (by omega), inB_yes h2 h3]
  rfl
theorem isPage_q (n : Int) (w : World) : Calls Try.prog 21 #[.int .i64 n] w fun e w' => e = .returned (.bool (inB n 1 999)) ∧ w' = w := by
  go_enter Try.func21, Try.ntmps21
  go_wp2_with (go_at_call 31; refine (in_any _ _ _ _).mono ?_; rintro e w' ⟨rfl, rfl⟩)
  go_ret
  exact ⟨rfl, rfl⟩
theorem in_q (n lo hi : Int) (w : World) : Calls Try.prog 31 #[.int .i64 n, .int .i64 lo, .int .i64 hi] w fun e w' => e = .returned (.bool (inB n lo hi)) ∧ w' = w := (in_any n lo hi w).mono (by rintro e w' ⟨rfl, rfl⟩; exact ⟨rfl, rfl⟩)
theorem l1In_q (n lo hi : Int) (w : World) : Calls Try.prog 18 #[.int .i64 n, .int .i64 lo, .int .i64 hi] w fun e w' => e = .returned (.bool (inB n lo hi)) ∧ w' = w := (l1In_any n lo hi w).mono (by rintro e w' ⟨rfl, rfl⟩; exact ⟨rfl, rfl⟩)

set_option maxHeartbeats 4000000 in
theorem implSpansValid_any (v : Value) (xs : List DSpan) (w : World) (h : SRow 2 encSpan w v xs) : Calls Try.prog 17 #[v] w (Ret (.bool (spB xs)) w) := by
  have hb30 : spB xs = (spFrom (-1) xs && decide (xs.length ≤ 10)) := rfl
  by_cases h0 : xs.length = 0
  · obtain rfl : xs = [] := List.eq_nil_of_length_eq_zero h0
    obtain ⟨a, cap, rfl⟩ := h.empty
    clear h h0 hb30
    go_enter Try.func17, Try.ntmps17
    go_wp2
    refine wp_loop_rounds 1 ?_
    rw [rounds_succ]
    go_wp2
    go_ret
    exact ⟨rfl, Below.refl _ _⟩
  · have hsz := h.len
    obtain ⟨b, off, cap, rfl, hbl, hc⟩ := h.pos encSpan_pos (by omega)
    obtain ⟨n, hn⟩ : ∃ n, n = xs.length := ⟨_, rfl⟩
    rw [← hn] at hsz h0 hb30 ⊢
    have HC := Lib.hid hc
    have HN := Lib.hid hn
    have HB := Lib.hid hb30
    clear hn hc h hb30
    go_enter Try.func17, Try.ntmps17
    go_wp2
    go_loopw [7] (fun i wr => ∃ (k : Nat) (p : Int), k ≤ n ∧ i = .int .i64 k ∧ -1 ≤ p ∧ p ≤ 999 ∧ Hid (spFrom (-1) xs = spFrom p (xs.drop k)) ∧ Hid (k = 0 → p = -1) ∧ Hid (∀ hk : 0 < k, ∀ hj : k - 1 < xs.length, xs[k - 1].f1 = p) ∧ Below w.heap.size w wr) (fun i _ => n - (intOf i).toNat)
    case atStart => exact ⟨0, -1, Nat.zero_le _, rfl, by omega, by omega, rfl, fun _ => rfl, fun hk => absurd hk (Nat.lt_irrefl _), Below.refl _ _⟩
    case round =>
      obtain ⟨k, p, hk, rfl, hpl, hpu, hall, hp0, hp1, hb⟩ := hrel
      by_cases hlt : k < n
      · have hk' : k < xs.length := by rw [← HN.out]; exact hlt
        have q := HC.out k hk'
        have hd : xs.drop k = xs[k] :: xs.drop (k + 1) := List.drop_eq_getElem_cons hk'
        obtain ⟨z, hx⟩ : ∃ x, x = xs[k] := ⟨_, rfl⟩
        have fe : spFrom (-1) xs = (spOk z && (decide (p + 2 ≤ z.f0) && spFrom z.f1 (xs.drop (k + 1)))) := by
          rw [hall.out, hd, ← hx]
          rfl
        rw [← hx] at q
        have r : ∀ i u, (encSpan z)[i]? = some u → wr.cell? ⟨b, off + k * 2 + i, none⟩ = some u := fun i u hu => (hb.cell (p := ⟨b, off + k * 2 + i, none⟩) hbl).trans (q i u hu)
        have c0 : wr.cell? ⟨b, off + k * 2, none⟩ = some (.int .i64 z.f0) := by simpa using r 0 _ rfl
        have c1 : wr.cell? ⟨b, off + k * 2 + 1, none⟩ = some (.int .i64 z.f1) := by simpa using r 1 _ rfl
        have hbr : b < wr.heap.size := by have := hb.size; omega
        have nx : Hid (∀ hk : 0 < k + 1, ∀ hj : k + 1 - 1 < xs.length, xs[k + 1 - 1].f1 = z.f1) := fun _ _ => by
          have : xs[k + 1 - 1] = xs[k] := rfl
          rw [this, ← hx]
        have HB2 := Lib.hid hb
        have FE := Lib.hid fe
        have q1 : ∀ hk0 : 0 < k, wr.cell? ⟨b, off + (k - 1) * 2 + 1, none⟩ = some (.int .i64 p) := fun hk0 => by
          have hk1 : k - 1 < xs.length := by omega
          have q2 := HC.out (k - 1) hk1 1 _ rfl
          rw [hp1.out hk0 hk1] at q2
          exact (hb.cell (p := ⟨b, off + (k - 1) * 2 + 1, none⟩) hbl).trans q2
        have hp := hp0.out
        have Q1 := Lib.hid q1
        have HP := Lib.hid hp
        clear q r hx hb hd hall fe hp0 hp1 q1 hp
        have hb1 : Below w.heap.size w (wr.alloc (.cells #[.int .i64 z.f0, .int .i64 z.f1] 40)) := HB2.out.alloc (by have := HB2.out.size; omega) _
        have HB3 := Lib.hid hb1
        clear hb1
        have wp2 : IntKind.i64.wrap (p + 2) = p + 2 := IntWalk.i64_in _ (by omega)
        have WP := Lib.hid wp2
        clear wp2
        cases ho : spOk z
        · have e : spFrom (-1) xs = false := by rw [FE.out, ho]; rfl
          have E := Lib.hid e
          clear e FE Q1 HP nx
          cases b1 : inB z.f0 1 999
          · go_wp2_with fail
            go_quiet (first | (go_at_call 21; refine Calls.quiet_of_same (isPage_q _ _)) | (go_at_call 31; refine Calls.quiet_of_same (in_q _ _ _ _)))
            go_wp2
            go_ret
            exact ⟨by rw [HB.out, E.out]; rfl, below_drewN HB3.out _⟩
          · have b2 : inB z.f1 z.f0 999 = false := by unfold spOk at ho; rw [b1] at ho; exact ho
            go_wp2_with fail
            go_quiet (first | (go_at_call 21; refine Calls.quiet_of_same (isPage_q _ _)) | (go_at_call 31; refine Calls.quiet_of_same (in_q _ _ _ _)))
            go_wp2
            go_ret
            exact ⟨by rw [HB.out, E.out]; rfl, below_drewN HB3.out _⟩
        · have e1 : spFrom (-1) xs = (decide (p + 2 ≤ z.f0) && spFrom z.f1 (xs.drop (k + 1))) := by rw [FE.out, ho]; rfl
          have E1 := Lib.hid e1
          obtain ⟨o1, o2, o3⟩ := spOk_true ho
          have b1 : inB z.f0 1 999 = true := inB_yes o1 (by omega)
          have b2 : inB z.f1 z.f0 999 = true := inB_yes o2 o3
          clear e1 FE ho
          by_cases hk0 : 0 < k
          · have c2 := Q1.out hk0
            clear Q1 HP
            have wp2 := WP.out
            by_cases hpz : p + 2 ≤ z.f0
            · have e : spFrom (-1) xs = spFrom z.f1 (xs.drop (k + 1)) := by rw [E1.out, decide_eq_true hpz]; rfl
              have E := Lib.hid e
              clear e E1
              have hz0 : ¬ z.f0 < p + 2 := by omega
              have hz1 : decide (z.f0 < p + 2) = false := decide_eq_false hz0
              go_wp2_with fail
              go_quiet (first | (go_at_call 21; refine Calls.quiet_of_same (isPage_q _ _)) | (go_at_call 31; refine Calls.quiet_of_same (in_q _ _ _ _)))
              clear wp2
              go_wp2
              go_roundw
              case rel => exact ⟨k + 1, z.f1, by omega, by go_num, by omega, by omega, E.out, fun h => absurd h (by omega), nx.out, below_drewN HB3.out _⟩
              case measure => simp [intOf]; omega
            · have e : spFrom (-1) xs = false := by rw [E1.out, decide_eq_false hpz]; rfl
              have E := Lib.hid e
              have hz0 : z.f0 < p + 2 := by omega
              have hz1 : decide (z.f0 < p + 2) = true := decide_eq_true hz0
              clear e E1 nx
              go_wp2_with fail
              go_quiet (first | (go_at_call 21; refine Calls.quiet_of_same (isPage_q _ _)) | (go_at_call 31; refine Calls.quiet_of_same (in_q _ _ _ _)))
              clear wp2
              go_wp2
              go_ret
              exact ⟨by rw [HB.out, E.out]; rfl, below_drewN HB3.out _⟩
          · obtain rfl : k = 0 := by omega
            simp only [Nat.zero_mul, Nat.add_zero] at c0 c1
            have hp : p = -1 := HP.out rfl
            have e : spFrom (-1) xs = spFrom z.f1 (xs.drop (0 + 1)) := by rw [E1.out, decide_eq_true (by omega)]; rfl
            have E := Lib.hid e
            clear e E1 Q1 HP hp
            go_wp2_with fail
            go_quiet (first | (go_at_call 21; refine Calls.quiet_of_same (isPage_q _ _)) | (go_at_call 31; refine Calls.quiet_of_same (in_q _ _ _ _)))
            go_wp2
            go_roundw
            case rel => exact ⟨0 + 1, z.f1, by omega, by go_num, by omega, by omega, E.out, fun h => absurd h (by omega), nx.out, below_drewN HB3.out _⟩
            case measure => simp [intOf]; omega
      · have e : spFrom (-1) xs = true := by
          rw [hall.out, List.drop_of_length_le (by have := HN.out; omega)]
          rfl
        have hd : decide ((n : Int) ≤ 10) = decide (n ≤ 10) := decide_eq_decide.2 (by omega)
        have e2 : spB xs = decide ((n : Int) ≤ 10) := by rw [HB.out, e, hd, Bool.true_and]
        have E := Lib.hid e2
        have HB2 := Lib.hid hb
        clear HC HB hall hd e e2 hp0 hp1 hb
        go_wp2
        go_ret
        exact ⟨by rw [E.out]; rfl, HB2.out⟩

end Go.Proofs.Ytnlhlgefaamdgaa

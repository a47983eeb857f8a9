/-
  PROVED HERE: rows: their cells; whether one, whether many are valid. Conditions: each theorem's own.
-/
import Derived.Test.YtkbpmpndfcdpkaaSnap
import Derived.Test.YtkbpmpndfcdpkaaSRow
import Derived.StillTailTactics
import Derived.OwnWalk
namespace Go.Proofs.Ytkbpmpndfcdpkaa
open Go.RowKit

/-- What a Row holds. -/
structure DRow where
  f0 : Int
  f1 : Bool
  f2 : Int
  f3 : Int
/-- Its cells. -/
def encRow (x : DRow) : List Value := [.int .i64 x.f0, .bool x.f1, .int .i64 x.f2, .int .i64 x.f3]
theorem encRow_len (x : DRow) : (encRow x).length = 4 := rfl
theorem encRow_pos (x : DRow) : 0 < (encRow x).length := by rw [encRow_len]; decide
/-- The marks of one that is marked from k on. -/
def mkRow (k : Int) : DRow := ⟨k, ((k + 1) % 3 == 0), k + 2, k + 3⟩
def mkLRow (k : Int) (n : Nat) : List DRow := (List.range n).map fun j : Nat => mkRow (k + 4 * (j : Int))
theorem mkLRow_len (k : Int) (n : Nat) : (mkLRow k n).length = n := by simp [mkLRow]
theorem mkLRow_succ (k : Int) (n : Nat) : mkLRow k (n + 1) = mkLRow k n ++ [mkRow (k + 4 * (n : Int))] := by simp [mkLRow, List.range_succ]
theorem mkLRow_get (k : Int) (n j : Nat) (h : j < (mkLRow k n).length) : (mkLRow k n)[j] = mkRow (k + 4 * (j : Int)) := by simp [mkLRow]
theorem setRow_run (A R : List Value) (c0 c1 c2 c3 v0 v1 v2 v3 : Value) (n : Nat) (h : A.length = n) : (((((A ++ (c0 :: c1 :: c2 :: c3 :: R)).set n v0).set (n + 1) v1).set (n + 2) v2).set (n + 3) v3) = A ++ (v0 :: v1 :: v2 :: v3 :: R) := by
  subst h
  simp
/-- One more is marked. -/
theorem markRow_run (k : Int) (xs : List DRow) (j : Nat) (h : j < xs.length) (M : List Value) (hM : M = (mkLRow k j ++ xs.drop j).flatMap encRow) :
    ((((M.set (j * 4) (.int .i64 (mkRow (k + 4 * (j : Int))).f0)).set (j * 4 + 1) (.bool (mkRow (k + 4 * (j : Int))).f1)).set (j * 4 + 2) (.int .i64 (mkRow (k + 4 * (j : Int))).f2)).set (j * 4 + 3) (.int .i64 (mkRow (k + 4 * (j : Int))).f3)) = (mkLRow k (j + 1) ++ xs.drop (j + 1)).flatMap encRow := by
  subst hM
  rw [List.flatMap_append, List.drop_eq_getElem_cons h, List.flatMap_cons]
  have e := setRow_run ((mkLRow k j).flatMap encRow) ((xs.drop (j + 1)).flatMap encRow) (.int .i64 xs[j].f0) (.bool xs[j].f1) (.int .i64 xs[j].f2) (.int .i64 xs[j].f3) (.int .i64 (mkRow (k + 4 * (j : Int))).f0) (.bool (mkRow (k + 4 * (j : Int))).f1) (.int .i64 (mkRow (k + 4 * (j : Int))).f2) (.int .i64 (mkRow (k + 4 * (j : Int))).f3) (j * 4) (by rw [flatMap_len encRow 4 _ (fun x _ => encRow_len x), mkLRow_len])
  simp only [encRow, List.cons_append, List.nil_append] at e ⊢
  rw [e, mkLRow_succ, List.flatMap_append]
  simp [encRow]

def rowB (x : DRow) : Bool := inB x.f0 1 1000 && inB x.f2 0 1000 && inB x.f3 0 1000
def rowsB (xs : List DRow) : Bool := xs.all rowB && decide (xs.length ≤ 30)

theorem implRowValid_any (x0 : Int) (x1 : Bool) (x2 x3 : Int) (w : World) : Calls Try.prog 42 #[.agg #[.int .i64 x0, .bool x1, .int .i64 x2, .int .i64 x3]] w (Ret (.bool (rowB ⟨x0, x1, x2, x3⟩)) w) := by
  unfold rowB
  cases b1 : inB x0 1 1000 <;> cases b2 : inB x2 0 1000 <;> cases b3 : inB x3 0 1000
  all_goals
    go_enter Try.func42, Try.ntmps42
    go_wp2_with (first | (go_at_call 28; refine (in_any _ _ _ _).mono ?_; rintro e w' ⟨rfl, rfl⟩) | (go_at_call 29; refine (isHeight_any _ _).mono ?_; rintro e w' ⟨rfl, rfl⟩))
    go_ret
    exact ⟨by simp, (Below.refl _ _).alloc (Nat.le_refl _) _⟩

theorem specRowValid_any (x0 : Int) (x1 : Bool) (x2 x3 : Int) (w : World) : Calls Try.prog 41 #[.agg #[.int .i64 x0, .bool x1, .int .i64 x2, .int .i64 x3]] w (Ret (.bool (rowB ⟨x0, x1, x2, x3⟩)) w) := by
  unfold rowB
  cases b1 : inB x0 1 1000 <;> cases b2 : inB x2 0 1000 <;> cases b3 : inB x3 0 1000
  all_goals
    go_enter Try.func41, Try.ntmps41
    go_wp2_with (first | (go_at_call 27; refine (l1In_any _ _ _ _).mono ?_; rintro e w' ⟨rfl, rfl⟩) | (go_at_call 29; refine (isHeight_any _ _).mono ?_; rintro e w' ⟨rfl, rfl⟩))
    go_ret
    exact ⟨by simp, (Below.refl _ _).alloc (Nat.le_refl _) _⟩

set_option maxHeartbeats 2000000 in
theorem implRowsValid_any (v : Value) (xs : List DRow) (w : World) (h : SRow 4 encRow w v xs) : Calls Try.prog 36 #[v] w (Ret (.bool (rowsB xs)) w) := by
  have hb30 : rowsB xs = (xs.all rowB && decide (xs.length ≤ 30)) := rfl
  by_cases h0 : xs.length = 0
  · obtain rfl : xs = [] := List.eq_nil_of_length_eq_zero h0
    obtain ⟨a, cap, rfl⟩ := h.empty
    clear h h0 hb30
    go_enter Try.func36, Try.ntmps36
    go_wp2
    refine wp_loop_rounds 1 ?_
    rw [rounds_succ]
    go_wp2
    go_ret
    exact ⟨rfl, Below.refl _ _⟩
  · have hsz := h.len
    obtain ⟨b, off, cap, rfl, hbl, hc⟩ := h.pos encRow_pos (by omega)
    obtain ⟨n, hn⟩ : ∃ n, n = xs.length := ⟨_, rfl⟩
    rw [← hn] at hsz h0 hb30 ⊢
    have HC := Lib.hid hc
    have HN := Lib.hid hn
    have HB := Lib.hid hb30
    clear hn hc h hb30
    go_enter Try.func36, Try.ntmps36
    go_wp2
    go_loopw [7] (fun i wr => ∃ k : Nat, k ≤ n ∧ i = .int .i64 k ∧ Hid (∀ j (hj : j < xs.length), j < k → rowB xs[j] = true) ∧ Below w.heap.size w wr) (fun i _ => n - (intOf i).toNat)
    case atStart => exact ⟨0, Nat.zero_le _, rfl, fun j _ hj => absurd hj (Nat.not_lt_zero _), Below.refl _ _⟩
    case round =>
      obtain ⟨k, hk, rfl, hall, hb⟩ := hrel
      by_cases hlt : k < n
      · have hk' : k < xs.length := by rw [← HN.out]; exact hlt
        have q := HC.out k hk'
        obtain ⟨x, hx⟩ : ∃ x, x = xs[k] := ⟨_, rfl⟩
        rw [← hx] at q
        have r : ∀ i u, (encRow x)[i]? = some u → wr.cell? ⟨b, off + k * 4 + i, none⟩ = some u := fun i u hu => (hb.cell (p := ⟨b, off + k * 4 + i, none⟩) hbl).trans (q i u hu)
        have c0 : wr.cell? ⟨b, off + k * 4, none⟩ = some (.int .i64 x.f0) := by simpa using r 0 _ rfl
        have c1 : wr.cell? ⟨b, off + k * 4 + 1, none⟩ = some (.bool x.f1) := by simpa using r 1 _ rfl
        have c2 : wr.cell? ⟨b, off + k * 4 + 2, none⟩ = some (.int .i64 x.f2) := by simpa using r 2 _ rfl
        have c3 : wr.cell? ⟨b, off + k * 4 + 3, none⟩ = some (.int .i64 x.f3) := by simpa using r 3 _ rfl
        have hbr : b < wr.heap.size := by have := hb.size; omega
        have HX := Lib.hid hx
        have HB2 := Lib.hid hb
        clear q r hx hb
        go_wp2_with fail
        refine (implRowValid_any x.f0 x.f1 x.f2 x.f3 _).mono ?_
        rintro e w1 ⟨rfl, b1⟩
        have hb1 : Below w.heap.size w w1 := (HB2.out.alloc (by have := HB2.out.size; omega) _).trans (b1.mono (by have := HB2.out.size; simp; omega))
        have HB1 := Lib.hid hb1
        clear b1 hb1
        cases hv : rowB x
        · have e : rowsB xs = false := by
            unfold rowsB
            rw [Bool.and_eq_false_iff]
            left
            rw [List.all_eq_false]
            exact ⟨xs[k], List.getElem_mem hk', by rw [← HX.out, hv]; decide⟩
          have E := Lib.hid e
          clear e
          go_wp2
          go_ret
          exact ⟨by rw [E.out]; rfl, HB1.out⟩
        · have hall2 : Hid (∀ (j : Nat) (hj : j < xs.length), j < k + 1 → rowB xs[j] = true) := by
            intro j hj hjk
            by_cases hjk2 : j < k
            · exact hall.out j hj hjk2
            · obtain rfl : j = k := by omega
              rw [← HX.out, hv]
          clear hall
          go_wp2
          go_roundw
          case rel => exact ⟨k + 1, by omega, by go_num, hall2, HB1.out⟩
          case measure => simp [intOf]; omega
      · have e : rowsB xs = decide (n ≤ 30) := by
          rw [HB.out]
          have : xs.all rowB = true := by
            rw [List.all_eq_true]
            intro y hy
            obtain ⟨j, hj, rfl⟩ := List.getElem_of_mem hy
            exact hall.out j hj (by have := HN.out; omega)
          rw [this, Bool.true_and]
        have hd : decide ((n : Int) ≤ 30) = decide (n ≤ 30) := decide_eq_decide.2 (by omega)
        have E := Lib.hid (e.trans hd.symm)
        clear HC HB hall hd e
        go_wp2
        go_ret
        exact ⟨by rw [E.out]; rfl, hb⟩

set_option maxHeartbeats 2000000 in
theorem specRowsValid_any (v : Value) (xs : List DRow) (w : World) (h : SRow 4 encRow w v xs) : Calls Try.prog 34 #[v] w (Ret (.bool (rowsB xs)) w) := by
  have hb30 : rowsB xs = (xs.all rowB && decide (xs.length ≤ 30)) := rfl
  by_cases h0 : xs.length = 0
  · obtain rfl : xs = [] := List.eq_nil_of_length_eq_zero h0
    obtain ⟨a, cap, rfl⟩ := h.empty
    clear h h0 hb30
    go_enter Try.func34, Try.ntmps34
    go_wp2
    refine wp_loop_rounds 1 ?_
    rw [rounds_succ]
    go_wp2
    go_ret
    exact ⟨rfl, Below.refl _ _⟩
  · have hsz := h.len
    obtain ⟨b, off, cap, rfl, hbl, hc⟩ := h.pos encRow_pos (by omega)
    obtain ⟨n, hn⟩ : ∃ n, n = xs.length := ⟨_, rfl⟩
    rw [← hn] at hsz h0 hb30 ⊢
    have HC := Lib.hid hc
    have HN := Lib.hid hn
    have HB := Lib.hid hb30
    clear hn hc h hb30
    go_enter Try.func34, Try.ntmps34
    go_wp2
    go_loopw [3] (fun i wr => ∃ k : Nat, k ≤ n ∧ i = .int .i64 k ∧ Hid (∀ j (hj : j < xs.length), j < k → rowB xs[j] = true) ∧ Below w.heap.size w wr) (fun i _ => n - (intOf i).toNat)
    case atStart => exact ⟨0, Nat.zero_le _, rfl, fun j _ hj => absurd hj (Nat.not_lt_zero _), Below.refl _ _⟩
    case round =>
      obtain ⟨k, hk, rfl, hall, hb⟩ := hrel
      by_cases hlt : k < n
      · have hk' : k < xs.length := by rw [← HN.out]; exact hlt
        have q := HC.out k hk'
        obtain ⟨x, hx⟩ : ∃ x, x = xs[k] := ⟨_, rfl⟩
        rw [← hx] at q
        have r : ∀ i u, (encRow x)[i]? = some u → wr.cell? ⟨b, off + k * 4 + i, none⟩ = some u := fun i u hu => (hb.cell (p := ⟨b, off + k * 4 + i, none⟩) hbl).trans (q i u hu)
        have c0 : wr.cell? ⟨b, off + k * 4, none⟩ = some (.int .i64 x.f0) := by simpa using r 0 _ rfl
        have c1 : wr.cell? ⟨b, off + k * 4 + 1, none⟩ = some (.bool x.f1) := by simpa using r 1 _ rfl
        have c2 : wr.cell? ⟨b, off + k * 4 + 2, none⟩ = some (.int .i64 x.f2) := by simpa using r 2 _ rfl
        have c3 : wr.cell? ⟨b, off + k * 4 + 3, none⟩ = some (.int .i64 x.f3) := by simpa using r 3 _ rfl
        have hbr : b < wr.heap.size := by have := hb.size; omega
        have HX := Lib.hid hx
        have HB2 := Lib.hid hb
        clear q r hx hb
        go_wp2_with fail
        refine (specRowValid_any x.f0 x.f1 x.f2 x.f3 _).mono ?_
        rintro e w1 ⟨rfl, b1⟩
        have hb1 : Below w.heap.size w w1 := HB2.out.trans (b1.mono HB2.out.size)
        have HB1 := Lib.hid hb1
        clear b1 hb1
        cases hv : rowB x
        · have e : rowsB xs = false := by
            unfold rowsB
            rw [Bool.and_eq_false_iff]
            left
            rw [List.all_eq_false]
            exact ⟨xs[k], List.getElem_mem hk', by rw [← HX.out, hv]; decide⟩
          have E := Lib.hid e
          clear e
          go_wp2
          go_ret
          exact ⟨by rw [E.out]; rfl, HB1.out⟩
        · have hall2 : Hid (∀ (j : Nat) (hj : j < xs.length), j < k + 1 → rowB xs[j] = true) := by
            intro j hj hjk
            by_cases hjk2 : j < k
            · exact hall.out j hj hjk2
            · obtain rfl : j = k := by omega
              rw [← HX.out, hv]
          clear hall
          go_wp2
          go_roundw
          case rel => exact ⟨k + 1, by omega, by go_num, hall2, HB1.out⟩
          case measure => simp [intOf]; omega
      · have e : rowsB xs = decide (n ≤ 30) := by
          rw [HB.out]
          have : xs.all rowB = true := by
            rw [List.all_eq_true]
            intro y hy
            obtain ⟨j, hj, rfl⟩ := List.getElem_of_mem hy
            exact hall.out j hj (by have := HN.out; omega)
          rw [this, Bool.true_and]
        have hd : decide ((n : Int) ≤ 30) = decide (n ≤ 30) := decide_eq_decide.2 (by omega)
        have E := Lib.hid (e.trans hd.symm)
        clear HC HB hall hd e
        go_wp2
        go_ret
        exact ⟨by rw [E.out]; rfl, hb⟩
end Go.Proofs.Ytkbpmpndfcdpkaa

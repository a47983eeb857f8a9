/-
  PROVED HERE: rows of titles: compared, marked, copied, counted. Conditions: each theorem's own.
-/
import Derived.Test.YtfallcoehmmbeaaDoorTitA
import Derived.Test.YtfallcoehmmbeaaDoorMarkX
import Derived.Test.YtfallcoehmmbeaaDoorSRow
import Derived.Test.YtfallcoehmmbeaaDoorOpenS
import Derived.StillTailTactics
import Derived.OwnWalk
set_option linter.unusedVariables false
set_option linter.unusedSimpArgs false
namespace Go.Proofs.YtfallcoehmmbeaaDoor
open Go.RowKit
open Go.ChangeShapes Go.WideShapes Go.Deep
set_option maxRecDepth 100000

/-- What a Title holds. -/
structure DTitle where
  f0 : List UInt8
  f1 : Int
  f2 : Int
/-- Its cells. -/
def encTitle (x : DTitle) : List Value := [.string (bs x.f0), .int .i64 x.f1, .int .i64 x.f2]
theorem encTitle_len (x : DTitle) : (encTitle x).length = 3 := rfl
theorem encTitle_pos (x : DTitle) : 0 < (encTitle x).length := by rw [encTitle_len]; decide
theorem setTitle_run (A R : List Value) (c0 c1 c2 v0 v1 v2 : Value) (n : Nat) (h : A.length = n) : (((A ++ (c0 :: c1 :: c2 :: R)).set n v0).set (n + 1) v1).set (n + 2) v2 = A ++ (v0 :: v1 :: v2 :: R) := by
  subst h
  simp
/-- One is overwritten. -/
theorem putTitle_run (xs : List DTitle) (j : Nat) (h : j < xs.length) (y : DTitle) (M : List Value) (hM : M = xs.flatMap encTitle) :
    ((M.set (j * 3) (.string (bs y.f0))).set (j * 3 + 1) (.int .i64 y.f1)).set (j * 3 + 2) (.int .i64 y.f2) = (xs.set j y).flatMap encTitle := by
  subst hM
  have e1 : xs = xs.take j ++ (xs[j] :: xs.drop (j + 1)) := by rw [← List.drop_eq_getElem_cons h, List.take_append_drop]
  have e2 : xs.set j y = xs.take j ++ (y :: xs.drop (j + 1)) := by
    rw [List.set_eq_take_append_cons_drop, if_pos h]
  have e := setTitle_run ((xs.take j).flatMap encTitle) ((xs.drop (j + 1)).flatMap encTitle) (.string (bs xs[j].f0)) (.int .i64 xs[j].f1) (.int .i64 xs[j].f2) (.string (bs y.f0)) (.int .i64 y.f1) (.int .i64 y.f2) (j * 3) (by rw [flatMap_len encTitle 3 _ (fun x _ => encTitle_len x), List.length_take]; omega)
  rw [e2]
  conv => lhs; rw [e1]
  rw [List.flatMap_append, List.flatMap_cons, List.flatMap_append, List.flatMap_cons]
  simp only [encTitle, List.cons_append, List.nil_append] at e ⊢
  exact e

theorem eqTitle_any (x0 : List UInt8) (x1 : Int) (x2 : Int) (w : World) : Calls Tryd.prog 21 #[.agg #[.string (bs x0), .int .i64 x1, .int .i64 x2], .agg #[.string (bs x0), .int .i64 x1, .int .i64 x2]] w (Ret (.bool true) w) := by
  go_enter Tryd.func21, Tryd.ntmps21
  go_wp2
  go_ret
  exact ⟨rfl, by repeat (first | exact Below.refl _ _ | apply Below.drew | (refine Below.alloc ?_ (by simp) _))⟩

set_option maxHeartbeats 1000000 in
/-- Two rows that read alike are found to be equal. -/
theorem eqTitleS_any (v1 v2 : Value) (xs : List DTitle) (w : World) (h1 : SRow 3 encTitle w v1 xs) (h2 : SRow 3 encTitle w v2 xs) :
    Calls Tryd.prog 28 #[v1, v2] w (Ret (.bool true) w) := by
  by_cases h0 : xs.length = 0
  · obtain rfl : xs = [] := List.eq_nil_of_length_eq_zero h0
    obtain ⟨a, cap, rfl⟩ := h1.empty
    obtain ⟨a', cap', rfl⟩ := h2.empty
    clear h1 h2 h0
    go_enter Tryd.func28, Tryd.ntmps28
    go_wp2
    refine wp_loop_rounds 1 ?_
    rw [rounds_succ]
    go_wp2
    go_ret
    exact ⟨rfl, Below.refl _ _⟩
  · have hsz : xs.length ≤ 9223372036854775807 := h1.len
    obtain ⟨b, off, cap, rfl, hbl, hc⟩ := h1.pos encTitle_pos (by omega)
    obtain ⟨b', off', cap', rfl, hbl', hc'⟩ := h2.pos encTitle_pos (by omega)
    obtain ⟨n, hn⟩ : ∃ n, n = xs.length := ⟨_, rfl⟩
    rw [← hn] at hsz h0 ⊢
    have HC := Lib.hid hc
    have HC' := Lib.hid hc'
    have HN := Lib.hid hn
    clear hn hc hc' h1 h2
    go_enter Tryd.func28, Tryd.ntmps28
    go_wp2
    go_loopw [5] (fun i wr => ∃ k : Nat, k ≤ n ∧ i = .int .i64 k ∧ Below w.heap.size w wr) (fun i _ => n - (intOf i).toNat)
    case atStart => exact ⟨0, Nat.zero_le _, rfl, Below.refl _ _⟩
    case round =>
      obtain ⟨k, hk, rfl, hb⟩ := hrel
      by_cases hlt : k < n
      · have hk' : k < xs.length := by rw [← HN.out]; exact hlt
        have q := HC.out k hk'
        have q' := HC'.out k hk'
        obtain ⟨x, hx⟩ : ∃ x, x = xs[k] := ⟨_, rfl⟩
        rw [← hx] at q q'
        have r : ∀ i u, (encTitle x)[i]? = some u → wr.cell? ⟨b, off + k * 3 + i, none⟩ = some u := fun i u hu => (hb.cell (p := ⟨b, off + k * 3 + i, none⟩) hbl).trans (q i u hu)
        have r' : ∀ i u, (encTitle x)[i]? = some u → wr.cell? ⟨b', off' + k * 3 + i, none⟩ = some u := fun i u hu => (hb.cell (p := ⟨b', off' + k * 3 + i, none⟩) hbl').trans (q' i u hu)
        have c0 : wr.cell? ⟨b, off + k * 3, none⟩ = some (.string (bs x.f0)) := by simpa using r 0 _ rfl
        have c1 : wr.cell? ⟨b, off + k * 3 + 1, none⟩ = some (.int .i64 x.f1) := by simpa using r 1 _ rfl
        have c2 : wr.cell? ⟨b, off + k * 3 + 2, none⟩ = some (.int .i64 x.f2) := by simpa using r 2 _ rfl
        have d0 : wr.cell? ⟨b', off' + k * 3, none⟩ = some (.string (bs x.f0)) := by simpa using r' 0 _ rfl
        have d1 : wr.cell? ⟨b', off' + k * 3 + 1, none⟩ = some (.int .i64 x.f1) := by simpa using r' 1 _ rfl
        have d2 : wr.cell? ⟨b', off' + k * 3 + 2, none⟩ = some (.int .i64 x.f2) := by simpa using r' 2 _ rfl
        clear q q' r r' hx
        go_wp2
        go_still_tail 8, (by kernel_rfl)
        change wpList _ _ _ _ _ wr.drew
        go_wp2_with (go_at_call 21; refine (eqTitle_any _ _ _ _).mono ?_; rintro e w1 ⟨rfl, hb1⟩)
        have hb2 : Below w.heap.size w w1 := (hb.drew).trans ((by assumption : Below wr.drew.heap.size wr.drew w1).mono (by have := hb.size; exact this))
        go_roundw
        case rel => exact ⟨k + 1, by omega, by go_num, hb2⟩
        case measure => simp [intOf]; omega
      · clear HC HC'
        go_wp2
        go_ret
        exact ⟨rfl, hb⟩

theorem info_Title : (Tryd.prog.info? 26).map (fun i => (i.zero, i.size, i.bytes)) = some (some (.agg #[.string ByteArray.empty, .int .i64 0, .int .i64 0]), 3, 32) := by kernel_rfl
theorem take_set_succTitle (ys : List Value) (m : Nat) (v : Value) (h : m < ys.length) : (ys.set m v).take (m + 1) = ys.take m ++ [v] := by
  rw [List.take_succ_eq_append_getElem (by simpa using h), List.take_set_of_le (Nat.le_refl _)]
  simp
/-- It returns a row of its own that reads as xs, and turns nothing that was there. -/
def OwnTitle (xs : List DTitle) (w : World) (e : Ending) (w' : World) : Prop :=
  ∃ v, e = .returned v ∧ w'.ownsRow w.heap.size 26 3 v xs.length (xs.flatMap encTitle) ∧ Below w.heap.size w w'

set_option maxHeartbeats 4000000 in
theorem toTitleS_any (v : Value) (xs : List DTitle) (w : World) (h : SRow 3 encTitle w v xs) (hx : xs.length ≤ 1048576) : Calls Tryd.prog 25 #[v] w (OwnTitle xs w) := by
  obtain ⟨i0, hi, hz0, hz1, hz2⟩ := info_parts info_Title
  obtain ⟨n, hn⟩ : ∃ n, n = xs.length := ⟨_, rfl⟩
  have HN := Lib.hid hn
  by_cases h0 : xs.length = 0
  · obtain rfl : xs = [] := List.eq_nil_of_length_eq_zero h0
    obtain ⟨a, cap, rfl⟩ := h.empty
    clear h h0 hn HN hx
    go_enter Tryd.func25, Tryd.ntmps25
    go_wp2_with (at_make; refine wpList_make_full _ rfl _ _ 48 rfl w.heap.size 26 i0 (.agg #[.string ByteArray.empty, .int .i64 0, .int .i64 0]) 3 Tryd.underlying48 hi hz0 hz1 .i64 .i64 _ _ 0 rfl rfl rfl rfl (by rw [hz2]; omega) (by unfold maxLen; omega) (Nat.le_refl _) ?_; intro w1 hown1 hgrow1)
    have OW := Lib.hid hown1
    have HG := Lib.hid hgrow1
    clear hown1 hgrow1
    refine wp_loop_rounds 1 ?_
    rw [rounds_succ]
    go_wp2
    go_ret
    exact ⟨_, rfl, by simpa [madeCells] using OW.out, below_of_grown HG.out (Nat.le_refl _)⟩
  · obtain ⟨b, off, cap, rfl, hbl, hc⟩ := h.pos encTitle_pos (by omega)
    rw [← hn] at hx h0 ⊢
    have HC := Lib.hid hc
    clear hn hc h
    go_enter Tryd.func25, Tryd.ntmps25
    go_wp2_with (at_make; refine wpList_make_full _ rfl _ _ 48 rfl w.heap.size 26 i0 (.agg #[.string ByteArray.empty, .int .i64 0, .int .i64 0]) 3 Tryd.underlying48 hi hz0 hz1 .i64 .i64 _ _ n rfl rfl rfl rfl (by rw [hz2]; omega) (by unfold maxLen; omega) (Nat.le_refl _) ?_; intro w1 hown1 hgrow1)
    have hb1 : Below w.heap.size w w1 := below_of_grown hgrow1 (Nat.le_refl _)
    obtain ⟨g, hg⟩ : ∃ g, g = w.heap.size := ⟨_, rfl⟩
    have hown2 : ∃ ys : List Value, ys.take (0 * 3) = (xs.take 0).flatMap encTitle ∧ w1.ownsRow w.heap.size 26 3 (.slice (some ⟨g, 0, none⟩) n n) n ys := ⟨_, by simp, by rw [hg]; exact hown1⟩
    have OW := Lib.hid hown2
    have HB := Lib.hid hb1
    have HGE := Lib.hid hg
    rw [← hg]
    clear hown1 hgrow1 hown2 hb1 hg
    go_loopw [4] (fun i wr => ∃ k : Nat, k ≤ n ∧ i = .int .i64 k ∧ Hid (∃ ys : List Value, ys.take (k * 3) = (xs.take k).flatMap encTitle ∧ wr.ownsRow w.heap.size 26 3 (.slice (some ⟨g, 0, none⟩) n n) n ys) ∧ Below w.heap.size w wr) (fun i _ => n - (intOf i).toNat)
    case atStart => exact ⟨0, Nat.zero_le _, rfl, OW.out, HB.out⟩
    case round =>
      obtain ⟨k, hk, rfl, ho, hb⟩ := hrel
      by_cases hlt : k < n
      · have hk' : k < xs.length := by rw [← HN.out]; exact hlt
        have q := HC.out k hk'
        obtain ⟨x, hx2⟩ : ∃ x, x = xs[k] := ⟨_, rfl⟩
        rw [← hx2] at q
        have r : ∀ i u, (encTitle x)[i]? = some u → wr.cell? ⟨b, off + k * 3 + i, none⟩ = some u := fun i u hu => (hb.cell (p := ⟨b, off + k * 3 + i, none⟩) hbl).trans (q i u hu)
        have c0 : wr.cell? ⟨b, off + k * 3, none⟩ = some (.string (bs x.f0)) := by simpa using r 0 _ rfl
        have c1 : wr.cell? ⟨b, off + k * 3 + 1, none⟩ = some (.int .i64 x.f1) := by simpa using r 1 _ rfl
        have c2 : wr.cell? ⟨b, off + k * 3 + 2, none⟩ = some (.int .i64 x.f2) := by simpa using r 2 _ rfl
        have HX := Lib.hid hx2
        have HO := Lib.hid ho.out
        have HB2 := Lib.hid hb
        clear q r hx2 ho hb
        go_wp2_with fail
        refine (toTitle_any (bs x.f0) x.f1 x.f2 wr).mono ?_
        rintro e w2 ⟨rfl, b2⟩
        obtain ⟨ys, hys, how⟩ := HO.out
        have ow2 := owns_below how b2
        have hyl : ys.length = n * 3 := ow2.1
        have hys2 : ys.take (k * 3) = (xs.take k).flatMap encTitle := hys
        have e0 : ∃ u, w2.cell? ⟨g, k * 3, none⟩ = some u := ⟨_, (ow2.cellAt (k * 3) (by omega)).trans (List.getElem?_eq_getElem (by omega))⟩
        obtain ⟨u0, e0⟩ := e0
        have z0 := ow2.frozenAt (k * 3)
        have s0 := ow2.stored (k * 3) (.string (bs x.f0))
        have e1 : ∃ u, w2.cell? ⟨g, k * 3 + 1, none⟩ = some u := ⟨_, (ow2.cellAt (k * 3 + 1) (by omega)).trans (List.getElem?_eq_getElem (by omega))⟩
        obtain ⟨u1, e1⟩ := e1
        have z1 := ow2.frozenAt (k * 3 + 1)
        have s1 := s0.1.stored (k * 3 + 1) (.int .i64 x.f1)
        have e2 : ∃ u, w2.cell? ⟨g, k * 3 + 2, none⟩ = some u := ⟨_, (ow2.cellAt (k * 3 + 2) (by omega)).trans (List.getElem?_eq_getElem (by omega))⟩
        obtain ⟨u2, e2⟩ := e2
        have z2 := ow2.frozenAt (k * 3 + 2)
        have s2 := s1.1.stored (k * 3 + 2) (.int .i64 x.f2)
        have t0 : (ys.set (k * 3) (.string (bs x.f0))).take (k * 3 + 1) = (xs.take k).flatMap encTitle ++ [.string (bs x.f0)] := by
          rw [take_set_succTitle _ _ _ (by first | omega | (simp; omega)), hys2]
        have t1 : ((ys.set (k * 3) (.string (bs x.f0))).set (k * 3 + 1) (.int .i64 x.f1)).take (k * 3 + 2) = (xs.take k).flatMap encTitle ++ [.string (bs x.f0), .int .i64 x.f1] := by
          rw [take_set_succTitle _ _ _ (by first | omega | (simp; omega)), t0]
          simp
        have t2 : (((ys.set (k * 3) (.string (bs x.f0))).set (k * 3 + 1) (.int .i64 x.f1)).set (k * 3 + 2) (.int .i64 x.f2)).take (k * 3 + 3) = (xs.take k).flatMap encTitle ++ [.string (bs x.f0), .int .i64 x.f1, .int .i64 x.f2] := by
          rw [take_set_succTitle _ _ _ (by first | omega | (simp; omega)), t1]
          simp
        have tk : (xs.take (k + 1)).flatMap encTitle = (xs.take k).flatMap encTitle ++ encTitle x := by
          rw [List.take_succ_eq_append_getElem hk', List.flatMap_append, ← HX.out]
          simp
        have fin : Hid (∃ ys : List Value, ys.take ((k + 1) * 3) = (xs.take (k + 1)).flatMap encTitle ∧ World.ownsRow _ w.heap.size 26 3 (.slice (some ⟨g, 0, none⟩) n n) n ys) := ⟨_, by rw [tk, Nat.add_mul, Nat.one_mul]; exact t2, s2.1⟩
        have hgw : w.heap.size ≤ g := by rw [HGE.out]; exact Nat.le_refl _
        have bfin := ((((below_next HB2.out b2 (Nat.le_refl _)).grown s0.2 (by have := HB2.out.size; have := b2.size; simp; omega) (fun j hj => by cases hj; exact hgw)).grown s1.2 (by have := HB2.out.size; have := b2.size; simp; omega) (fun j hj => by cases hj; exact hgw)).grown s2.2 (by have := HB2.out.size; have := b2.size; simp; omega) (fun j hj => by cases hj; exact hgw))
        have BF := Lib.hid bfin
        clear s0 s1 s2 t0 t1 t2 ow2 how b2 bfin tk hys hys2 hyl
        go_wp2
        go_roundw
        case rel => exact ⟨k + 1, by omega, by go_num, fin, BF.out⟩
        case measure => simp [intOf]; omega
      · obtain rfl : k = n := by omega
        obtain ⟨ys, hys, how⟩ := ho.out
        have e : ys = xs.flatMap encTitle := by
          have hyl : ys.length = k * 3 := how.1
          rw [List.take_of_length_le (by omega), List.take_of_length_le (by have := HN.out; omega)] at hys
          exact hys
        have HOW := Lib.hid how
        have HE := Lib.hid e
        clear ho hys how HC e
        go_wp2
        go_ret
        exact ⟨_, rfl, by rw [← HE.out, ← HN.out]; exact HOW.out, hb⟩

/-- Each text is of a size that a string can have. -/
def ShortT (xs : List DTitle) : Prop := ∀ x ∈ xs, x.f0.length ≤ 9223372036854775807
def szTL : Int → List DTitle → Int
  | l, [] => l
  | l, x :: t => if l < x.f0.length then -1 else szTL (l - x.f0.length) t
theorem szTL_bd : ∀ (xs : List DTitle) (l : Int), 0 ≤ l → szTL l xs = -1 ∨ (0 ≤ szTL l xs ∧ ∀ x ∈ xs, (x.f0.length : Int) ≤ l)
  | [], l, h => .inr ⟨by rw [szTL]; exact h, fun s hs => by cases hs⟩
  | x :: t, l, h => by
    rw [szTL]
    split
    · exact .inl rfl
    · rename_i hc
      rcases szTL_bd t (l - x.f0.length) (by omega) with h1 | ⟨h1, h2⟩
      · exact .inl h1
      · refine .inr ⟨h1, fun s hs => ?_⟩
        rcases List.mem_cons.1 hs with rfl | hs
        · omega
        · have := h2 s hs; omega
/-- The count is below zero; or there are not many titles, none long. -/
def SzTPost (xs : List DTitle) (w : World) (e : Ending) (w' : World) : Prop := (∃ r : Int, e = .returned (.int .i64 r) ∧ (r = -1 ∨ (0 ≤ r ∧ xs.length ≤ 1048576 ∧ ∀ x ∈ xs, x.f0.length ≤ 1048576))) ∧ Below w.heap.size w w'

set_option maxHeartbeats 2000000 in
theorem szTitleS_any (v : Value) (xs : List DTitle) (w : World) (h : SRow 3 encTitle w v xs) (hx : ShortT xs) : Calls Tryd.prog 23 #[v, .int .i64 1048576] w (SzTPost xs w) := by
  by_cases h0 : xs.length = 0
  · obtain rfl : xs = [] := List.eq_nil_of_length_eq_zero h0
    obtain ⟨a, cap, rfl⟩ := h.empty
    clear h h0 hx
    go_enter Tryd.func23, Tryd.ntmps23
    go_wp2
    refine wp_loop_rounds 1 ?_
    rw [rounds_succ]
    go_wp2
    go_ret
    exact ⟨⟨_, rfl, .inr ⟨by omega, by simp, fun x hx => by cases hx⟩⟩, Below.refl _ _⟩
  · have hsz := h.len
    obtain ⟨b, off, cap, rfl, hbl, hc⟩ := h.pos encTitle_pos (by omega)
    obtain ⟨n, hn⟩ : ∃ n, n = xs.length := ⟨_, rfl⟩
    have HX := Lib.hid hx
    rw [← hn] at hsz h0 ⊢
    have HC := Lib.hid hc
    have HN := Lib.hid hn
    clear hn hc h hx
    by_cases hneg : (1048576 : Int) - (n : Int) < 0
    · go_enter Tryd.func23, Tryd.ntmps23
      go_wp2
      go_ret
      exact ⟨⟨_, rfl, .inl rfl⟩, Below.refl _ _⟩
    · have BD := Lib.hid (szTL_bd xs (1048576 - n) (by omega))
      go_enter Tryd.func23, Tryd.ntmps23
      go_wp2
      go_loopw [1, 5] (fun lf i wr => ∃ (k : Nat) (q : Int), k ≤ n ∧ i = .int .i64 k ∧ lf = .int .i64 q ∧ 0 ≤ q ∧ q ≤ 1048576 ∧ Hid (szTL (1048576 - n) xs = szTL q (xs.drop k)) ∧ Hid (Below w.heap.size w wr)) (fun _ i _ => n - (intOf i).toNat)
      case atStart => exact ⟨0, _, Nat.zero_le _, rfl, rfl, by omega, by omega, rfl, Below.refl _ _⟩
      case round =>
        obtain ⟨k, q, hk, rfl, rfl, hq0, hq1, hs, hb⟩ := hrel
        by_cases hlt : k < n
        · have hk' : k < xs.length := by rw [← HN.out]; exact hlt
          have c := HC.out k hk'
          have hd : xs.drop k = xs[k] :: xs.drop (k + 1) := List.drop_eq_getElem_cons hk'
          have hsx := HX.out xs[k] (List.getElem_mem hk')
          have s2 := hs.out
          rw [hd, szTL] at s2
          obtain ⟨x, hx'⟩ : ∃ s, s = xs[k] := ⟨_, rfl⟩
          rw [← hx'] at c hsx s2
          have r : ∀ i u, (encTitle x)[i]? = some u → wr.cell? ⟨b, off + k * 3 + i, none⟩ = some u := fun i u hu => (hb.out.cell (p := ⟨b, off + k * 3 + i, none⟩) hbl).trans (c i u hu)
          have c0 : wr.cell? ⟨b, off + k * 3, none⟩ = some (.string (bs x.f0)) := by simpa using r 0 _ rfl
          have c1 : wr.cell? ⟨b, off + k * 3 + 1, none⟩ = some (.int .i64 x.f1) := by simpa using r 1 _ rfl
          have c2 : wr.cell? ⟨b, off + k * 3 + 2, none⟩ = some (.int .i64 x.f2) := by simpa using r 2 _ rfl
          have SZ := Lib.hid (fun w => szTitle_any x.f0 x.f1 x.f2 q (by omega) hq0 (by omega) w)
          have S2 := Lib.hid s2
          clear c r hd s2 hs hx'
          by_cases hneg2 : q < (x.f0.length : Int)
          · have S3 := S2.out
            rw [if_pos hneg2] at S3 SZ
            have b0 := BD.out
            rw [S3] at b0
            clear S2 S3
            go_wp2_with (go_at_call 10; refine (SZ.out _).mono ?_)
            rintro e w1 ⟨rfl, b1⟩
            have B1 := Lib.hid (below_next hb.out b1 (Nat.le_refl _))
            clear b1 c0 c1 c2
            go_wp2
            go_ret
            exact ⟨⟨_, rfl, .inl rfl⟩, B1.out⟩
          · have S3 := S2.out
            rw [if_neg hneg2] at S3 SZ
            have S4 := Lib.hid S3
            clear S3 S2
            go_wp2_with (go_at_call 10; refine (SZ.out _).mono ?_)
            rintro e w1 ⟨rfl, b1⟩
            have B1 := Lib.hid (below_next hb.out b1 (Nat.le_refl _))
            have hq2 : ¬ q - (x.f0.length : Int) < 0 := by omega
            clear b1 c0 c1 c2 hb
            go_wp2
            go_roundw
            case rel => exact ⟨k + 1, _, by omega, by go_num, rfl, by omega, by omega, S4.out, B1.out⟩
            case measure => simp [intOf]; omega
        · have e : szTL (1048576 - n) xs = q := by rw [hs.out, List.drop_of_length_le (by have := HN.out; omega), szTL]
          have b0 := BD.out
          rw [e] at b0
          have BB := Lib.hid b0
          clear e hs HC b0
          go_wp2
          go_ret
          refine ⟨⟨_, rfl, ?_⟩, hb.out⟩
          rcases BB.out with h1 | ⟨h1, h2⟩
          · exact .inl h1
          · exact .inr ⟨h1, by have := HN.out; omega, fun x hx => by have := h2 x hx; omega⟩

/-- What marking a row of titles leaves: a row of as many titles. -/
def MarkTitlePost (k : Int) (n base : Nat) (v : Value) (w : World) (e : Ending) (w' : World) : Prop :=
  ∃ ys : List DTitle, ys.length = n ∧ e = .returned (.int .i64 (k + 3 * n)) ∧ w'.ownsRow base 26 3 v n (ys.flatMap encTitle) ∧ w.grownBy w' v.ownBlock

set_option maxHeartbeats 4000000 in
theorem markTitleS_any (v : Value) (xs : List DTitle) (k : Int) (base : Nat) (w : World) (h : w.ownsRow base 26 3 v xs.length (xs.flatMap encTitle)) (hk : 1 ≤ k) (hk2 : k ≤ 100000000) (hx : xs.length ≤ 100000000) :
    Calls Tryd.prog 29 #[v, .int .i64 k] w (MarkTitlePost k xs.length base v w) := by
  by_cases h0 : xs.length = 0
  · obtain rfl : xs = [] := List.eq_nil_of_length_eq_zero h0
    obtain ⟨a, cap, rfl⟩ : ∃ a cap, v = .slice a 0 cap := (SRow.of_owns encTitle_len rfl h).empty
    have HH := Lib.hid h
    clear h h0 hx
    go_enter Tryd.func29, Tryd.ntmps29
    go_wp2
    refine wp_loop_rounds 1 ?_
    rw [rounds_succ]
    go_wp2
    go_ret
    exact ⟨[], rfl, by simp, HH.out, grownBy_refl _ _⟩
  · obtain ⟨n, hn⟩ : ∃ n, n = xs.length := ⟨_, rfl⟩
    rw [← hn] at h hx h0 ⊢
    obtain ⟨g, cap, rfl⟩ : ∃ g cap, v = .slice (some ⟨g, 0, none⟩) n cap := by
      rcases h.2 with ⟨_, e⟩ | ⟨g, cap, _, e, _⟩
      · omega
      · exact ⟨g, cap, e⟩
    have HH : Hid (∃ ys : List DTitle, ys.length = n ∧ w.ownsRow base 26 3 (.slice (some ⟨g, 0, none⟩) n cap) n (ys.flatMap encTitle)) := ⟨xs, hn.symm, h⟩
    clear h hn
    go_enter Tryd.func29, Tryd.ntmps29
    go_wp2
    go_loopw [1, 5] (fun kk i wr => ∃ j : Nat, j ≤ n ∧ i = .int .i64 j ∧ kk = .int .i64 (k + 3 * j) ∧ Hid (∃ ys : List DTitle, ys.length = n ∧ wr.ownsRow base 26 3 (.slice (some ⟨g, 0, none⟩) n cap) n (ys.flatMap encTitle)) ∧ w.grownBy wr (some g)) (fun _ i _ => n - (intOf i).toNat)
    case atStart => exact ⟨0, Nat.zero_le _, rfl, by simp, HH.out, grownBy_refl _ _⟩
    case round =>
      obtain ⟨j, hj, rfl, rfl, ho, hg⟩ := hrel
      by_cases hlt : j < n
      · have HG := Lib.hid hg
        clear hg
        go_wp2_with fail
        refine (markText_any (k + 3 * j) _ (by omega) (by omega)).mono ?_
        rintro e w1 ⟨s, rfl, b1⟩
        obtain ⟨l, rfl⟩ : ∃ l, s = bs l := ⟨s.data.toList, rfl⟩
        obtain ⟨ys, hys, how⟩ := ho.out
        have how1 := owns_below how b1
        have hlen : (ys.flatMap encTitle).length = n * 3 := how1.1
        have e0 : ∃ u, w1.cell? ⟨g, j * 3, none⟩ = some u := ⟨_, (how1.cellAt (j * 3) (by omega)).trans (List.getElem?_eq_getElem (by omega))⟩
        have e1 : ∃ u, w1.cell? ⟨g, j * 3 + 1, none⟩ = some u := ⟨_, (how1.cellAt (j * 3 + 1) (by omega)).trans (List.getElem?_eq_getElem (by omega))⟩
        have e2 : ∃ u, w1.cell? ⟨g, j * 3 + 2, none⟩ = some u := ⟨_, (how1.cellAt (j * 3 + 2) (by omega)).trans (List.getElem?_eq_getElem (by omega))⟩
        obtain ⟨u0, e0⟩ := e0
        obtain ⟨u1, e1⟩ := e1
        obtain ⟨u2, e2⟩ := e2
        have z0 := how1.frozenAt (j * 3)
        have z1 := how1.frozenAt (j * 3 + 1)
        have z2 := how1.frozenAt (j * 3 + 2)
        have s0 := how1.stored (j * 3) (.string (bs l))
        have s1 := s0.1.stored (j * 3 + 1) (.int .i64 (k + 3 * j + 1))
        have s2 := s1.1.stored (j * 3 + 2) (.int .i64 (k + 3 * j + 1 + 1))
        have own := s2.1
        rw [putTitle_run ys j (by omega) ⟨l, k + 3 * j + 1, k + 3 * j + 1 + 1⟩ _ rfl] at own
        have hg2 := grownBy_trans (grownBy_trans (grownBy_trans (grownBy_trans HG.out (grown_of_below b1 _)) s0.2) s1.2) s2.2
        have OWN := Lib.hid own
        have HG2 := Lib.hid hg2
        have HL : Hid ((ys.set j ⟨l, k + 3 * j + 1, k + 3 * j + 1 + 1⟩).length = n) := by show _ = _; rw [List.length_set]; exact hys
        clear own hg2 s0 s1 s2 ho how how1 hys b1 hlen
        go_wp2
        go_roundw
        case rel => exact ⟨j + 1, by omega, by go_num, by go_num, ⟨_, HL.out, OWN.out⟩, HG2.out⟩
        case measure => simp [intOf]; omega
      · obtain rfl : j = n := by omega
        have HG := Lib.hid hg
        clear hg
        go_wp2
        go_ret
        obtain ⟨ys, hys, how⟩ := ho.out
        exact ⟨ys, hys, rfl, how, HG.out⟩

theorem one_Title {H : Type} {en : TypeId × Value → H} {w : World} {base : Nat} {spare : Nat → Bool} {held : Bool} (cs : List Value) (y : DataW H × List MemPlace) (n : Nat) (h : DataW.trod en Tryd.prog w base spare held n 23 cs = some y) : ∃ z : DTitle, cs = encTitle z ∧ z.f0.length ≤ 9223372036854775807 := by
  obtain ⟨xs, k, _, _, hl, hxl, hf⟩ := DataW.trod_struct Tryd.underlying23 h
  have c : Tryd.prog.cellsOf 23 = 3 := by kernel_rfl
  have k_s : Tryd.prog.cellsOf 9 = 1 := by kernel_rfl
  have k_int : Tryd.prog.cellsOf 3 = 1 := by kernel_rfl
  rw [c] at hl
  match cs, xs, hl, hxl with
  | [c0, c1, c2], [y0, y1, y2], _, _ =>
    have g0 := hf 0 _ rfl
    try simp [k_s] at g0
    obtain ⟨z0, e0, hz0⟩ := DataW.trod_string Tryd.underlying9 g0
    try simp at e0
    have g1 := hf 1 _ rfl
    try simp at g1
    obtain ⟨z1, e1, _⟩ := DataW.trod_int Tryd.underlying3 g1
    try simp [k_int] at e1
    have g2 := hf 2 _ rfl
    try simp [k_int] at g2
    obtain ⟨z2, e2, _⟩ := DataW.trod_int Tryd.underlying3 g2
    try simp at e2
    subst e0 e1 e2
    refine ⟨⟨z0.data.toList, z1, z2⟩, rfl, ?_⟩
    have h2 := hz0.2
    unfold maxLen at h2
    have e : z0.data.toList.length = z0.size := by rw [Array.length_toList]; rfl
    show z0.data.toList.length ≤ _
    omega
end Go.Proofs.YtfallcoehmmbeaaDoor

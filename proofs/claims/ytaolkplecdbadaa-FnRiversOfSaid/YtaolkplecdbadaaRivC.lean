/-
  PROVED HERE: rivers: compared, marked, held against their marks. Conditions: each theorem's own.
-/
import Derived.Test.YtaolkplecdbadaaCore
import Derived.Test.YtaolkplecdbadaaSRow
import Derived.StillTailTactics
import Derived.OwnWalk
namespace Go.Proofs.Ytaolkplecdbadaa
open Go.RowKit

/-- What a River holds. -/
structure DRiver where
  f0 : Int
  f1 : Int
  f2 : Int
/-- Its cells. -/
def encRiver (x : DRiver) : List Value := [.int .i64 x.f0, .int .i64 x.f1, .int .i64 x.f2]
theorem encRiver_len (x : DRiver) : (encRiver x).length = 3 := rfl
theorem encRiver_pos (x : DRiver) : 0 < (encRiver x).length := by rw [encRiver_len]; decide
/-- The marks of one that is marked from k on. -/
def mkRiver (k : Int) : DRiver := ⟨k, k + 1, k + 2⟩
def mkLRiver (k : Int) (n : Nat) : List DRiver := (List.range n).map fun j : Nat => mkRiver (k + 3 * (j : Int))
theorem mkLRiver_len (k : Int) (n : Nat) : (mkLRiver k n).length = n := by simp [mkLRiver]
theorem mkLRiver_succ (k : Int) (n : Nat) : mkLRiver k (n + 1) = mkLRiver k n ++ [mkRiver (k + 3 * (n : Int))] := by simp [mkLRiver, List.range_succ]
theorem mkLRiver_get (k : Int) (n j : Nat) (h : j < (mkLRiver k n).length) : (mkLRiver k n)[j] = mkRiver (k + 3 * (j : Int)) := by simp [mkLRiver]
theorem setRiver_run (A R : List Value) (c0 c1 c2 v0 v1 v2 : Value) (n : Nat) (h : A.length = n) : ((((A ++ (c0 :: c1 :: c2 :: R)).set n v0).set (n + 1) v1).set (n + 2) v2) = A ++ (v0 :: v1 :: v2 :: R) := by
  subst h
  simp
/-- One more is marked. -/
theorem markRiver_run (k : Int) (xs : List DRiver) (j : Nat) (h : j < xs.length) (M : List Value) (hM : M = (mkLRiver k j ++ xs.drop j).flatMap encRiver) :
    (((M.set (j * 3) (.int .i64 (mkRiver (k + 3 * (j : Int))).f0)).set (j * 3 + 1) (.int .i64 (mkRiver (k + 3 * (j : Int))).f1)).set (j * 3 + 2) (.int .i64 (mkRiver (k + 3 * (j : Int))).f2)) = (mkLRiver k (j + 1) ++ xs.drop (j + 1)).flatMap encRiver := by
  subst hM
  rw [List.flatMap_append, List.drop_eq_getElem_cons h, List.flatMap_cons]
  have e := setRiver_run ((mkLRiver k j).flatMap encRiver) ((xs.drop (j + 1)).flatMap encRiver) (.int .i64 xs[j].f0) (.int .i64 xs[j].f1) (.int .i64 xs[j].f2) (.int .i64 (mkRiver (k + 3 * (j : Int))).f0) (.int .i64 (mkRiver (k + 3 * (j : Int))).f1) (.int .i64 (mkRiver (k + 3 * (j : Int))).f2) (j * 3) (by rw [flatMap_len encRiver 3 _ (fun x _ => encRiver_len x), mkLRiver_len])
  simp only [encRiver, List.cons_append, List.nil_append] at e ⊢
  rw [e, mkLRiver_succ, List.flatMap_append]
  simp [encRiver]

theorem eqRiver_any (x0 : Int) (x1 : Int) (x2 : Int) (w : World) : Calls Try.prog 56 #[.agg #[.int .i64 x0, .int .i64 x1, .int .i64 x2], .agg #[.int .i64 x0, .int .i64 x1, .int .i64 x2]] w (Ret (.bool true) w) := by
  go_enter Try.func56, Try.ntmps56
  go_wp2
  go_ret
  exact ⟨rfl, by repeat (first | exact Below.refl _ _ | apply Below.drew | (refine Below.alloc ?_ (by simp) _))⟩

set_option maxHeartbeats 1000000 in
/-- Two rows that read alike are found to be equal. -/
theorem eqRiverS_any (v1 v2 : Value) (xs : List DRiver) (w : World) (h1 : SRow 3 encRiver w v1 xs) (h2 : SRow 3 encRiver w v2 xs) :
    Calls Try.prog 34 #[v1, v2] w (Ret (.bool true) w) := by
  by_cases h0 : xs.length = 0
  · obtain rfl : xs = [] := List.eq_nil_of_length_eq_zero h0
    obtain ⟨a, cap, rfl⟩ := h1.empty
    obtain ⟨a', cap', rfl⟩ := h2.empty
    clear h1 h2 h0
    go_enter Try.func34, Try.ntmps34
    go_wp2
    refine wp_loop_rounds 1 ?_
    rw [rounds_succ]
    go_wp2
    go_ret
    exact ⟨rfl, Below.refl _ _⟩
  · have hsz : xs.length ≤ 9223372036854775807 := h1.len
    obtain ⟨b, off, cap, rfl, hbl, hc⟩ := h1.pos encRiver_pos (by omega)
    obtain ⟨b', off', cap', rfl, hbl', hc'⟩ := h2.pos encRiver_pos (by omega)
    obtain ⟨n, hn⟩ : ∃ n, n = xs.length := ⟨_, rfl⟩
    rw [← hn] at hsz h0 ⊢
    have HC := Lib.hid hc
    have HC' := Lib.hid hc'
    have HN := Lib.hid hn
    clear hn hc hc' h1 h2
    go_enter Try.func34, Try.ntmps34
    go_wp2
    go_loopw [5] (fun i wr => ∃ k : Nat, k ≤ n ∧ i = .int .i64 k ∧ Below w.heap.size w wr) (fun i _ => n - (intOf i).toNat)
    case atStart => exact ⟨0, Nat.zero_le _, rfl, Below.refl _ _⟩
    case round =>
      obtain ⟨k, hk, rfl, hb⟩ := hrel
      by_cases hlt : k < n
      · have hk' : k < xs.length := by rw [← HN.out]; exact hlt
        have q := HC.out k hk'
        have q' := HC'.out k hk'
        obtain ⟨x, hx⟩ : ∃ x, x = xs[k] := ⟨_, rfl⟩
        rw [← hx] at q q'
        have r : ∀ i u, (encRiver x)[i]? = some u → wr.cell? ⟨b, off + k * 3 + i, none⟩ = some u := fun i u hu => (hb.cell (p := ⟨b, off + k * 3 + i, none⟩) hbl).trans (q i u hu)
        have r' : ∀ i u, (encRiver x)[i]? = some u → wr.cell? ⟨b', off' + k * 3 + i, none⟩ = some u := fun i u hu => (hb.cell (p := ⟨b', off' + k * 3 + i, none⟩) hbl').trans (q' i u hu)
        have c0 : wr.cell? ⟨b, off + k * 3, none⟩ = some (.int .i64 x.f0) := by simpa using r 0 _ rfl
        have c1 : wr.cell? ⟨b, off + k * 3 + 1, none⟩ = some (.int .i64 x.f1) := by simpa using r 1 _ rfl
        have c2 : wr.cell? ⟨b, off + k * 3 + 2, none⟩ = some (.int .i64 x.f2) := by simpa using r 2 _ rfl
        have d0 : wr.cell? ⟨b', off' + k * 3, none⟩ = some (.int .i64 x.f0) := by simpa using r' 0 _ rfl
        have d1 : wr.cell? ⟨b', off' + k * 3 + 1, none⟩ = some (.int .i64 x.f1) := by simpa using r' 1 _ rfl
        have d2 : wr.cell? ⟨b', off' + k * 3 + 2, none⟩ = some (.int .i64 x.f2) := by simpa using r' 2 _ rfl
        clear q q' r r' hx
        go_wp2
        go_still_tail 8, (by kernel_rfl)
        change wpList _ _ _ _ _ wr.drew
        go_wp2_with (go_at_call 56; refine (eqRiver_any _ _ _ _).mono ?_; rintro e w1 ⟨rfl, hb1⟩)
        have hb2 : Below w.heap.size w w1 := (hb.drew).trans ((by assumption : Below wr.drew.heap.size wr.drew w1).mono (by have := hb.size; exact this))
        go_roundw
        case rel => exact ⟨k + 1, by omega, by go_num, hb2⟩
        case measure => simp [intOf]; omega
      · clear HC HC'
        go_wp2
        go_ret
        exact ⟨rfl, hb⟩

/-- What marking a row leaves. -/
def MarkRiverPost (k : Int) (n base : Nat) (v : Value) (w : World) (e : Ending) (w' : World) : Prop :=
  e = .returned (.int .i64 (k + 3 * n)) ∧ w'.ownsRow base 50 3 v n ((mkLRiver k n).flatMap encRiver) ∧ w.grownBy w' v.ownBlock

set_option maxHeartbeats 2000000 in
theorem markRiverS_any (v : Value) (xs : List DRiver) (k : Int) (base : Nat) (w : World) (h : w.ownsRow base 50 3 v xs.length (xs.flatMap encRiver)) (hk : 0 ≤ k) (hk2 : k ≤ 1000000000) (hx : xs.length ≤ 1000000000) :
    Calls Try.prog 36 #[v, .int .i64 k] w (MarkRiverPost k xs.length base v w) := by
  by_cases h0 : xs.length = 0
  · obtain rfl : xs = [] := List.eq_nil_of_length_eq_zero h0
    obtain ⟨a, cap, rfl⟩ : ∃ a cap, v = .slice a 0 cap := (SRow.of_owns encRiver_len rfl h).empty
    have HH := Lib.hid h
    clear h h0 hx
    go_enter Try.func36, Try.ntmps36
    go_wp2
    refine wp_loop_rounds 1 ?_
    rw [rounds_succ]
    go_wp2
    go_ret
    exact ⟨by simp, HH.out, grownBy_refl _ _⟩
  · obtain ⟨n, hn⟩ : ∃ n, n = xs.length := ⟨_, rfl⟩
    rw [← hn] at h hx h0 ⊢
    obtain ⟨g, cap, rfl⟩ : ∃ g cap, v = .slice (some ⟨g, 0, none⟩) n cap := by
      rcases h.2 with ⟨_, e⟩ | ⟨g, cap, _, e, _⟩
      · omega
      · exact ⟨g, cap, e⟩
    have HN := Lib.hid hn
    have HH := Lib.hid h
    clear h hn
    go_enter Try.func36, Try.ntmps36
    go_wp2
    go_loopw [1, 5] (fun kk i wr => ∃ j : Nat, j ≤ n ∧ i = .int .i64 j ∧ kk = .int .i64 (k + 3 * j) ∧ Hid (wr.ownsRow base 50 3 (.slice (some ⟨g, 0, none⟩) n cap) n ((mkLRiver k j ++ xs.drop j).flatMap encRiver)) ∧ w.grownBy wr (some g)) (fun _ i _ => n - (intOf i).toNat)
    case atStart => exact ⟨0, Nat.zero_le _, rfl, by simp, HH.out, grownBy_refl _ _⟩
    case round =>
      obtain ⟨j, hj, rfl, rfl, ho, hg⟩ := hrel
      by_cases hlt : j < n
      · have hlen : ((mkLRiver k j ++ xs.drop j).flatMap encRiver).length = n * 3 := ho.out.1
        have e0 : ∃ u, wr.cell? ⟨g, j * 3, none⟩ = some u := ⟨_, (ho.out.cellAt (j * 3) (by omega)).trans (List.getElem?_eq_getElem (by omega))⟩
        obtain ⟨u0, e0⟩ := e0
        have z0 := ho.out.frozenAt (j * 3)
        have e1 : ∃ u, wr.cell? ⟨g, j * 3 + 1, none⟩ = some u := ⟨_, (ho.out.cellAt (j * 3 + 1) (by omega)).trans (List.getElem?_eq_getElem (by omega))⟩
        obtain ⟨u1, e1⟩ := e1
        have z1 := ho.out.frozenAt (j * 3 + 1)
        have e2 : ∃ u, wr.cell? ⟨g, j * 3 + 2, none⟩ = some u := ⟨_, (ho.out.cellAt (j * 3 + 2) (by omega)).trans (List.getElem?_eq_getElem (by omega))⟩
        obtain ⟨u2, e2⟩ := e2
        have z2 := ho.out.frozenAt (j * 3 + 2)
        have s0 := ho.out.stored (j * 3) (.int .i64 (mkRiver (k + 3 * (j : Int))).f0)
        have s1 := s0.1.stored (j * 3 + 1) (.int .i64 (mkRiver (k + 3 * (j : Int))).f1)
        have s2 := s1.1.stored (j * 3 + 2) (.int .i64 (mkRiver (k + 3 * (j : Int))).f2)
        have own := s2.1
        rw [markRiver_run k xs j (by rw [← HN.out]; exact hlt) _ rfl] at own
        have hg2 := hg
        have hg2 := grownBy_trans hg2 s0.2
        have hg2 := grownBy_trans hg2 s1.2
        have hg2 := grownBy_trans hg2 s2.2
        simp only [mkRiver] at own hg2
        have OWN := Lib.hid own
        have HG := Lib.hid hg2
        clear own hg2 s0 s1 s2 ho hg hlen
        go_wp2
        go_roundw
        case rel => exact ⟨j + 1, by omega, by go_num, by go_num, by show World.ownsRow _ _ _ _ _ _ _; simpa [Int.add_assoc] using OWN.out, by simpa [Int.add_assoc] using HG.out⟩
        case measure => simp [intOf]; omega
      · obtain rfl : j = n := by omega
        have ho2 : wr.ownsRow base 50 3 (.slice (some ⟨g, 0, none⟩) j cap) j ((mkLRiver k j).flatMap encRiver) := by
          have h := ho.out
          rw [List.drop_of_length_le (by rw [← HN.out]; omega), List.append_nil] at h
          exact h
        have HO := Lib.hid ho2
        have HG := Lib.hid hg
        clear ho ho2 hg
        go_wp2
        go_ret
        exact ⟨rfl, HO.out, HG.out⟩

set_option maxHeartbeats 2000000 in
/-- A row that reads as its marks is found to be so. -/
theorem heldRiverS_any (v : Value) (n : Nat) (k : Int) (w : World) (h : SRow 3 encRiver w v (mkLRiver k n)) (hk : 0 ≤ k) (hk2 : k ≤ 1000000000) (hx : n ≤ 1000000000) :
    Calls Try.prog 37 #[v, .int .i64 k] w (Ret (.int .i64 (k + 3 * n)) w) := by
  by_cases h0 : n = 0
  · subst h0
    obtain ⟨a, cap, rfl⟩ := h.empty
    clear h hx
    go_enter Try.func37, Try.ntmps37
    go_wp2
    refine wp_loop_rounds 1 ?_
    rw [rounds_succ]
    go_wp2
    go_ret
    exact ⟨by simp, Below.refl _ _⟩
  · obtain ⟨b, off, cap, rfl, hbl, hc⟩ := h.pos encRiver_pos (by rw [mkLRiver_len]; omega)
    rw [mkLRiver_len] at ⊢
    have HC := Lib.hid hc
    clear hc h
    go_enter Try.func37, Try.ntmps37
    go_wp2
    go_loop [1, 5] (fun kk i => ∃ j : Nat, j ≤ n ∧ i = .int .i64 j ∧ kk = .int .i64 (k + 3 * j)) (fun _ i => n - (intOf i).toNat)
    case atStart => exact ⟨0, Nat.zero_le _, rfl, by simp⟩
    case round =>
      obtain ⟨j, hj, rfl, rfl⟩ := hrel
      by_cases hlt : j < n
      · have q := HC.out j (by rw [mkLRiver_len]; exact hlt)
        rw [mkLRiver_get] at q
        have c0 : w.cell? ⟨b, off + j * 3, none⟩ = some (.int .i64 (k + 3 * (j : Int))) := by simpa [mkRiver] using q 0 _ rfl
        have c1 : w.cell? ⟨b, off + j * 3 + 1, none⟩ = some (.int .i64 (k + 3 * (j : Int) + 1)) := by simpa [mkRiver] using q 1 _ rfl
        have c2 : w.cell? ⟨b, off + j * 3 + 2, none⟩ = some (.int .i64 (k + 3 * (j : Int) + 2)) := by simpa [mkRiver] using q 2 _ rfl
        clear q
        go_wp2
        go_round
        case rel => exact ⟨j + 1, by omega, by go_num, by go_num⟩
        case measure => simp [intOf]; omega
      · obtain rfl : j = n := by omega
        go_wp2
        go_ret
        exact ⟨rfl, Below.refl _ _⟩

theorem info_River : (Try.prog.info? 50).map (fun i => (i.zero, i.size, i.bytes)) = some (some (.agg #[.int .i64 0, .int .i64 0, .int .i64 0]), 3, 24) := by kernel_rfl
theorem take_set_succRiver (ys : List Value) (m : Nat) (v : Value) (h : m < ys.length) : (ys.set m v).take (m + 1) = ys.take m ++ [v] := by
  rw [List.take_succ_eq_append_getElem (by simpa using h), List.take_set_of_le (Nat.le_refl _)]
  simp
/-- It returns a row of its own that reads as xs, and turns nothing that was there. -/
def OwnRiver (xs : List DRiver) (w : World) (e : Ending) (w' : World) : Prop :=
  ∃ v, e = .returned v ∧ w'.ownsRow w.heap.size 50 3 v xs.length (xs.flatMap encRiver) ∧ Below w.heap.size w w'
end Go.Proofs.Ytaolkplecdbadaa

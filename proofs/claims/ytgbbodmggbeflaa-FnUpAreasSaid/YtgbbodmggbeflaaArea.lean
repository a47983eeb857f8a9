/-
  PROVED HERE: areas: compared, marked, held against their marks. Conditions: each theorem's own.
-/
import Derived.Test.YtgbbodmggbeflaaCore
import Derived.Test.YtgbbodmggbeflaaSRow
import Derived.StillTailTactics
import Derived.OwnWalk
set_option linter.unusedVariables false
set_option linter.unusedSimpArgs false
namespace Go.Proofs.Ytgbbodmggbeflaa
open Go.RowKit

/-- What a Area holds. -/
structure DArea where
  f0 : Int
  f1 : Int
  f2 : Int
  f3 : Int
/-- Its cells. -/
def encArea (x : DArea) : List Value := [.int .i64 x.f0, .int .i64 x.f1, .int .i64 x.f2, .int .i64 x.f3]
theorem encArea_len (x : DArea) : (encArea x).length = 4 := rfl
theorem encArea_pos (x : DArea) : 0 < (encArea x).length := by rw [encArea_len]; decide
/-- The marks of one that is marked from k on. -/
def mkArea (k : Int) : DArea := ⟨k, k + 1, k + 2, k + 3⟩
def mkLArea (k : Int) (n : Nat) : List DArea := (List.range n).map fun j : Nat => mkArea (k + 4 * (j : Int))
theorem mkLArea_len (k : Int) (n : Nat) : (mkLArea k n).length = n := by simp [mkLArea]
theorem mkLArea_succ (k : Int) (n : Nat) : mkLArea k (n + 1) = mkLArea k n ++ [mkArea (k + 4 * (n : Int))] := by simp [mkLArea, List.range_succ]
theorem mkLArea_get (k : Int) (n j : Nat) (h : j < (mkLArea k n).length) : (mkLArea k n)[j] = mkArea (k + 4 * (j : Int)) := by simp [mkLArea]
theorem setArea_run (A R : List Value) (c0 c1 c2 c3 v0 v1 v2 v3 : Value) (n : Nat) (h : A.length = n) : (((((A ++ (c0 :: c1 :: c2 :: c3 :: R)).set n v0).set (n + 1) v1).set (n + 2) v2).set (n + 3) v3) = A ++ (v0 :: v1 :: v2 :: v3 :: R) := by
  subst h
  simp
/-- One more is marked. -/
theorem markArea_run (k : Int) (xs : List DArea) (j : Nat) (h : j < xs.length) (M : List Value) (hM : M = (mkLArea k j ++ xs.drop j).flatMap encArea) :
    ((((M.set (j * 4) (.int .i64 (mkArea (k + 4 * (j : Int))).f0)).set (j * 4 + 1) (.int .i64 (mkArea (k + 4 * (j : Int))).f1)).set (j * 4 + 2) (.int .i64 (mkArea (k + 4 * (j : Int))).f2)).set (j * 4 + 3) (.int .i64 (mkArea (k + 4 * (j : Int))).f3)) = (mkLArea k (j + 1) ++ xs.drop (j + 1)).flatMap encArea := by
  subst hM
  rw [List.flatMap_append, List.drop_eq_getElem_cons h, List.flatMap_cons]
  have e := setArea_run ((mkLArea k j).flatMap encArea) ((xs.drop (j + 1)).flatMap encArea) (.int .i64 xs[j].f0) (.int .i64 xs[j].f1) (.int .i64 xs[j].f2) (.int .i64 xs[j].f3) (.int .i64 (mkArea (k + 4 * (j : Int))).f0) (.int .i64 (mkArea (k + 4 * (j : Int))).f1) (.int .i64 (mkArea (k + 4 * (j : Int))).f2) (.int .i64 (mkArea (k + 4 * (j : Int))).f3) (j * 4) (by rw [flatMap_len encArea 4 _ (fun x _ => encArea_len x), mkLArea_len])
  simp only [encArea, List.cons_append, List.nil_append] at e ⊢
  rw [e, mkLArea_succ, List.flatMap_append]
  simp [encArea]

theorem eqArea_any (x0 : Int) (x1 : Int) (x2 : Int) (x3 : Int) (w : World) : Calls Try.prog 54 #[.agg #[.int .i64 x0, .int .i64 x1, .int .i64 x2, .int .i64 x3], .agg #[.int .i64 x0, .int .i64 x1, .int .i64 x2, .int .i64 x3]] w (Ret (.bool true) w) := by
  go_enter Try.func54, Try.ntmps54
  go_wp2
  go_ret
  exact ⟨rfl, by repeat (first | exact Below.refl _ _ | apply Below.drew | (refine Below.alloc ?_ (by simp) _))⟩

set_option maxHeartbeats 1000000 in
/-- Two rows that read alike are found to be equal. -/
theorem eqAreaS_any (v1 v2 : Value) (xs : List DArea) (w : World) (h1 : SRow 4 encArea w v1 xs) (h2 : SRow 4 encArea w v2 xs) :
    Calls Try.prog 28 #[v1, v2] w (Ret (.bool true) w) := by
  by_cases h0 : xs.length = 0
  · obtain rfl : xs = [] := List.eq_nil_of_length_eq_zero h0
    obtain ⟨a, cap, rfl⟩ := h1.empty
    obtain ⟨a', cap', rfl⟩ := h2.empty
    clear h1 h2 h0
    go_enter Try.func28, Try.ntmps28
    go_wp2
    refine wp_loop_rounds 1 ?_
    rw [rounds_succ]
    go_wp2
    go_ret
    exact ⟨rfl, Below.refl _ _⟩
  · have hsz : xs.length ≤ 9223372036854775807 := h1.len
    obtain ⟨b, off, cap, rfl, hbl, hc⟩ := h1.pos encArea_pos (by omega)
    obtain ⟨b', off', cap', rfl, hbl', hc'⟩ := h2.pos encArea_pos (by omega)
    obtain ⟨n, hn⟩ : ∃ n, n = xs.length := ⟨_, rfl⟩
    rw [← hn] at hsz h0 ⊢
    have HC := Lib.hid hc
    have HC' := Lib.hid hc'
    have HN := Lib.hid hn
    clear hn hc hc' h1 h2
    go_enter Try.func28, Try.ntmps28
    go_wp2
    go_loopw [5] (fun i wr => ∃ k : Nat, k ≤ n ∧ i = .int .i64 k ∧ Below w.heap.size w wr) (fun i _ => n - (intOf i).toNat)
    case atStart => exact ⟨0, Nat.zero_le _, rfl, Below.refl _ _⟩
    case round =>
      obtain ⟨k, hk, rfl, hb⟩ := hrel
      by_cases hlt : k < n
      · have hk' : k < xs.length := by rw [← HN.out]; exact hlt
        have q := HC.out k hk'
        have q' := HC'.out k hk'
        obtain ⟨x, hx⟩ : ∃ x, x = xs[k] := ⟨_, rfl⟩
        rw [← hx] at q q'
        have r : ∀ i u, (encArea x)[i]? = some u → wr.cell? ⟨b, off + k * 4 + i, none⟩ = some u := fun i u hu => (hb.cell (p := ⟨b, off + k * 4 + i, none⟩) hbl).trans (q i u hu)
        have r' : ∀ i u, (encArea x)[i]? = some u → wr.cell? ⟨b', off' + k * 4 + i, none⟩ = some u := fun i u hu => (hb.cell (p := ⟨b', off' + k * 4 + i, none⟩) hbl').trans (q' i u hu)
        have c0 : wr.cell? ⟨b, off + k * 4, none⟩ = some (.int .i64 x.f0) := by simpa using r 0 _ rfl
        have c1 : wr.cell? ⟨b, off + k * 4 + 1, none⟩ = some (.int .i64 x.f1) := by simpa using r 1 _ rfl
        have c2 : wr.cell? ⟨b, off + k * 4 + 2, none⟩ = some (.int .i64 x.f2) := by simpa using r 2 _ rfl
        have c3 : wr.cell? ⟨b, off + k * 4 + 3, none⟩ = some (.int .i64 x.f3) := by simpa using r 3 _ rfl
        have d0 : wr.cell? ⟨b', off' + k * 4, none⟩ = some (.int .i64 x.f0) := by simpa using r' 0 _ rfl
        have d1 : wr.cell? ⟨b', off' + k * 4 + 1, none⟩ = some (.int .i64 x.f1) := by simpa using r' 1 _ rfl
        have d2 : wr.cell? ⟨b', off' + k * 4 + 2, none⟩ = some (.int .i64 x.f2) := by simpa using r' 2 _ rfl
        have d3 : wr.cell? ⟨b', off' + k * 4 + 3, none⟩ = some (.int .i64 x.f3) := by simpa using r' 3 _ rfl
        clear q q' r r' hx
        go_wp2
        go_still_tail 8, (by kernel_rfl)
        change wpList _ _ _ _ _ wr.drew
        go_wp2_with (go_at_call 54; refine (eqArea_any _ _ _ _ _).mono ?_; rintro e w1 ⟨rfl, hb1⟩)
        have hb2 : Below w.heap.size w w1 := (hb.drew).trans ((by assumption : Below wr.drew.heap.size wr.drew w1).mono (by have := hb.size; exact this))
        go_roundw
        case rel => exact ⟨k + 1, by omega, by go_num, hb2⟩
        case measure => simp [intOf]; omega
      · clear HC HC'
        go_wp2
        go_ret
        exact ⟨rfl, hb⟩

set_option maxHeartbeats 1000000 in
/-- Two rows that read alike are found to be equal. -/
theorem sameAreas_any (v1 v2 : Value) (xs : List DArea) (w : World) (h1 : SRow 4 encArea w v1 xs) (h2 : SRow 4 encArea w v2 xs) :
    Calls Try.prog 32 #[v1, v2] w (Ret (.bool true) w) := by
  by_cases h0 : xs.length = 0
  · obtain rfl : xs = [] := List.eq_nil_of_length_eq_zero h0
    obtain ⟨a, cap, rfl⟩ := h1.empty
    obtain ⟨a', cap', rfl⟩ := h2.empty
    clear h1 h2 h0
    go_enter Try.func32, Try.ntmps32
    go_wp2
    refine wp_loop_rounds 1 ?_
    rw [rounds_succ]
    go_wp2
    go_ret
    exact ⟨rfl, Below.refl _ _⟩
  · have hsz : xs.length ≤ 9223372036854775807 := h1.len
    obtain ⟨b, off, cap, rfl, hbl, hc⟩ := h1.pos encArea_pos (by omega)
    obtain ⟨b', off', cap', rfl, hbl', hc'⟩ := h2.pos encArea_pos (by omega)
    obtain ⟨n, hn⟩ : ∃ n, n = xs.length := ⟨_, rfl⟩
    rw [← hn] at hsz h0 ⊢
    have HC := Lib.hid hc
    have HC' := Lib.hid hc'
    have HN := Lib.hid hn
    clear hn hc hc' h1 h2
    go_enter Try.func32, Try.ntmps32
    go_wp2
    go_loopw [5] (fun i wr => ∃ k : Nat, k ≤ n ∧ i = .int .i64 k ∧ Below w.heap.size w wr) (fun i _ => n - (intOf i).toNat)
    case atStart => exact ⟨0, Nat.zero_le _, rfl, Below.refl _ _⟩
    case round =>
      obtain ⟨k, hk, rfl, hb⟩ := hrel
      by_cases hlt : k < n
      · have hk' : k < xs.length := by rw [← HN.out]; exact hlt
        have q := HC.out k hk'
        have q' := HC'.out k hk'
        obtain ⟨x, hx⟩ : ∃ x, x = xs[k] := ⟨_, rfl⟩
        rw [← hx] at q q'
        have r : ∀ i u, (encArea x)[i]? = some u → wr.cell? ⟨b, off + k * 4 + i, none⟩ = some u := fun i u hu => (hb.cell (p := ⟨b, off + k * 4 + i, none⟩) hbl).trans (q i u hu)
        have r' : ∀ i u, (encArea x)[i]? = some u → wr.cell? ⟨b', off' + k * 4 + i, none⟩ = some u := fun i u hu => (hb.cell (p := ⟨b', off' + k * 4 + i, none⟩) hbl').trans (q' i u hu)
        have c0 : wr.cell? ⟨b, off + k * 4, none⟩ = some (.int .i64 x.f0) := by simpa using r 0 _ rfl
        have c1 : wr.cell? ⟨b, off + k * 4 + 1, none⟩ = some (.int .i64 x.f1) := by simpa using r 1 _ rfl
        have c2 : wr.cell? ⟨b, off + k * 4 + 2, none⟩ = some (.int .i64 x.f2) := by simpa using r 2 _ rfl
        have c3 : wr.cell? ⟨b, off + k * 4 + 3, none⟩ = some (.int .i64 x.f3) := by simpa using r 3 _ rfl
        have d0 : wr.cell? ⟨b', off' + k * 4, none⟩ = some (.int .i64 x.f0) := by simpa using r' 0 _ rfl
        have d1 : wr.cell? ⟨b', off' + k * 4 + 1, none⟩ = some (.int .i64 x.f1) := by simpa using r' 1 _ rfl
        have d2 : wr.cell? ⟨b', off' + k * 4 + 2, none⟩ = some (.int .i64 x.f2) := by simpa using r' 2 _ rfl
        have d3 : wr.cell? ⟨b', off' + k * 4 + 3, none⟩ = some (.int .i64 x.f3) := by simpa using r' 3 _ rfl
        clear q q' r r' hx
        go_wp2
        go_quiet (fail)
        go_wp2
        go_roundw
        case rel => exact ⟨k + 1, by omega, by go_num, below_drewN hb _⟩
        case measure => simp [intOf]; omega
      · clear HC HC'
        go_wp2
        go_ret
        exact ⟨rfl, hb⟩

/-- What marking a row leaves. -/
def MarkAreaPost (k : Int) (n base : Nat) (v : Value) (w : World) (e : Ending) (w' : World) : Prop :=
  e = .returned (.int .i64 (k + 4 * n)) ∧ w'.ownsRow base 44 4 v n ((mkLArea k n).flatMap encArea) ∧ w.grownBy w' v.ownBlock

set_option maxHeartbeats 2000000 in
theorem markAreaS_any (v : Value) (xs : List DArea) (k : Int) (base : Nat) (w : World) (h : w.ownsRow base 44 4 v xs.length (xs.flatMap encArea)) (hk : 0 ≤ k) (hk2 : k ≤ 1000000000) (hx : xs.length ≤ 1000000000) :
    Calls Try.prog 29 #[v, .int .i64 k] w (MarkAreaPost k xs.length base v w) := by
  by_cases h0 : xs.length = 0
  · obtain rfl : xs = [] := List.eq_nil_of_length_eq_zero h0
    obtain ⟨a, cap, rfl⟩ : ∃ a cap, v = .slice a 0 cap := (SRow.of_owns encArea_len rfl h).empty
    have HH := Lib.hid h
    clear h h0 hx
    go_enter Try.func29, Try.ntmps29
    go_wp2
    refine wp_loop_rounds 1 ?_
    rw [rounds_succ]
    go_wp2
    go_ret
    exact ⟨by simp, HH.out, grownBy_refl _ _⟩
  · obtain ⟨n, hn⟩ : ∃ n, n = xs.length := ⟨_, rfl⟩
    rw [← hn] at h hx h0 ⊢
    obtain ⟨g, cap, rfl⟩ : ∃ g cap, v = .slice (some ⟨g, 0, none⟩) n cap := by
      rcases h.2 with ⟨_, e⟩ | ⟨g, cap, _, e, _⟩
      · omega
      · exact ⟨g, cap, e⟩
    have HN := Lib.hid hn
    have HH := Lib.hid h
    clear h hn
    go_enter Try.func29, Try.ntmps29
    go_wp2
    go_loopw [1, 5] (fun kk i wr => ∃ j : Nat, j ≤ n ∧ i = .int .i64 j ∧ kk = .int .i64 (k + 4 * j) ∧ Hid (wr.ownsRow base 44 4 (.slice (some ⟨g, 0, none⟩) n cap) n ((mkLArea k j ++ xs.drop j).flatMap encArea)) ∧ w.grownBy wr (some g)) (fun _ i _ => n - (intOf i).toNat)
    case atStart => exact ⟨0, Nat.zero_le _, rfl, by simp, HH.out, grownBy_refl _ _⟩
    case round =>
      obtain ⟨j, hj, rfl, rfl, ho, hg⟩ := hrel
      by_cases hlt : j < n
      · have hlen : ((mkLArea k j ++ xs.drop j).flatMap encArea).length = n * 4 := ho.out.1
        have e0 : ∃ u, wr.cell? ⟨g, j * 4, none⟩ = some u := ⟨_, (ho.out.cellAt (j * 4) (by omega)).trans (List.getElem?_eq_getElem (by omega))⟩
        obtain ⟨u0, e0⟩ := e0
        have z0 := ho.out.frozenAt (j * 4)
        have e1 : ∃ u, wr.cell? ⟨g, j * 4 + 1, none⟩ = some u := ⟨_, (ho.out.cellAt (j * 4 + 1) (by omega)).trans (List.getElem?_eq_getElem (by omega))⟩
        obtain ⟨u1, e1⟩ := e1
        have z1 := ho.out.frozenAt (j * 4 + 1)
        have e2 : ∃ u, wr.cell? ⟨g, j * 4 + 2, none⟩ = some u := ⟨_, (ho.out.cellAt (j * 4 + 2) (by omega)).trans (List.getElem?_eq_getElem (by omega))⟩
        obtain ⟨u2, e2⟩ := e2
        have z2 := ho.out.frozenAt (j * 4 + 2)
        have e3 : ∃ u, wr.cell? ⟨g, j * 4 + 3, none⟩ = some u := ⟨_, (ho.out.cellAt (j * 4 + 3) (by omega)).trans (List.getElem?_eq_getElem (by omega))⟩
        obtain ⟨u3, e3⟩ := e3
        have z3 := ho.out.frozenAt (j * 4 + 3)
        have s0 := ho.out.stored (j * 4) (.int .i64 (mkArea (k + 4 * (j : Int))).f0)
        have s1 := s0.1.stored (j * 4 + 1) (.int .i64 (mkArea (k + 4 * (j : Int))).f1)
        have s2 := s1.1.stored (j * 4 + 2) (.int .i64 (mkArea (k + 4 * (j : Int))).f2)
        have s3 := s2.1.stored (j * 4 + 3) (.int .i64 (mkArea (k + 4 * (j : Int))).f3)
        have own := s3.1
        rw [markArea_run k xs j (by rw [← HN.out]; exact hlt) _ rfl] at own
        have hg2 := hg
        have hg2 := grownBy_trans hg2 s0.2
        have hg2 := grownBy_trans hg2 s1.2
        have hg2 := grownBy_trans hg2 s2.2
        have hg2 := grownBy_trans hg2 s3.2
        simp only [mkArea] at own hg2
        have OWN := Lib.hid own
        have HG := Lib.hid hg2
        clear own hg2 s0 s1 s2 s3 ho hg hlen
        go_wp2
        go_roundw
        case rel => exact ⟨j + 1, by omega, by go_num, by go_num, by show World.ownsRow _ _ _ _ _ _ _; simpa [Int.add_assoc] using OWN.out, by simpa [Int.add_assoc] using HG.out⟩
        case measure => simp [intOf]; omega
      · obtain rfl : j = n := by omega
        have ho2 : wr.ownsRow base 44 4 (.slice (some ⟨g, 0, none⟩) j cap) j ((mkLArea k j).flatMap encArea) := by
          have h := ho.out
          rw [List.drop_of_length_le (by rw [← HN.out]; omega), List.append_nil] at h
          exact h
        have HO := Lib.hid ho2
        have HG := Lib.hid hg
        clear ho ho2 hg
        go_wp2
        go_ret
        exact ⟨rfl, HO.out, HG.out⟩

set_option maxHeartbeats 2000000 in
/-- A row that reads as its marks is found to be so. -/
theorem heldAreaS_any (v : Value) (n : Nat) (k : Int) (w : World) (h : SRow 4 encArea w v (mkLArea k n)) (hk : 0 ≤ k) (hk2 : k ≤ 1000000000) (hx : n ≤ 1000000000) :
    Calls Try.prog 30 #[v, .int .i64 k] w (Ret (.int .i64 (k + 4 * n)) w) := by
  by_cases h0 : n = 0
  · subst h0
    obtain ⟨a, cap, rfl⟩ := h.empty
    clear h hx
    go_enter Try.func30, Try.ntmps30
    go_wp2
    refine wp_loop_rounds 1 ?_
    rw [rounds_succ]
    go_wp2
    go_ret
    exact ⟨by simp, Below.refl _ _⟩
  · obtain ⟨b, off, cap, rfl, hbl, hc⟩ := h.pos encArea_pos (by rw [mkLArea_len]; omega)
    rw [mkLArea_len] at ⊢
    have HC := Lib.hid hc
    clear hc h
    go_enter Try.func30, Try.ntmps30
    go_wp2
    go_loop [1, 5] (fun kk i => ∃ j : Nat, j ≤ n ∧ i = .int .i64 j ∧ kk = .int .i64 (k + 4 * j)) (fun _ i => n - (intOf i).toNat)
    case atStart => exact ⟨0, Nat.zero_le _, rfl, by simp⟩
    case round =>
      obtain ⟨j, hj, rfl, rfl⟩ := hrel
      by_cases hlt : j < n
      · have q := HC.out j (by rw [mkLArea_len]; exact hlt)
        rw [mkLArea_get] at q
        have c0 : w.cell? ⟨b, off + j * 4, none⟩ = some (.int .i64 (k + 4 * (j : Int))) := by simpa [mkArea] using q 0 _ rfl
        have c1 : w.cell? ⟨b, off + j * 4 + 1, none⟩ = some (.int .i64 (k + 4 * (j : Int) + 1)) := by simpa [mkArea] using q 1 _ rfl
        have c2 : w.cell? ⟨b, off + j * 4 + 2, none⟩ = some (.int .i64 (k + 4 * (j : Int) + 2)) := by simpa [mkArea] using q 2 _ rfl
        have c3 : w.cell? ⟨b, off + j * 4 + 3, none⟩ = some (.int .i64 (k + 4 * (j : Int) + 3)) := by simpa [mkArea] using q 3 _ rfl
        clear q
        go_wp2
        go_round
        case rel => exact ⟨j + 1, by omega, by go_num, by go_num⟩
        case measure => simp [intOf]; omega
      · obtain rfl : j = n := by omega
        go_wp2
        go_ret
        exact ⟨rfl, Below.refl _ _⟩
end Go.Proofs.Ytgbbodmggbeflaa

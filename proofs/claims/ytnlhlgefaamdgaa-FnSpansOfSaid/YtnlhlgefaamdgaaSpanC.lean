
/-
  PROVED HERE: ranges: compared, marked, copied, counted. Conditions: each theorem's own.
-/
import Derived.Test.YtnlhlgefaamdgaaSpanV
import Derived.Test.YtnlhlgefaamdgaaCore
import Derived.StillTailTactics
import Derived.OwnWalk
set_option linter.unusedVariables false
set_option linter.unusedSimpArgs false
namespace Go.Proofs.Ytnlhlgefaamdgaa
open Go.RowKit
set_option maxRecDepth 100000

theorem eqSpan_any (x0 : Int) (x1 : Int) (w : World) : Calls Try.prog 26 #[.agg #[.int .i64 x0, .int .i64 x1], .agg #[.int .i64 x0, .int .i64 x1]] w (Ret (.bool true) w) := by
  go_enter Try.func26, Try.ntmps26
  go_wp2
  go_ret
  exact ⟨rfl, by repeat (first | exact Below.refl _ _ | apply Below.drew | (refine Below.alloc ?_ (by simp) _))⟩

set_option maxHeartbeats 1000000 in
/-- Two rows that read alike are found to be equal. -/
theorem eqSpanS_any (v1 v2 : Value) (xs : List DSpan) (w : World) (h1 : SRow 2 encSpan w v1 xs) (h2 : SRow 2 encSpan w v2 xs) :
    Calls Try.prog 8 #[v1, v2] w (Ret (.bool true) w) := by
  by_cases h0 : xs.length = 0
  · obtain rfl : xs = [] := List.eq_nil_of_length_eq_zero h0
    obtain ⟨a, cap, rfl⟩ := h1.empty
    obtain ⟨a', cap', rfl⟩ := h2.empty
    clear h1 h2 h0
    go_enter Try.func8, Try.ntmps8
    go_wp2
    refine wp_loop_rounds 1 ?_
    rw [rounds_succ]
    go_wp2
    go_ret
    exact ⟨rfl, Below.refl _ _⟩
  · have hsz : xs.length ≤ 9223372036854775807 := h1.len
    obtain ⟨b, off, cap, rfl, hbl, hc⟩ := h1.pos encSpan_pos (by omega)
    obtain ⟨b', off', cap', rfl, hbl', hc'⟩ := h2.pos encSpan_pos (by omega)
    obtain ⟨n, hn⟩ : ∃ n, n = xs.length := ⟨_, rfl⟩
    rw [← hn] at hsz h0 ⊢
    have HC := Lib.hid hc
    have HC' := Lib.hid hc'
    have HN := Lib.hid hn
    clear hn hc hc' h1 h2
    go_enter Try.func8, Try.ntmps8
    go_wp2
    go_loopw [5] (fun i wr => ∃ k : Nat, k ≤ n ∧ i = .int .i64 k ∧ Below w.heap.size w wr) (fun i _ => n - (intOf i).toNat)
    case atStart => exact ⟨0, Nat.zero_le _, rfl, Below.refl _ _⟩
    case round =>
      obtain ⟨k, hk, rfl, hb⟩ := hrel
      by_cases hlt : k < n
      · have hk' : k < xs.length := by rw [← HN.out]; exact hlt
        have q := HC.out k hk'
        have q' := HC'.out k hk'
        obtain ⟨x, hx⟩ : ∃ x, x = xs[k] := ⟨_, rfl⟩
        rw [← hx] at q q'
        have r : ∀ i u, (encSpan x)[i]? = some u → wr.cell? ⟨b, off + k * 2 + i, none⟩ = some u := fun i u hu => (hb.cell (p := ⟨b, off + k * 2 + i, none⟩) hbl).trans (q i u hu)
        have r' : ∀ i u, (encSpan x)[i]? = some u → wr.cell? ⟨b', off' + k * 2 + i, none⟩ = some u := fun i u hu => (hb.cell (p := ⟨b', off' + k * 2 + i, none⟩) hbl').trans (q' i u hu)
        have c0 : wr.cell? ⟨b, off + k * 2, none⟩ = some (.int .i64 x.f0) := by simpa using r 0 _ rfl
        have c1 : wr.cell? ⟨b, off + k * 2 + 1, none⟩ = some (.int .i64 x.f1) := by simpa using r 1 _ rfl
        have d0 : wr.cell? ⟨b', off' + k * 2, none⟩ = some (.int .i64 x.f0) := by simpa using r' 0 _ rfl
        have d1 : wr.cell? ⟨b', off' + k * 2 + 1, none⟩ = some (.int .i64 x.f1) := by simpa using r' 1 _ rfl
        clear q q' r r' hx
        go_wp2
        go_still_tail 8, (by kernel_rfl)
        change wpList _ _ _ _ _ wr.drew
        go_wp2_with (go_at_call 26; refine (eqSpan_any _ _ _).mono ?_; rintro e w1 ⟨rfl, hb1⟩)
        have hb2 : Below w.heap.size w w1 := (hb.drew).trans ((by assumption : Below wr.drew.heap.size wr.drew w1).mono (by have := hb.size; exact this))
        go_roundw
        case rel => exact ⟨k + 1, by omega, by go_num, hb2⟩
        case measure => simp [intOf]; omega
      · clear HC HC'
        go_wp2
        go_ret
        exact ⟨rfl, hb⟩

/-- What marking a row leaves. -/
def MarkSpanPost (k : Int) (n base : Nat) (v : Value) (w : World) (e : Ending) (w' : World) : Prop :=
  e = .returned (.int .i64 (k + 2 * n)) ∧ w'.ownsRow base 40 2 v n ((mkLSpan k n).flatMap encSpan) ∧ w.grownBy w' v.ownBlock

set_option maxHeartbeats 2000000 in
theorem markSpanS_any (v : Value) (xs : List DSpan) (k : Int) (base : Nat) (w : World) (h : w.ownsRow base 40 2 v xs.length (xs.flatMap encSpan)) (hk : 0 ≤ k) (hk2 : k ≤ 1000000000) (hx : xs.length ≤ 1000000000) :
    Calls Try.prog 11 #[v, .int .i64 k] w (MarkSpanPost k xs.length base v w) := by
  by_cases h0 : xs.length = 0
  · obtain rfl : xs = [] := List.eq_nil_of_length_eq_zero h0
    obtain ⟨a, cap, rfl⟩ : ∃ a cap, v = .slice a 0 cap := (SRow.of_owns encSpan_len rfl h).empty
    have HH := Lib.hid h
    clear h h0 hx
    go_enter Try.func11, Try.ntmps11
    go_wp2
    refine wp_loop_rounds 1 ?_
    rw [rounds_succ]
    go_wp2
    go_ret
    exact ⟨by simp, HH.out, grownBy_refl _ _⟩
  · obtain ⟨n, hn⟩ : ∃ n, n = xs.length := ⟨_, rfl⟩
    rw [← hn] at h hx h0 ⊢
    obtain ⟨g, cap, rfl⟩ : ∃ g cap, v = .slice (some ⟨g, 0, none⟩) n cap := by
      rcases h.2 with ⟨_, e⟩ | ⟨g, cap, _, e, _⟩
      · omega
      · exact ⟨g, cap, e⟩
    have HN := Lib.hid hn
    have HH := Lib.hid h
    clear h hn
    go_enter Try.func11, Try.ntmps11
    go_wp2
    go_loopw [1, 5] (fun kk i wr => ∃ j : Nat, j ≤ n ∧ i = .int .i64 j ∧ kk = .int .i64 (k + 2 * j) ∧ Hid (wr.ownsRow base 40 2 (.slice (some ⟨g, 0, none⟩) n cap) n ((mkLSpan k j ++ xs.drop j).flatMap encSpan)) ∧ w.grownBy wr (some g)) (fun _ i _ => n - (intOf i).toNat)
    case atStart => exact ⟨0, Nat.zero_le _, rfl, by simp, HH.out, grownBy_refl _ _⟩
    case round =>
      obtain ⟨j, hj, rfl, rfl, ho, hg⟩ := hrel
      by_cases hlt : j < n
      · have hlen : ((mkLSpan k j ++ xs.drop j).flatMap encSpan).length = n * 2 := ho.out.1
        have e0 : ∃ u, wr.cell? ⟨g, j * 2, none⟩ = some u := ⟨_, (ho.out.cellAt (j * 2) (by omega)).trans (List.getElem?_eq_getElem (by omega))⟩
        obtain ⟨u0, e0⟩ := e0
        have z0 := ho.out.frozenAt (j * 2)
        have e1 : ∃ u, wr.cell? ⟨g, j * 2 + 1, none⟩ = some u := ⟨_, (ho.out.cellAt (j * 2 + 1) (by omega)).trans (List.getElem?_eq_getElem (by omega))⟩
        obtain ⟨u1, e1⟩ := e1
        have z1 := ho.out.frozenAt (j * 2 + 1)
        have s0 := ho.out.stored (j * 2) (.int .i64 (mkSpan (k + 2 * (j : Int))).f0)
        have s1 := s0.1.stored (j * 2 + 1) (.int .i64 (mkSpan (k + 2 * (j : Int))).f1)
        have own := s1.1
        rw [markSpan_run k xs j (by rw [← HN.out]; exact hlt) _ rfl] at own
        have hg2 := hg
        have hg2 := grownBy_trans hg2 s0.2
        have hg2 := grownBy_trans hg2 s1.2
        simp only [mkSpan] at own hg2
        have OWN := Lib.hid own
        have HG := Lib.hid hg2
        clear own hg2 s0 s1 ho hg hlen
        go_wp2
        go_roundw
        case rel => exact ⟨j + 1, by omega, by go_num, by go_num, by show World.ownsRow _ _ _ _ _ _ _; simpa [Int.add_assoc] using OWN.out, by simpa [Int.add_assoc] using HG.out⟩
        case measure => simp [intOf]; omega
      · obtain rfl : j = n := by omega
        have ho2 : wr.ownsRow base 40 2 (.slice (some ⟨g, 0, none⟩) j cap) j ((mkLSpan k j).flatMap encSpan) := by
          have h := ho.out
          rw [List.drop_of_length_le (by rw [← HN.out]; omega), List.append_nil] at h
          exact h
        have HO := Lib.hid ho2
        have HG := Lib.hid hg
        clear ho ho2 hg
        go_wp2
        go_ret
        exact ⟨rfl, HO.out, HG.out⟩

theorem info_Span : (Try.prog.info? 40).map (fun i => (i.zero, i.size, i.bytes)) = some (some (.agg #[.int .i64 0, .int .i64 0]), 2, 16) := by kernel_rfl
theorem take_set_succSpan (ys : List Value) (m : Nat) (v : Value) (h : m < ys.length) : (ys.set m v).take (m + 1) = ys.take m ++ [v] := by
  rw [List.take_succ_eq_append_getElem (by simpa using h), List.take_set_of_le (Nat.le_refl _)]
  simp
/-- It returns a row of its own that reads as xs, and turns nothing that was there. -/
def OwnSpan (xs : List DSpan) (w : World) (e : Ending) (w' : World) : Prop :=
  ∃ v, e = .returned v ∧ w'.ownsRow w.heap.size 40 2 v xs.length (xs.flatMap encSpan) ∧ Below w.heap.size w w'

end Go.Proofs.Ytnlhlgefaamdgaa

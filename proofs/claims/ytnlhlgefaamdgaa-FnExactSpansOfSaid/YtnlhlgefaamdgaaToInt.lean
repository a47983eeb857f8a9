/-
  PROVED HERE: a copy of a row of numbers. Conditions: each theorem's own.
-/
import Derived.Test.YtnlhlgefaamdgaaCore
import Derived.StillTailTactics
import Derived.OwnWalk
set_option linter.unusedVariables false
set_option linter.unusedSimpArgs false
namespace Go.Proofs.Ytnlhlgefaamdgaa
open Go.RowKit

theorem info_intC : (Try.prog.info? 3).map (fun i => (i.zero, i.size, i.bytes)) = some (some (.int .i64 0), 1, 8) := by kernel_rfl
theorem take_set_succI (ys : List Value) (m : Nat) (v : Value) (h : m < ys.length) : (ys.set m v).take (m + 1) = ys.take m ++ [v] := by
  rw [List.take_succ_eq_append_getElem (by simpa using h), List.take_set_of_le (Nat.le_refl _)]
  simp

/-- It returns a row of its own with these numbers. -/
def OwnInts (xs : List Int) (w : World) (e : Ending) (w' : World) : Prop := ∃ v, e = .returned v ∧ w'.ownsRow w.heap.size 3 1 v xs.length (xs.map (Value.int .i64)) ∧ Below w.heap.size w w'

set_option maxHeartbeats 4000000 in
theorem toIntS_any (v : Value) (xs : List Int) (w : World) (h : IRow w v xs) (hx : xs.length ≤ 1048576) : Calls Try.prog 6 #[v] w (OwnInts xs w) := by
  obtain ⟨i0, hi, hz0, hz1, hz2⟩ := info_parts info_intC
  obtain ⟨n, hn⟩ : ∃ n, n = xs.length := ⟨_, rfl⟩
  have HN := Lib.hid hn
  by_cases h0 : xs.length = 0
  · obtain rfl : xs = [] := List.eq_nil_of_length_eq_zero h0
    obtain ⟨a, cap, rfl⟩ := h.empty
    clear h h0 hn HN hx
    go_enter Try.func6, Try.ntmps6
    go_wp2_with (at_make; refine wpList_make_full _ rfl _ _ 22 rfl w.heap.size 3 i0 (.int .i64 0) 1 Try.underlying22 hi hz0 hz1 .i64 .i64 _ _ 0 rfl rfl rfl rfl (by rw [hz2]; omega) (by unfold maxLen; omega) (Nat.le_refl _) ?_; intro w1 hown1 hgrow1)
    have OW := Lib.hid hown1
    have HG := Lib.hid hgrow1
    clear hown1 hgrow1
    refine wp_loop_rounds 1 ?_
    rw [rounds_succ]
    go_wp2
    go_ret
    exact ⟨_, rfl, by simpa [madeCells] using OW.out, below_of_grown HG.out (Nat.le_refl _)⟩
  · obtain ⟨b, off, cap, rfl, hc⟩ := h.pos (by omega)
    have hbl : b < w.heap.size := World.block_lt_of_cell? w _ (hc 0 (by omega))
    rw [← hn] at hx h0 hc ⊢
    have HC := Lib.hid hc
    clear hn hc h
    go_enter Try.func6, Try.ntmps6
    go_wp2_with (at_make; refine wpList_make_full _ rfl _ _ 22 rfl w.heap.size 3 i0 (.int .i64 0) 1 Try.underlying22 hi hz0 hz1 .i64 .i64 _ _ n rfl rfl rfl rfl (by rw [hz2]; omega) (by unfold maxLen; omega) (Nat.le_refl _) ?_; intro w1 hown1 hgrow1)
    have hb1 : Below w.heap.size w w1 := below_of_grown hgrow1 (Nat.le_refl _)
    obtain ⟨g, hg⟩ : ∃ g, g = w.heap.size := ⟨_, rfl⟩
    have hown2 : ∃ ys : List Value, ys.take 0 = (xs.take 0).map (Value.int .i64) ∧ w1.ownsRow w.heap.size 3 1 (.slice (some ⟨g, 0, none⟩) n n) n ys := ⟨_, by simp, by rw [hg]; exact hown1⟩
    have OW := Lib.hid hown2
    have HB := Lib.hid hb1
    have HGE := Lib.hid hg
    clear hown1 hgrow1 hown2 hb1
    rw [← hg]
    clear hg
    go_loopw [4] (fun i wr => ∃ k : Nat, k ≤ n ∧ i = .int .i64 k ∧ Hid (∃ ys : List Value, ys.take k = (xs.take k).map (Value.int .i64) ∧ wr.ownsRow w.heap.size 3 1 (.slice (some ⟨g, 0, none⟩) n n) n ys) ∧ Below w.heap.size w wr) (fun i _ => n - (intOf i).toNat)
    case atStart => exact ⟨0, Nat.zero_le _, rfl, OW.out, HB.out⟩
    case round =>
      obtain ⟨k, hk, rfl, ho, hb⟩ := hrel
      by_cases hlt : k < n
      · have hk' : k < xs.length := by rw [← HN.out]; exact hlt
        have q := HC.out k hlt
        obtain ⟨x, hx2⟩ : ∃ x, x = xs.getD k 0 := ⟨_, rfl⟩
        rw [← hx2] at q
        have c0 : wr.cell? ⟨b, off + k, none⟩ = some (.int .i64 x) := (hb.cell (p := ⟨b, off + k, none⟩) hbl).trans q
        have HX := Lib.hid hx2
        obtain ⟨ys, hys, how⟩ := ho.out
        have hyl : ys.length = n := by have := how.1; simpa using this
        have e1 : ∃ u, wr.cell? ⟨g, k, none⟩ = some u := ⟨_, (how.cellAt k (by omega)).trans (List.getElem?_eq_getElem (by omega))⟩
        obtain ⟨u1, e1⟩ := e1
        have z1 := how.frozenAt k
        have s1 := how.stored k (.int .i64 x)
        have t1 : (ys.set k (.int .i64 x)).take (k + 1) = (xs.take (k + 1)).map (Value.int .i64) := by
          rw [take_set_succI _ _ _ (by omega), hys, take_snoc_getD xs k hk', List.map_append, hx2]
          rfl
        have fin : Hid (∃ ys : List Value, ys.take (k + 1) = (xs.take (k + 1)).map (Value.int .i64) ∧ World.ownsRow _ w.heap.size 3 1 (.slice (some ⟨g, 0, none⟩) n n) n ys) := ⟨_, t1, s1.1⟩
        have hgw : w.heap.size ≤ g := by rw [HGE.out]; exact Nat.le_refl _
        have bfin := hb.grown s1.2 (by have := hb.size; omega) (fun j hj => by cases hj; exact hgw)
        have BF := Lib.hid bfin
        clear s1 t1 how bfin hys hyl q hx2 ho hb
        go_wp2
        go_roundw
        case rel => exact ⟨k + 1, by omega, by go_num, fin, BF.out⟩
        case measure => simp [intOf]; omega
      · obtain rfl : k = n := by omega
        obtain ⟨ys, hys, how⟩ := ho.out
        have e : ys = xs.map (Value.int .i64) := by
          have hyl : ys.length = k := by have := how.1; simpa using this
          rw [List.take_of_length_le (by omega), List.take_of_length_le (by have := HN.out; omega)] at hys
          exact hys
        have HOW := Lib.hid how
        have HE := Lib.hid e
        clear ho hys how HC e
        go_wp2
        go_ret
        exact ⟨_, rfl, by rw [← HE.out, ← HN.out]; exact HOW.out, hb⟩
end Go.Proofs.Ytnlhlgefaamdgaa

/-
  PROVED HERE: rows of strings: counted, copied, compared; an argument's row of strings, read. Conditions: each theorem's own.
-/
import Derived.Test.YtfallcoehmmbeaaDoorCore
import Derived.Test.YtfallcoehmmbeaaDoorSRow
import Derived.Test.YtfallcoehmmbeaaDoorOpenS
import Derived.StillTailTactics
import Derived.OwnWalk
set_option linter.unusedVariables false
set_option linter.unusedSimpArgs false
namespace Go.Proofs.YtfallcoehmmbeaaDoor
open Go.RowKit
open Go.ChangeShapes Go.WideShapes Go.Deep

def encS (s : ByteArray) : List Value := [.string s]
theorem encS_len (s : ByteArray) : (encS s).length = 1 := rfl
theorem encS_pos (s : ByteArray) : 0 < (encS s).length := by rw [encS_len]; decide
/-- Each string is of a size that a string can have. -/
def Short (xs : List ByteArray) : Prop := ∀ s ∈ xs, s.size ≤ 9223372036854775807

theorem one_string {H : Type} {en : TypeId × Value → H} {w : World} {base : Nat} {spare : Nat → Bool} {held : Bool} (cs : List Value) (y : DataW H × List MemPlace) (n : Nat) (h : DataW.trod en Tryd.prog w base spare held n 9 cs = some y) : ∃ z : ByteArray, cs = encS z ∧ z.size ≤ 9223372036854775807 := by
  obtain ⟨z, e, h2⟩ := DataW.trod_string Tryd.underlying9 h
  exact ⟨z, e, by have := h2.2; unfold maxLen at this; omega⟩

set_option maxHeartbeats 1000000 in
/-- Two rows that read as the same strings are found to be equal. -/
theorem eqStringS_any (v1 v2 : Value) (xs : List ByteArray) (w : World) (h1 : SRow 1 encS w v1 xs) (h2 : SRow 1 encS w v2 xs) :
    Calls Tryd.prog 27 #[v1, v2] w (Ret (.bool true) w) := by
  by_cases h0 : xs.length = 0
  · obtain rfl : xs = [] := List.eq_nil_of_length_eq_zero h0
    obtain ⟨a, cap, rfl⟩ := h1.empty
    obtain ⟨a', cap', rfl⟩ := h2.empty
    clear h1 h2 h0
    go_enter Tryd.func27, Tryd.ntmps27
    go_wp2
    refine wp_loop_rounds 1 ?_
    rw [rounds_succ]
    go_wp2
    go_ret
    exact ⟨rfl, Below.refl _ _⟩
  · have hsz := h1.len
    obtain ⟨b, off, cap, rfl, hbl, hc⟩ := h1.pos encS_pos (by omega)
    obtain ⟨b', off', cap', rfl, hbl', hc'⟩ := h2.pos encS_pos (by omega)
    obtain ⟨n, hn⟩ : ∃ n, n = xs.length := ⟨_, rfl⟩
    rw [← hn] at hsz h0 ⊢
    have HC := Lib.hid hc
    have HC' := Lib.hid hc'
    have HN := Lib.hid hn
    clear hn hc hc' h1 h2
    go_enter Tryd.func27, Tryd.ntmps27
    go_wp2
    go_loopw [5] (fun i wr => ∃ k : Nat, k ≤ n ∧ i = .int .i64 k ∧ Below w.heap.size w wr) (fun i _ => n - (intOf i).toNat)
    case atStart => exact ⟨0, Nat.zero_le _, rfl, Below.refl _ _⟩
    case round =>
      obtain ⟨k, hk, rfl, hb⟩ := hrel
      by_cases hlt : k < n
      · have hk' : k < xs.length := by rw [← HN.out]; exact hlt
        have c := HC.out k hk' 0 _ rfl
        have c' := HC'.out k hk' 0 _ rfl
        obtain ⟨s, hs'⟩ : ∃ s, s = xs[k] := ⟨_, rfl⟩
        rw [← hs'] at c c'
        have e1 : wr.cell? ⟨b, off + k, none⟩ = some (.string s) := (hb.cell (p := ⟨b, off + k, none⟩) hbl).trans (by simpa using c)
        have e2 : wr.cell? ⟨b', off' + k, none⟩ = some (.string s) := (hb.cell (p := ⟨b', off' + k, none⟩) hbl').trans (by simpa using c')
        clear hs' c c'
        go_wp2
        go_quiet (fail)
        go_wp2
        go_roundw
        case rel => exact ⟨k + 1, by omega, by go_num, below_drewN hb _⟩
        case measure => simp [intOf]; omega
      · clear HC HC'
        go_wp2
        go_ret
        exact ⟨rfl, hb⟩

theorem info_string : (Tryd.prog.info? 9).map (fun i => (i.zero, i.size, i.bytes)) = some (some (.string ByteArray.empty), 1, 16) := by kernel_rfl
theorem take_set_succS (ys : List Value) (m : Nat) (v : Value) (h : m < ys.length) : (ys.set m v).take (m + 1) = ys.take m ++ [v] := by
  rw [List.take_succ_eq_append_getElem (by simpa using h), List.take_set_of_le (Nat.le_refl _)]
  simp

end Go.Proofs.YtfallcoehmmbeaaDoor

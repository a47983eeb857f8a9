/-
  PROVED HERE: Roman numerals, read, in plain Lean. Conditions: each theorem's own.
-/
import Derived.Test.YtgdiciaddhbogaaDoorRomP
namespace Go.Proofs.YtgdiciaddhbogaaDoor

def rdF : Nat → Nat → Nat → List UInt8 → Option (Nat × List UInt8)
  | 0, _, _, _ => none
  | f + 1, k, n, l => if 13 ≤ k then some (n, l) else if (rS k).isPrefixOf l = true ∧ n ≤ 3999 then rdF f k (n + rV k) (l.drop (rS k).length) else rdF f (k + 1) n l
def rd (l : List UInt8) : Nat × List UInt8 := (rdF (l.length + 20) 0 0 l).getD (0, [])
theorem rdF_some : ∀ (f k n : Nat) (l : List UInt8), l.length + (13 - k) < f → ∃ x, rdF f k n l = some x
  | 0, k, n, l, h => absurd h (Nat.not_lt_zero _)
  | f + 1, k, n, l, h => by
    unfold rdF
    split
    · exact ⟨_, rfl⟩
    · rename_i hk
      split
      · rename_i hp
        obtain ⟨_, _, _, h4⟩ := rV_bd k (by omega)
        have hl : (rS k).length ≤ l.length := (List.isPrefixOf_iff_prefix.1 hp.1).length_le
        exact rdF_some f k _ _ (by rw [List.length_drop]; omega)
      · exact rdF_some f (k + 1) n l (by omega)
theorem rd_ok (l : List UInt8) : rdF (l.length + 20) 0 0 l = some (rd l) := by
  obtain ⟨x, hx⟩ := rdF_some (l.length + 20) 0 0 l (by omega)
  rw [rd, hx]
  rfl
theorem rdF_end {f k n : Nat} {l : List UInt8} {x : Nat × List UInt8} (h : rdF f k n l = some x) (hk : 13 ≤ k) : x = (n, l) := by
  cases f with
  | zero => cases h
  | succ f =>
    unfold rdF at h
    rw [if_pos hk] at h
    exact (Option.some.inj h).symm
theorem rdF_take {f k n : Nat} {l : List UInt8} {x : Nat × List UInt8} (h : rdF f k n l = some x) (hk : k < 13) (hp : (rS k).isPrefixOf l = true) (hn : n ≤ 3999) : ∃ f', rdF f' k (n + rV k) (l.drop (rS k).length) = some x := by
  cases f with
  | zero => cases h
  | succ f =>
    unfold rdF at h
    rw [if_neg (by omega), if_pos ⟨hp, hn⟩] at h
    exact ⟨f, h⟩
theorem rdF_skip {f k n : Nat} {l : List UInt8} {x : Nat × List UInt8} (h : rdF f k n l = some x) (hk : k < 13) (hp : ¬ ((rS k).isPrefixOf l = true ∧ n ≤ 3999)) : ∃ f', rdF f' (k + 1) n l = some x := by
  cases f with
  | zero => cases h
  | succ f =>
    unfold rdF at h
    rw [if_neg (by omega), if_neg hp] at h
    exact ⟨f, h⟩
theorem rd_all : ((List.range 4000).all fun n => rd (rom n) == (n, [])) = true := by kernel_rfl
end Go.Proofs.YtgdiciaddhbogaaDoor

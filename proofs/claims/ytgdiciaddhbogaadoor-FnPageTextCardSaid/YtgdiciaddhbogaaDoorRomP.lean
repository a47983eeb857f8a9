/-
  PROVED HERE: Roman numerals in plain Lean. Conditions: each theorem's own.
-/
import Derived.Test.YtgdiciaddhbogaaDoorIn
import Derived.KernelRfl
namespace Go.Proofs.YtgdiciaddhbogaaDoor

abbrev bs (l : List UInt8) : ByteArray := ⟨l.toArray⟩
def rVL : List Nat := [1000, 900, 500, 400, 100, 90, 50, 40, 10, 9, 5, 4, 1]
def rSL : List (List UInt8) := [[109], [99, 109], [100], [99, 100], [99], [120, 99], [108], [120, 108], [120], [105, 120], [118], [105, 118], [105]]
def rV (k : Nat) : Nat := rVL.getD k 1
def rS (k : Nat) : List UInt8 := rSL.getD k []
def romF : Nat → Nat → Nat → Option (List UInt8)
  | 0, _, _ => none
  | f + 1, k, n => if 13 ≤ k then some [] else if rV k ≤ n then (romF f k (n - rV k)).map (rS k ++ ·) else romF f (k + 1) n
def rom (n : Nat) : List UInt8 := (romF 40 0 n).getD []
def romZ (n : Int) : List UInt8 := if inB n 1 3999 = true then rom n.toNat else []
theorem romF_all : ((List.range 4000).all fun n => (romF 40 0 n).isSome) = true := by kernel_rfl
theorem romF_ok (n : Nat) (h : n < 4000) : romF 40 0 n = some (rom n) := by
  have := List.all_eq_true.1 romF_all n (List.mem_range.2 h)
  obtain ⟨r, hr⟩ := Option.isSome_iff_exists.1 this
  rw [rom, hr]
  rfl
theorem romF_end {f k n : Nat} {r : List UInt8} (h : romF f k n = some r) (hk : 13 ≤ k) : r = [] := by
  cases f with
  | zero => cases h
  | succ f =>
    unfold romF at h
    rw [if_pos hk] at h
    exact (Option.some.inj h).symm
theorem romF_take {f k n : Nat} {r : List UInt8} (h : romF f k n = some r) (hk : k < 13) (hn : rV k ≤ n) : ∃ f' r', romF f' k (n - rV k) = some r' ∧ r = rS k ++ r' := by
  cases f with
  | zero => cases h
  | succ f =>
    unfold romF at h
    rw [if_neg (by omega), if_pos hn] at h
    obtain ⟨r', h1, h2⟩ := Option.map_eq_some_iff.1 h
    exact ⟨f, r', h1, h2.symm⟩
theorem romF_skip {f k n : Nat} {r : List UInt8} (h : romF f k n = some r) (hk : k < 13) (hn : ¬ rV k ≤ n) : ∃ f', romF f' (k + 1) n = some r := by
  cases f with
  | zero => cases h
  | succ f =>
    unfold romF at h
    rw [if_neg (by omega), if_neg hn] at h
    exact ⟨f, h⟩
theorem rV_all : ((List.range 13).all fun k => decide (1 ≤ rV k ∧ rV k ≤ 1000 ∧ (rS k).length ≤ 2 ∧ 1 ≤ (rS k).length)) = true := by kernel_rfl
theorem rV_bd (k : Nat) (h : k < 13) : 1 ≤ rV k ∧ rV k ≤ 1000 ∧ (rS k).length ≤ 2 ∧ 1 ≤ (rS k).length := by
  have := List.all_eq_true.1 rV_all k (List.mem_range.2 h)
  simpa using this
theorem rom_all : ((List.range 4000).all fun n => decide ((rom n).length ≤ 15)) = true := by kernel_rfl
theorem rom_len (n : Nat) (h : n < 4000) : (rom n).length ≤ 15 := by
  have := List.all_eq_true.1 rom_all n (List.mem_range.2 h)
  simpa using this
end Go.Proofs.YtgdiciaddhbogaaDoor

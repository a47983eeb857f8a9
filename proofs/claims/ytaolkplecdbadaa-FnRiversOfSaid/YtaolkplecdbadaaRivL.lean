/-
  PROVED HERE: rivers, as plain lists, without any program. Conditions: each lemma's own.
-/
import Derived.Test.YtaolkplecdbadaaStr
import Derived.Test.YtaolkplecdbadaaRivC
namespace Go.Proofs.Ytaolkplecdbadaa
open Go.RowKit

/-- There is a space in s at column c, which is not its last byte. -/
def chrB (s : ByteArray) (c : Nat) : Bool := if h : c + 1 < s.size then ((s[c].toNat : Int) == 32) else false
def flowB (xs : List ByteArray) (c k : Nat) : Bool := if h : k < xs.length then chrB xs[k] c else false
/-- The rivers of a column from line k on, where the lines st to k-1 flow. -/
def rv (fl : Nat → Bool) (c : Nat) (least : Int) (n : Nat) : Nat → Nat → Nat → List DRiver
  | 0, _, _ => []
  | f + 1, k, st => if n < k then [] else if fl k = true then rv fl c least n f (k + 1) st else (if least ≤ (k : Int) - st then [⟨c, st, (k : Int) - st⟩] else []) ++ rv fl c least n f (k + 1) (k + 1)
def rvCol (xs : List ByteArray) (least : Int) (c : Nat) : List DRiver := rv (flowB xs c) c least xs.length (xs.length + 1) 0 0
/-- Of the columns 1 to m. -/
def rvTo (xs : List ByteArray) (least : Int) (m : Nat) : List DRiver := (List.range m).flatMap fun i => rvCol xs least (i + 1)
def rvOk (xs : List ByteArray) (least : Int) : Bool := decide (xs.length ≤ 60) && (decide (2 ≤ least) && xs.all fun s => decide (s.size ≤ 60))
def rvAll (xs : List ByteArray) (least : Int) : List DRiver := if rvOk xs least = true then rvTo xs least 59 else []

theorem rvTo_succ (xs : List ByteArray) (least : Int) (m : Nat) : rvTo xs least (m + 1) = rvTo xs least m ++ rvCol xs least (m + 1) := by
  unfold rvTo
  rw [List.range_succ, List.flatMap_append]
  simp
theorem flow_out (xs : List ByteArray) (c k : Nat) (h : xs.length ≤ k) : flowB xs c k = false := by
  unfold flowB
  rw [dif_neg (by omega)]
theorem rv_out (fl : Nat → Bool) (c : Nat) (least : Int) (n f k st : Nat) (h : n < k) : rv fl c least n f k st = [] := by
  cases f with
  | zero => rfl
  | succ f => rw [rv, if_pos h]
theorem rv_flow (fl : Nat → Bool) (c : Nat) (least : Int) (n f k st : Nat) (h : k ≤ n) (hf : fl k = true) : rv fl c least n (f + 1) k st = rv fl c least n f (k + 1) st := by
  rw [rv, if_neg (by omega), if_pos hf]
theorem rv_stop (fl : Nat → Bool) (c : Nat) (least : Int) (n f k st : Nat) (h : k ≤ n) (hf : fl k = false) : rv fl c least n (f + 1) k st = (if least ≤ (k : Int) - st then [⟨c, st, (k : Int) - st⟩] else []) ++ rv fl c least n f (k + 1) (k + 1) := by
  rw [rv, if_neg (by omega), if_neg (by rw [hf]; decide)]
/-- At the last line's end, or behind it, nothing is left. -/
theorem rv_last (xs : List ByteArray) (c : Nat) (least : Int) (f k : Nat) (h : xs.length ≤ k) (hl : 2 ≤ least) : rv (flowB xs c) c least xs.length f k k = [] := by
  cases f with
  | zero => rfl
  | succ f =>
    by_cases hk : xs.length < k
    · exact rv_out _ _ _ _ _ _ _ hk
    · rw [rv_stop _ _ _ _ _ _ _ (by omega) (flow_out xs c k h), if_neg (by omega), rv_out _ _ _ _ _ _ _ (by omega)]
      rfl
theorem rv_len (fl : Nat → Bool) (c : Nat) (least : Int) (n : Nat) : ∀ f k st, (rv fl c least n f k st).length ≤ f
  | 0, k, st => by simp [rv]
  | f + 1, k, st => by
    rw [rv]
    have a := rv_len fl c least n f (k + 1) st
    have b := rv_len fl c least n f (k + 1) (k + 1)
    split
    · simp
    · split
      · omega
      · rw [List.length_append]
        split <;> simp <;> omega
theorem rvCol_len (xs : List ByteArray) (least : Int) (c : Nat) : (rvCol xs least c).length ≤ xs.length + 1 := rv_len _ _ _ _ _ _ _
theorem rvTo_len (xs : List ByteArray) (least : Int) : ∀ m, (rvTo xs least m).length ≤ m * (xs.length + 1)
  | 0 => by simp [rvTo]
  | m + 1 => by
    have := rvTo_len xs least m
    have := rvCol_len xs least (m + 1)
    rw [rvTo_succ, List.length_append, Nat.add_mul]
    omega
theorem rvOk_true {xs : List ByteArray} {least : Int} (h : rvOk xs least = true) : xs.length ≤ 60 ∧ 2 ≤ least ∧ ∀ s ∈ xs, s.size ≤ 60 := by
  unfold rvOk at h
  rw [Bool.and_eq_true, Bool.and_eq_true] at h
  exact ⟨of_decide_eq_true h.1, of_decide_eq_true h.2.1, fun s hs => of_decide_eq_true (List.all_eq_true.1 h.2.2 s hs)⟩
theorem rvAll_len (xs : List ByteArray) (least : Int) : (rvAll xs least).length ≤ 3599 := by
  unfold rvAll
  split
  · rename_i h
    have := (rvOk_true h).1
    have := rvTo_len xs least 59
    omega
  · simp
theorem rv_zero (c : Nat) (least : Int) (n : Nat) (hl : 2 ≤ least) : ∀ f k, rv (fun _ => false) c least n f k k = []
  | 0, k => rfl
  | f + 1, k => by
    rw [rv]
    split
    · rfl
    · rw [if_neg (by simp), if_neg (by omega), rv_zero c least n hl f (k + 1)]
      rfl
end Go.Proofs.Ytaolkplecdbadaa

/-
  PROVED HERE: numbers as digits, read back, in plain Lean. Conditions: each theorem's own.
-/
import Derived.Test.YtfallcoehmmbeaaGreatDoorNum
import Derived.Lib.AtoiAll
set_option linter.unusedVariables false
set_option linter.unusedSimpArgs false
namespace Go.Proofs.YtfallcoehmmbeaaGreatDoor

def digV (l : List UInt8) : Nat := l.foldl (fun n c => 10 * n + (c.toNat - 48)) 0
def isDig (c : UInt8) : Bool := decide (48 ≤ c.toNat) && decide (c.toNat ≤ 57)
theorem digV_snoc (l : List UInt8) (c : UInt8) : digV (l ++ [c]) = 10 * digV l + (c.toNat - 48) := by simp [digV, List.foldl_append]
theorem dig_nat (k : Nat) (h : k < 10) : (UInt8.ofNat (48 + k)).toNat = 48 + k := by
  rw [UInt8.toNat_ofNat']
  omega
theorem preD_big (u : Nat) (h : ¬ u < 10) : preD u = Lib.decDigits (u / 10) := by unfold preD; rw [if_neg h]
theorem preD_small (u : Nat) (h : u < 10) : preD u = [] := by unfold preD; rw [if_pos h]
theorem digV_dec : ∀ u, digV (Lib.decDigits u) = u := by
  intro u
  induction u using Nat.strongRecOn with
  | ind u ih =>
    rw [preD_last u, digV_snoc, dig_nat _ (Nat.mod_lt _ (by omega))]
    by_cases h : u < 10
    · rw [preD_small u h]
      show 10 * 0 + _ = _
      omega
    · rw [preD_big u h, ih (u / 10) (by omega)]
      omega
theorem dec_dig : ∀ u c, c ∈ Lib.decDigits u → 48 ≤ c.toNat ∧ c.toNat ≤ 57 := by
  intro u
  induction u using Nat.strongRecOn with
  | ind u ih =>
    intro c hc
    rw [preD_last u, List.mem_append] at hc
    rcases hc with hc | hc
    · by_cases h : u < 10
      · rw [preD_small u h] at hc; cases hc
      · rw [preD_big u h] at hc; exact ih (u / 10) (by omega) c hc
    · obtain rfl := List.mem_singleton.1 hc
      rw [dig_nat _ (Nat.mod_lt _ (by omega))]
      omega
theorem dec_len3 (u : Nat) (h : u ≤ 999) : 1 ≤ (Lib.decDigits u).length ∧ (Lib.decDigits u).length ≤ 3 := by
  by_cases h1 : u < 10
  · rw [Lib.decDigits_one h1]; simp
  · by_cases h2 : u < 100
    · rw [Lib.decDigits_two h1 h2]; simp
    · rw [preD_last u, preD_big u h1, List.length_append]
      by_cases h3 : u / 10 < 10
      · rw [Lib.decDigits_one h3]; simp
      · rw [Lib.decDigits_two h3 (by omega)]; simp
theorem dec_ne32 (u : Nat) (j : Nat) (hj : j < (Lib.decDigits u).length) : (Lib.decDigits u).getD j 0 ≠ 32 := by
  intro e
  have h := dec_dig u ((Lib.decDigits u).getD j 0) (by rw [List.getD, List.getElem?_eq_getElem hj]; exact List.getElem_mem hj)
  rw [e] at h
  exact absurd h.1 (by decide)

theorem parse_step (acc : Nat) (c : UInt8) (r : List UInt8) (h : 48 ≤ c.toNat ∧ c.toNat ≤ 57) (ha : acc ≤ 100000000) : Lib.parseUint10 acc (c :: r) = Lib.parseUint10 (acc * 10 + (c.toNat - 48)) r := by
  rw [Lib.parseUint10, if_pos h, if_neg (by omega), if_neg (by omega)]
theorem parse3 (l : List UInt8) (hd : ∀ c ∈ l, 48 ≤ c.toNat ∧ c.toNat ≤ 57) (h1 : 1 ≤ l.length) (h3 : l.length ≤ 3) : Lib.parseMag l = .ok (digV l) := by
  match l, h1, h3 with
  | [a], _, _ =>
    have ha := hd a (by simp)
    unfold Lib.parseMag
    rw [if_neg (by simp), parse_step _ _ _ ha (by omega), Lib.parseUint10]
    simp [digV]
  | [a, b], _, _ =>
    have ha := hd a (by simp)
    have hb := hd b (by simp)
    unfold Lib.parseMag
    rw [if_neg (by simp), parse_step _ _ _ ha (by omega), parse_step _ _ _ hb (by omega), Lib.parseUint10]
    simp [digV]
    omega
  | [a, b, c], _, _ =>
    have ha := hd a (by simp)
    have hb := hd b (by simp)
    have hc := hd c (by simp)
    unfold Lib.parseMag
    rw [if_neg (by simp), parse_step _ _ _ ha (by omega), parse_step _ _ _ hb (by omega), parse_step _ _ _ hc (by omega), Lib.parseUint10]
    simp [digV]
    omega
theorem atoi_dec (u : Nat) (h : u ≤ 999) : Lib.atoiAll (Lib.decDigits u) = .ok (u : Int) := by
  have hp := parse3 (Lib.decDigits u) (fun c hc => dec_dig u c hc) (dec_len3 u h).1 (dec_len3 u h).2
  rw [digV_dec] at hp
  have hd := dec_dig u
  have hl := (dec_len3 u h).1
  cases e : Lib.decDigits u with
  | nil => rw [e] at hl; simp at hl
  | cons c r =>
    rw [e] at hp hd
    have hc := hd c (by simp)
    have h45 : ¬ c.toNat = 45 := by omega
    have h43 : ¬ (c.toNat = 43 ∨ c.toNat = 45) := by omega
    unfold Lib.atoiAll
    simp only [if_neg h43, hp]
    rw [if_neg (by omega), if_neg (by omega), if_neg h45]
end Go.Proofs.YtfallcoehmmbeaaGreatDoor

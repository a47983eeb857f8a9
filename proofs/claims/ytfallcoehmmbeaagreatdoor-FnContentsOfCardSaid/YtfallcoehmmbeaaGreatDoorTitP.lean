/-
  PROVED HERE: valid titles in plain Lean: the two sides' tests say the same. Conditions: each theorem's own.
-/
import Derived.Test.YtfallcoehmmbeaaGreatDoorIn
import Derived.Lib.TrimByte
import Derived.Lib.IndexMore
import Derived.Lib.Strings
set_option linter.unusedVariables false
set_option linter.unusedSimpArgs false
namespace Go.Proofs.YtfallcoehmmbeaaGreatDoor

def prB (c : UInt8) : Bool := decide (32 ≤ c.toNat) && decide (c.toNat ≤ 126)
/-- What the reference refuses at place k. -/
def badK (l : List UInt8) (k : Nat) : Bool := !prB (l.getD k 0) || (l.getD k 0 == 32 && (k == 0 || (k + 1 == l.length || l.getD (k - 1) 0 == 32)))
def badAny (l : List UInt8) : Bool := (List.range l.length).any (badK l)
def titOk (l : List UInt8) (lev pg : Int) : Bool := !badAny l && (inB l.length 1 40 && (!(l.getD (l.length - 1) 0 == 46) && (inB lev 0 4 && inB pg 1 999)))
theorem badAny_false (l : List UInt8) : badAny l = false ↔ ∀ k, k < l.length → badK l k = false := by
  unfold badAny
  rw [List.any_eq_false]
  constructor
  · intro h k hk
    have := h k (List.mem_range.2 hk)
    simpa using this
  · intro h k hk
    rw [h k (List.mem_range.1 hk)]
    decide
theorem dropWhile_self {α : Type} (p : α → Bool) (x : List α) (h : (x.dropWhile p).length = x.length) : ∀ a, x.head? = some a → p a = false := by
  intro a ha
  cases x with
  | nil => cases ha
  | cons b t =>
    obtain rfl : b = a := by simpa using ha
    cases hp : p b
    · rfl
    · rw [List.dropWhile_cons, if_pos hp] at h
      have := (List.dropWhile_sublist (l := t) p).length_le
      simp at h
      omega
theorem getD_lt (l : List UInt8) (k : Nat) (h : k < l.length) : l[k]? = some (l.getD k 0) := by simp [List.getD, h]
theorem trim_iff (l : List UInt8) (hl : 0 < l.length) : Lib.trimB l 32 = l ↔ l.getD 0 0 ≠ 32 ∧ l.getD (l.length - 1) 0 ≠ 32 := by
  constructor
  · intro h
    unfold Lib.trimB Lib.trimLeftB at h
    have h1 : (Lib.trimRightB l 32).length ≤ l.length := by
      unfold Lib.trimRightB
      rw [List.length_reverse]
      have := (List.dropWhile_sublist (l := l.reverse) (fun x => x == 32)).length_le
      simpa using this
    have h2 := (List.dropWhile_sublist (l := Lib.trimRightB l 32) (fun x => x == 32)).length_le
    rw [h] at h2
    have e1 : (Lib.trimRightB l 32).length = l.length := by omega
    have e2 : (l.reverse.dropWhile (fun x => x == 32)).length = l.reverse.length := by
      unfold Lib.trimRightB at e1
      rw [List.length_reverse] at e1
      rw [List.length_reverse]
      exact e1
    have b2 := dropWhile_self _ _ e2
    have er : Lib.trimRightB l 32 = l := by
      unfold Lib.trimRightB
      have := (List.dropWhile_sublist (l := l.reverse) (fun x => x == 32)).eq_of_length e2
      rw [this, List.reverse_reverse]
    rw [er] at h
    have b1 := dropWhile_self (fun x => x == (32 : UInt8)) l (by rw [h])
    constructor
    · have := b1 (l.getD 0 0) (by rw [List.head?_eq_getElem?]; exact getD_lt l 0 hl)
      simpa using this
    · have := b2 (l.getD (l.length - 1) 0) (by rw [List.head?_reverse, List.getLast?_eq_getElem?]; exact getD_lt l _ (by omega))
      simpa using this
  · rintro ⟨h1, h2⟩
    have er : Lib.trimRightB l 32 = l := by
      rw [Lib.trimRightB_take l 32 l.length (Nat.le_refl _) (fun j b hj hb => by rw [List.getElem?_eq_none hj] at hb; cases hb) (fun b _ hb => by rw [getD_lt l _ (by omega)] at hb; rw [← Option.some.inj hb]; exact h2)]
      exact List.take_length
    unfold Lib.trimB
    rw [er, Lib.trimLeftB_drop l 32 0 (Nat.zero_le _) (fun j b hj _ => absurd hj (Nat.not_lt_zero _)) (fun b hb => by rw [getD_lt l 0 hl] at hb; rw [← Option.some.inj hb]; exact h1)]
    rfl
theorem occ_iff (l : List UInt8) (i : Nat) : Lib.occAt l [32, 32] i = true ↔ i + 1 < l.length ∧ l.getD i 0 = 32 ∧ l.getD (i + 1) 0 = 32 := by
  constructor
  · intro h
    have hr : i + 2 ≤ l.length := by
      rcases Lib.occAt_room h with h | h
      · exact h
      · cases h
    rw [Lib.occAt_iff_take l [32, 32] i hr] at h
    have h := (beq_iff_eq.1 h)
    have g0 := congrArg (fun x => x[0]?) h
    have g1 := congrArg (fun x => x[1]?) h
    simp at g0 g1
    refine ⟨by omega, ?_, ?_⟩
    · simp [List.getD, g0]
    · simp [List.getD, g1]
  · rintro ⟨h1, h2, h3⟩
    rw [Lib.occAt_iff_take l [32, 32] i (by simp; omega)]
    have e : (l.drop i).take 2 = [32, 32] := by
      rw [List.drop_eq_getElem_cons (by omega), List.drop_eq_getElem_cons (by omega)]
      have a := getD_lt l i (by omega)
      have b := getD_lt l (i + 1) h1
      rw [h2, List.getElem?_eq_getElem (by omega)] at a
      rw [h3, List.getElem?_eq_getElem h1] at b
      rw [Option.some.inj a, Option.some.inj b]
      rfl
    simpa using e
theorem contains_iff (l : List UInt8) : Lib.contains l [32, 32] = true ↔ ∃ i, i + 1 < l.length ∧ l.getD i 0 = 32 ∧ l.getD (i + 1) 0 = 32 := by
  unfold Lib.contains
  rw [decide_eq_true_eq]
  rcases Lib.index_spec l [32, 32] with ⟨h1, h2⟩ | ⟨i, h1, h2, h3, _⟩
  · rw [h1]
    constructor
    · intro h
      exact absurd h (by decide)
    · rintro ⟨i, hi⟩
      have := (occ_iff l i).2 hi
      rw [h2 i (by omega)] at this
      cases this
  · rw [h1]
    exact ⟨fun _ => ⟨i, (occ_iff l i).1 h3⟩, fun _ => Int.natCast_nonneg i⟩
theorem suffix_iff (l : List UInt8) (hl : 0 < l.length) : Lib.hasSuffix l [46] = (l.getD (l.length - 1) 0 == 46) := by
  rw [← Lib.hasSuffix_of_drop, decide_eq_true (by simp; omega), Bool.true_and]
  have e : l.drop (l.length - 1) = [l.getD (l.length - 1) 0] := by
    have a := getD_lt l (l.length - 1) (by omega)
    rw [List.getElem?_eq_getElem (by omega)] at a
    rw [List.drop_eq_getElem_cons (by omega), Option.some.inj a, List.drop_of_length_le (by omega)]
  show (l.drop (l.length - 1) == [46]) = _
  rw [e]
  simp
theorem bad_iff (l : List UInt8) (hl : 0 < l.length) : (!badAny l) = (l.all prB && ((Lib.trimB l 32 == l) && !Lib.contains l [32, 32])) := by
  rw [Bool.eq_iff_iff]
  simp only [Bool.not_eq_true', Bool.and_eq_true, beq_iff_eq]
  rw [badAny_false, List.all_eq_true, trim_iff l hl, ← Bool.not_eq_true, contains_iff]
  constructor
  · intro h
    have hk : ∀ k, k < l.length → prB (l.getD k 0) = true ∧ (l.getD k 0 = 32 → k ≠ 0 ∧ k + 1 ≠ l.length ∧ l.getD (k - 1) 0 ≠ 32) := by
      intro k hk
      have := h k hk
      unfold badK at this
      simp only [Bool.or_eq_false_iff, Bool.not_eq_false', Bool.and_eq_false_iff, beq_eq_false_iff_ne] at this
      refine ⟨this.1, fun e => ?_⟩
      rcases this.2 with h2 | h2
      · exact absurd e h2
      · exact ⟨h2.1, h2.2.1, h2.2.2⟩
    refine ⟨fun c hc => ?_, ⟨fun e => ((hk 0 hl).2 e).1 rfl, fun e => ((hk _ (by omega)).2 e).2.1 (by omega)⟩, fun ⟨i, h1, h2, h3⟩ => ((hk (i + 1) h1).2 h3).2.2 (by simpa using h2)⟩
    obtain ⟨k, hk', rfl⟩ := List.getElem_of_mem hc
    have a := getD_lt l k hk'
    rw [List.getElem?_eq_getElem hk'] at a
    rw [Option.some.inj a]
    exact (hk k hk').1
  · rintro ⟨h1, ⟨h2, h3⟩, h4⟩ k hk
    unfold badK
    have hp : prB (l.getD k 0) = true := by
      have a := getD_lt l k hk
      exact h1 _ (List.mem_of_getElem? a)
    rw [hp]
    by_cases e : l.getD k 0 = 32
    · have k0 : k ≠ 0 := fun e0 => h2 (by rw [e0] at e; exact e)
      have k1 : k + 1 ≠ l.length := fun e1 => h3 (by rw [show l.length - 1 = k by omega]; exact e)
      have k2 : l.getD (k - 1) 0 ≠ 32 := fun e2 => h4 ⟨k - 1, by omega, e2, by rw [show k - 1 + 1 = k by omega]; exact e⟩
      simp only [Bool.not_true, Bool.false_or, Bool.and_eq_false_iff, Bool.or_eq_false_iff, beq_eq_false_iff_ne]
      exact .inr ⟨k0, k1, k2⟩
    · simp only [Bool.not_true, Bool.false_or, Bool.and_eq_false_iff, beq_eq_false_iff_ne]
      exact .inl e
theorem titOk_impl (l : List UInt8) (lev pg : Int) : titOk l lev pg = (l.all prB && (inB l.length 1 40 && ((Lib.trimB l 32 == l) && (!Lib.contains l [32, 32] && (!Lib.hasSuffix l [46] && (inB lev 0 4 && inB pg 1 999)))))) := by
  unfold titOk
  cases hin : inB l.length 1 40
  · simp
  · have hl : 0 < l.length := by have := inB_true hin; omega
    rw [bad_iff l hl, suffix_iff l hl]
    simp only [Bool.true_and, Bool.and_assoc]
end Go.Proofs.YtfallcoehmmbeaaGreatDoor

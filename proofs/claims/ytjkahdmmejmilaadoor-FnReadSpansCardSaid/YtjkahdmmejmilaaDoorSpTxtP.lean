/-
  PROVED HERE: texts of ranges in plain Lean. Conditions: each theorem's own.
-/
import Derived.Test.YtjkahdmmejmilaaDoorSpanV
import Derived.Test.YtjkahdmmejmilaaDoorNum
import Derived.Lib.Join
set_option linter.unusedVariables false
set_option linter.unusedSimpArgs false
namespace Go.Proofs.YtjkahdmmejmilaaDoor
open Go.RowKit

def runT (x : DSpan) : List UInt8 := if x.f0 = x.f1 then Lib.decDigits x.f0.toNat else Lib.decDigits x.f0.toNat ++ (45 :: Lib.decDigits x.f1.toNat)
def accT (xs : List DSpan) (k : Nat) : List UInt8 := Lib.join ((xs.take k).map runT) [44]
def spTxt (xs : List DSpan) : List UInt8 := if spB xs = true then accT xs xs.length else []
theorem joinTail_snoc (sep y : List UInt8) (r : List (List UInt8)) : Lib.joinTail sep (r ++ [y]) = Lib.joinTail sep r ++ (sep ++ y) := by
  unfold Lib.joinTail
  simp
theorem accT_zero (xs : List DSpan) : accT xs 0 = [] := rfl
theorem accT_one (xs : List DSpan) (h : 0 < xs.length) : accT xs 1 = runT xs[0] := by
  unfold accT
  rw [List.take_succ_eq_append_getElem h]
  exact Lib.join_one _ _
theorem accT_succ (xs : List DSpan) (k : Nat) (h0 : 0 < k) (h : k < xs.length) : accT xs (k + 1) = accT xs k ++ (44 :: runT xs[k]) := by
  unfold accT
  rw [List.take_succ_eq_append_getElem h, List.map_append]
  cases xs with
  | nil => exact absurd h (Nat.not_lt_zero _)
  | cons x t =>
    obtain ⟨j, rfl⟩ : ∃ j, k = j + 1 := ⟨k - 1, by omega⟩
    rw [List.take_succ_cons, List.map_cons, List.cons_append, Lib.join_cons, Lib.join_cons]
    rw [show List.map runT [(x :: t)[j + 1]] = [runT (x :: t)[j + 1]] from rfl, joinTail_snoc, List.append_assoc]
    rfl
theorem decDigits_len (N : Nat) (h : N ≤ 100000) : (Lib.decDigits N).length ≤ 30 := by
  have := Lib.itoa_length_le (N : Int) (by omega) (by omega)
  rw [Lib.itoa_nonneg] at this
  omega
theorem runT_len (x : DSpan) (h0 : x.f0 ≤ 999) (h1 : x.f1 ≤ 999) : (runT x).length ≤ 61 := by
  have a := decDigits_len x.f0.toNat (by omega)
  have b := decDigits_len x.f1.toNat (by omega)
  unfold runT
  split
  · omega
  · rw [List.length_append, List.length_cons]; omega
theorem spFrom_all : ∀ (xs : List DSpan) (p : Int), spFrom p xs = true → ∀ x ∈ xs, 1 ≤ x.f0 ∧ x.f0 ≤ x.f1 ∧ x.f1 ≤ 999
  | [], _, _, x, hx => by cases hx
  | y :: t, p, h, x, hx => by
    unfold spFrom at h
    simp only [Bool.and_eq_true] at h
    rcases List.mem_cons.1 hx with rfl | hx
    · exact spOk_true h.1
    · exact spFrom_all t _ h.2.2 x hx
theorem spB_all {xs : List DSpan} (h : spB xs = true) : xs.length ≤ 10 ∧ ∀ x ∈ xs, 1 ≤ x.f0 ∧ x.f0 ≤ x.f1 ∧ x.f1 ≤ 999 := by
  unfold spB at h
  simp only [Bool.and_eq_true, decide_eq_true_eq] at h
  exact ⟨h.2, spFrom_all xs _ h.1⟩
theorem accT_len (xs : List DSpan) (hx : ∀ x ∈ xs, 1 ≤ x.f0 ∧ x.f0 ≤ x.f1 ∧ x.f1 ≤ 999) : ∀ k, k ≤ xs.length → (accT xs k).length ≤ 62 * k
  | 0, _ => by rw [accT_zero]; simp
  | 1, h => by
    rw [accT_one xs (by omega)]
    have := hx _ (List.getElem_mem (show 0 < xs.length by omega))
    have := runT_len xs[0] (by omega) (by omega)
    omega
  | k + 2, h => by
    rw [accT_succ xs (k + 1) (by omega) (by omega)]
    have ih := accT_len xs hx (k + 1) (by omega)
    have := hx _ (List.getElem_mem (show k + 1 < xs.length by omega))
    have := runT_len xs[k + 1] (by omega) (by omega)
    rw [List.length_append, List.length_cons]
    omega
theorem numI (n : Int) (h1 : 1 ≤ n) (h2 : n ≤ 999) (w : World) : Calls Tryd.prog 21 #[.int .i64 n] w (RetT (Lib.decDigits n.toNat) w) := by
  have := specNum_any n.toNat (by omega) w
  rwa [show ((n.toNat : Nat) : Int) = n by omega] at this
end Go.Proofs.YtjkahdmmejmilaaDoor

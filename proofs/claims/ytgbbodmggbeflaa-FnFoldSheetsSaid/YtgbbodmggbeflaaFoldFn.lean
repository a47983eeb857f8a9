/-
  PROVED HERE: whether some sheet has not four pages, as slices.ContainsFunc is used. Conditions: each theorem's own.
-/
import Derived.Test.YtgbbodmggbeflaaFold
import Derived.StillTailTactics
import Derived.WalkSpells
set_option linter.unusedVariables false
set_option linter.unusedSimpArgs false
namespace Go.Proofs.Ytgbbodmggbeflaa
open Go.RowKit

def not4 (x : List Int) : Bool := !decide (x.length = 4)
theorem isFour_any (a : Option Addr) (n cap : Nat) (hn : n ≤ 9223372036854775807) (w : World) : Calls Try.prog 59 #[.agg #[.slice a n cap]] w (Ret (.bool (!decide (n = 4))) w) := by
  by_cases h : n = 4
  · subst h
    go_enter Try.func59, Try.ntmps59
    go_wp2
    go_ret
    exact ⟨rfl, (Below.refl _ _).alloc (Nat.le_refl _) _⟩
  · have h1 : ¬ (n : Int) = 4 := by omega
    have e : Hid ((!decide (n = 4)) = ((n : Int) != 4)) := by show _ = _; rw [decide_eq_false h]; simpa using h1
    go_enter Try.func59, Try.ntmps59
    go_wp2
    go_ret
    exact ⟨by rw [e.out]; rfl, (Below.refl _ _).alloc (Nat.le_refl _) _⟩

/-- Some number that is not negative if b holds. -/
def IdxPost (b : Bool) (w : World) (e : Ending) (w' : World) : Prop := ∃ i : Int, e = .returned (.int .i64 i) ∧ decide (0 ≤ i) = b ∧ Below w.heap.size w w'

set_option maxHeartbeats 1000000 in
theorem indexSh_any (v : Value) (xs : List (List Int)) (w : World) (h : SheetR w v xs) :
    Calls Try.prog 63 #[v, .func (.func 59) #[] #[]] w (IdxPost (xs.any not4) w) := by
  obtain ⟨a, ca, rfl, hl, h3⟩ := h.len
  obtain ⟨n, hn⟩ : ∃ n, n = xs.length := ⟨_, rfl⟩
  have H3 := Lib.hid h3
  rw [← hn] at hl ⊢
  have HN := Lib.hid hn
  clear h h3 hn
  go_enter Try.func63, Try.ntmps63
  go_wp2
  go_loopw [8] (fun i wr => ∃ k : Nat, k ≤ n ∧ i = .int .i64 k ∧ Hid (∀ j (hj : j < xs.length), j < k → xs[j].length = 4) ∧ Hid (Below w.heap.size w wr)) (fun i _ => n - (intOf i).toNat)
  case atStart => exact ⟨0, Nat.zero_le _, rfl, fun j _ hj => absurd hj (Nat.not_lt_zero _), Below.refl _ _⟩
  case round =>
    obtain ⟨k, hk, rfl, hall, hb⟩ := hrel
    by_cases hlt : k < n
    · have hk' : k < xs.length := by rw [← HN.out]; exact hlt
      obtain ⟨b, off, u, rfl, l1, c1, i1⟩ := H3.out k hk'
      have d1 : wr.cell? ⟨b, off + k, none⟩ = some u := (hb.out.cell (p := ⟨b, off + k, none⟩) l1).trans c1
      obtain ⟨a', cap', rfl, hl'⟩ := i1.shape
      obtain ⟨m, hm⟩ : ∃ m, m = xs[k].length := ⟨_, rfl⟩
      rw [← hm] at d1 hl'
      have HM := Lib.hid hm
      clear hm i1 c1
      by_cases h4 : m = 4
      · have hall2 : Hid (∀ j (hj : j < xs.length), j < k + 1 → xs[j].length = 4) := by
          intro j hj hjk
          by_cases hjk' : j < k
          · exact hall.out j hj hjk'
          · obtain rfl : j = k := by omega
            rw [← HM.out, h4]
        subst h4
        clear hall HM
        go_wp2_with (go_at_call 59; refine (isFour_any a' 4 cap' (by omega) _).mono ?_; rintro e w1 ⟨rfl, b1⟩)
        go_roundw
        case rel => exact ⟨k + 1, by omega, by go_num, hall2.out, below_next hb.out b1 (Nat.le_refl _)⟩
        case measure => simp [intOf]; omega
      · have e : Hid (xs.any not4 = true) := by
          show _ = _
          rw [List.any_eq_true]
          refine ⟨xs[k], List.getElem_mem hk', ?_⟩
          unfold not4
          rw [← HM.out, decide_eq_false h4]
          rfl
        have dm : decide (m = 4) = false := decide_eq_false h4
        clear hall HM
        go_wp2_with (go_at_call 59; refine (isFour_any a' m cap' hl' _).mono ?_; rw [dm]; rintro e w1 ⟨rfl, b1⟩)
        go_ret
        exact ⟨k, rfl, by rw [e.out]; simp, below_next hb.out b1 (Nat.le_refl _)⟩
    · have e : Hid (xs.any not4 = false) := by
        show _ = _
        rw [List.any_eq_false]
        intro y hy
        obtain ⟨j, hj, rfl⟩ := List.getElem_of_mem hy
        have := hall.out j hj (by have := HN.out; omega)
        unfold not4
        rw [this]
        decide
      clear hall
      go_wp2
      go_ret
      exact ⟨-1, rfl, by rw [e.out]; rfl, hb.out⟩

theorem containsSh_any (v : Value) (xs : List (List Int)) (w : World) (h : SheetR w v xs) :
    Calls Try.prog 58 #[v, .func (.func 59) #[] #[]] w (Ret (.bool (xs.any not4)) w) := by
  have H := Lib.hid h
  clear h
  go_enter Try.func58, Try.ntmps58
  go_wp2_with fail
  refine (indexSh_any v xs w H.out).mono ?_
  rintro e w1 ⟨i, rfl, hi, hb⟩
  have HI := Lib.hid hi
  clear hi
  go_wp2
  go_ret
  exact ⟨by rw [← HI.out]; rfl, hb⟩
theorem foldOk_any (xs : List (List Int)) : foldOk xs = (decide (xs.length ≤ 100) && !xs.any not4) := by
  unfold foldOk
  congr 1
  unfold not4
  induction xs with
  | nil => rfl
  | cons x t ih => rw [List.all_cons, List.any_cons, ih, Bool.not_or, Bool.not_not]
end Go.Proofs.Ytgbbodmggbeflaa

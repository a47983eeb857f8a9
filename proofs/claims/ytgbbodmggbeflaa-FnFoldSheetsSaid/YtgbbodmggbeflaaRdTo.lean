/-
  PROVED HERE: what the reader's pick and odd return, where only a bound of how far it read is known. Conditions: each theorem's own.
-/
import Derived.Test.YtgbbodmggbeflaaRegDraw
set_option linter.unusedVariables false
set_option linter.unusedSimpArgs false
namespace Go.Proofs.Ytgbbodmggbeflaa
open Go.RowKit

/-- A pick: some number below n; the reader goes on. -/
def PickTo (n : Int) (m : Nat) (w : World) (B : Nat) (e : Ending) (w' : World) : Prop :=
  ∃ k : Int, 0 ≤ k ∧ k < n ∧ e = .returned (.int .i64 k) ∧ RdTo B (m + 1) w' ∧ w.grownBy w' (some B)
theorem pick_to (B m : Nat) (n : Int) (w : World) (h : RdTo B m w) (hm : m ≤ 1000000000) (hn : 1 ≤ n) (hn' : n ≤ 9223372036854775807) :
    Calls Try.prog 53 #[.pointer (some ⟨B, 0, none⟩), .int .i64 n] w (PickTo n m w B) := by
  obtain ⟨p, hp, hr⟩ := h
  refine (pick_any B p n w hr (by omega) hn hn').mono ?_
  rintro e w1 ⟨k, h1, h2, rfl, r1, g1, _⟩
  exact ⟨k, h1, h2, rfl, ⟨p + 1, by omega, r1⟩, g1⟩
def OddTo (m : Nat) (w : World) (B : Nat) (e : Ending) (w' : World) : Prop :=
  ∃ b : Bool, e = .returned (.bool b) ∧ RdTo B (m + 1) w' ∧ w.grownBy w' (some B)
theorem odd_to (B m : Nat) (n : Int) (w : World) (h : RdTo B m w) (hm : m ≤ 1000000000) (hn : 0 ≤ n) (hn' : n ≤ 1000000) :
    Calls Try.prog 55 #[.pointer (some ⟨B, 0, none⟩), .int .i64 n] w (OddTo m w B) := by
  by_cases h0 : 0 < n
  · go_enter Try.func55, Try.ntmps55
    go_wp2_with fail
    refine (pick_to B m n w h hm (by omega) (by omega)).mono ?_
    rintro e w1 ⟨k, h1, h2, rfl, r1, g1⟩
    go_wp2
    go_ret
    exact ⟨_, rfl, r1, g1⟩
  · go_enter Try.func55, Try.ntmps55
    go_wp2
    go_ret
    exact ⟨_, rfl, h.mono (by omega), grownBy_refl _ _⟩

theorem RdTo.kept {w w' : World} {B m : Nat} {row : Option Nat} (h : RdTo B m w) (hg : w.grownBy w' row) (hr : ∀ k, row = some k → w.heap.size ≤ k) : RdTo B m w' := by
  obtain ⟨p, hp, hr'⟩ := h
  exact ⟨p, hp, hr'.kept hg hr⟩
theorem RdTo.past {w w' : World} {B m : Nat} {row : Option Nat} (h : RdTo B m w) (hg : w.grownBy w' row) (hr : ∀ k, row = some k → B < k) : RdTo B m w' := by
  obtain ⟨p, hp, hr'⟩ := h
  exact ⟨p, hp, hr'.past hg hr⟩
theorem RdTo.lt {w : World} {B m : Nat} (h : RdTo B m w) : B < w.heap.size := by
  obtain ⟨p, _, hr⟩ := h
  exact hr.lt

theorem owns_neq {w : World} {base : Nat} {e : TypeId} {sz : Nat} {v : Value} {n : Nat} {xs : List Value} (h : w.ownsRow base e sz v n xs) {b : Nat} (hb : b < base ∨ w.heap.size ≤ b) : some b ≠ v.ownBlock := by
  intro e1
  have := h.lt b e1.symm
  omega
end Go.Proofs.Ytgbbodmggbeflaa

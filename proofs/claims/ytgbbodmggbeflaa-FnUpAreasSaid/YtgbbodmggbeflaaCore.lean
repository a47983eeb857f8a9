/-
  PROVED HERE: what the small functions of the translation do: range tests, the reader of codes, comparing and marking rows of numbers. Conditions: each theorem's own.
-/
import Derived.Test.YtgbbodmggbeflaaProg
import Derived.Test.YtgbbodmggbeflaaBase
import Derived.Outline
import Derived.BigQuiet
import Derived.Deep.QuietTactic
set_option linter.unusedVariables false
set_option linter.unusedSimpArgs false
namespace Go.Proofs.Ytgbbodmggbeflaa
open Go.RowKit

theorem alive_any (w : World) : Calls Try.prog 18 #[] w (Ret (.bool true) w) := by
  go_enter Try.func18, Try.ntmps18
  go_wp2
  go_ret
  exact ⟨rfl, by repeat (first | exact Below.refl _ _ | apply Below.drew | (refine Below.alloc ?_ (by simp) _))⟩

/-- A reader of codes at block B, p bytes in. -/
def Rd (w : World) (B p : Nat) : Prop := ∃ (a : Option Addr) (n cap : Nat) (zs : List Int), w.heap[B]? = some (.cells #[.slice a n cap, .int .i64 p] 77 (0, 0)) ∧ n ≤ 2000 ∧
  ∀ j, j < n → ∃ b off, a = some ⟨b, off, none⟩ ∧ b < B ∧ w.cell? ⟨b, off + j, none⟩ = some (.int .u8 (zs.getD j 0)) ∧ 0 ≤ zs.getD j 0 ∧ zs.getD j 0 ≤ 255

theorem Rd.kept {w w' : World} {B p : Nat} {row : Option Nat} (h : Rd w B p) (hg : w.grownBy w' row) (hr : ∀ k, row = some k → w.heap.size ≤ k) : Rd w' B p := by
  obtain ⟨a, n, cap, zs, hb, hn, hc⟩ := h
  have hne : ∀ k, k < w.heap.size → some k ≠ row := fun k hk e => by have := hr k e.symm; omega
  have hB : B < w.heap.size := (Array.getElem?_eq_some_iff.1 hb).1
  refine ⟨a, n, cap, zs, by rw [hg.block B hB (hne B hB)]; exact hb, hn, fun j hj => ?_⟩
  obtain ⟨b, off, ha, hbB, hc', h0, h1⟩ := hc j hj
  have hlt := World.block_lt_of_cell? w _ hc'
  exact ⟨b, off, ha, hbB, hg.cell hc' (hne b hlt), h0, h1⟩

theorem Rd.past {w w' : World} {B p : Nat} {row : Option Nat} (h : Rd w B p) (hg : w.grownBy w' row) (hr : ∀ k, row = some k → B < k) : Rd w' B p := by
  obtain ⟨a, n, cap, zs, hb, hn, hc⟩ := h
  have hne : ∀ k, k ≤ B → some k ≠ row := fun k hk e => by have := hr k e.symm; omega
  have hB : B < w.heap.size := (Array.getElem?_eq_some_iff.1 hb).1
  refine ⟨a, n, cap, zs, by rw [hg.block B hB (hne B (Nat.le_refl _))]; exact hb, hn, fun j hj => ?_⟩
  obtain ⟨b, off, ha, hbB, hc', h0, h1⟩ := hc j hj
  exact ⟨b, off, ha, hbB, hg.cell hc' (hne b (by omega)), h0, h1⟩

def PickPost (n : Int) (w : World) (B p : Nat) (e : Ending) (w' : World) : Prop :=
  ∃ k : Int, 0 ≤ k ∧ k < n ∧ e = .returned (.int .i64 k) ∧ Rd w' B (p + 1) ∧ w.grownBy w' (some B) ∧ w'.heap.size = w.heap.size

theorem Rd.step {w : World} {B p : Nat} (h : Rd w B p) : Rd (w.setCell ⟨B, 1, none⟩ (.int .i64 ((p : Int) + 1))) B (p + 1) ∧ w.grownBy (w.setCell ⟨B, 1, none⟩ (.int .i64 ((p : Int) + 1))) (some B) := by
  obtain ⟨a, n, cap, zs, hb, hn, hc⟩ := h
  refine ⟨⟨a, n, cap, zs, ?_, hn, fun j hj => ?_⟩, ⟨rfl, rfl, rfl, by simp [World.setCell], fun k _ hne => Below.heap_setCell _ _ _ _ (fun e => hne (by rw [e]))⟩⟩
  · simp only [World.setCell, Array.getElem?_modify, if_true, hb]
    simp
  · obtain ⟨b, off, ha, hbB, hc', h0, h1⟩ := hc j hj
    refine ⟨b, off, ha, hbB, ?_, h0, h1⟩
    rw [World.cell?_setCell_other _ _ _ _ (fun e => Nat.ne_of_lt hbB (by have := congrArg Addr.block e; exact this.symm))]
    exact hc'

theorem Rd.drewN {w : World} {B p : Nat} (h : Rd w B p) (n : Nat) : Rd (w.drewN n) B p := h

set_option maxHeartbeats 1000000 in
theorem pick_any (B p : Nat) (n : Int) (w : World) (h : Rd w B p) (hp : p ≤ 1000000000) (hn : 1 ≤ n) (hn' : n ≤ 9223372036854775807) :
    Calls Try.prog 53 #[.pointer (some ⟨B, 0, none⟩), .int .i64 n] w (PickPost n w B p) := by
  have hst := h.step
  obtain ⟨hst1, hst2⟩ := hst
  have hsz : (w.setCell ⟨B, 1, none⟩ (.int .i64 ((p : Int) + 1))).heap.size = w.heap.size := by simp [World.setCell]
  obtain ⟨a, m, cap, zs, hb, hm, hc⟩ := h
  have c0 : w.cell? ⟨B, 0, none⟩ = some (.slice a m cap) := by rw [cell_of_row w B 0 _ _ _ hb]; rfl
  have c1 : w.cell? ⟨B, 1, none⟩ = some (.int .i64 p) := by rw [cell_of_row w B 1 _ _ _ hb]; rfl
  have f1 : w.frozen? ⟨B, 1, none⟩ = false := by simp [World.frozen?, hb]
  have d0 : (w.setCell ⟨B, 1, none⟩ (.int .i64 ((p : Int) + 1))).cell? ⟨B, 0, none⟩ = some (.slice a m cap) := by rw [World.cell?_setCell_other _ _ _ _ (by intro e; cases e)]; exact c0
  have d1 : (w.setCell ⟨B, 1, none⟩ (.int .i64 ((p : Int) + 1))).cell? ⟨B, 1, none⟩ = some (.int .i64 ((p : Int) + 1)) := World.cell?_setCell_same _ _ _ c1
  have hc2 : ∀ j, j < m → ∃ b off, a = some ⟨b, off, none⟩ ∧ (w.setCell ⟨B, 1, none⟩ (.int .i64 ((p : Int) + 1))).cell? ⟨b, off + j, none⟩ = some (.int .u8 (zs.getD j 0)) ∧ 0 ≤ zs.getD j 0 ∧ zs.getD j 0 ≤ 255 := by
    intro j hj
    obtain ⟨b, off, ha, hbB, hc', h0, h1⟩ := hc j hj
    exact ⟨b, off, ha, by rw [World.cell?_setCell_other _ _ _ _ (fun e => Nat.ne_of_lt hbB (by have := congrArg Addr.block e; exact this.symm))]; exact hc', h0, h1⟩
  have H1 := Lib.hid hst1
  have H2 := Lib.hid hst2
  have H3 := Lib.hid hsz
  have HC := Lib.hid hc2
  clear hst1 hst2 hsz hb hc hc2
  by_cases h0 : m = 0
  · subst h0
    go_enter Try.func53, Try.ntmps53
    go_wp2
    go_ret
    exact ⟨0, by omega, by omega, rfl, H1.out, H2.out, H3.out⟩
  · have hm0 : 0 < m := by omega
    have g0 : ((m : Int) == 0) = false := by simp; omega
    obtain ⟨b, off, rfl, _⟩ := HC.out 0 hm0
    have hcell : ∀ j, j < m → (w.setCell ⟨B, 1, none⟩ (.int .i64 ((p : Int) + 1))).cell? ⟨b, off + j, none⟩ = some (.int .u8 (zs.getD j 0)) ∧ 0 ≤ zs.getD j 0 ∧ zs.getD j 0 ≤ 255 := by
      intro j hj
      obtain ⟨b', off', e, h'⟩ := HC.out j hj
      obtain ⟨rfl, rfl⟩ : b = b' ∧ off = off' := by simpa using e
      exact h'
    clear HC
    by_cases hpm : p < m
    · obtain ⟨u, hu⟩ : ∃ u, u = zs.getD p 0 := ⟨_, rfl⟩
      obtain ⟨e1, e2, e3⟩ := hcell p hpm
      rw [← hu] at e1 e2 e3
      clear hu hcell
      go_enter Try.func53, Try.ntmps53
      go_wp2
      go_ret
      exact ⟨u % n, Int.emod_nonneg _ (by omega), Int.emod_lt_of_pos _ (by omega), rfl, H1.out, H2.out, H3.out⟩
    · have hq1 : p % m < m := Nat.mod_lt _ hm0
      have hq2 : (p * 7 + 3) % m < m := Nat.mod_lt _ hm0
      obtain ⟨u, hu⟩ : ∃ u, u = zs.getD (p % m) 0 := ⟨_, rfl⟩
      obtain ⟨e1, e2, e3⟩ := hcell _ hq1
      obtain ⟨v, hv⟩ : ∃ u, u = zs.getD ((p * 7 + 3) % m) 0 := ⟨_, rfl⟩
      obtain ⟨e4, e5, e6⟩ := hcell _ hq2
      rw [← hu] at e1 e2 e3
      rw [← hv] at e4 e5 e6
      clear hu hv hcell
      have x1 : 0 ≤ (p : Int) % (m : Int) := Int.emod_nonneg _ (by omega)
      have x2 : (p : Int) % (m : Int) < (m : Int) := Int.emod_lt_of_pos _ (by omega)
      have x3 : 0 ≤ ((p : Int) * 7 + 3) % (m : Int) := Int.emod_nonneg _ (by omega)
      have x4 : ((p : Int) * 7 + 3) % (m : Int) < (m : Int) := Int.emod_lt_of_pos _ (by omega)
      have x5 : 0 ≤ (p : Int) / (m : Int) := Int.ediv_nonneg (by omega) (by omega)
      have x6 : (p : Int) / (m : Int) ≤ (p : Int) := Int.ediv_le_self _ (by omega)
      go_enter Try.func53, Try.ntmps53
      go_wp2
      go_quiet (fail)
      go_wp2
      go_ret
      have hX : 0 ≤ u * 131 + v * 1117 + (p : Int) * 29 + (p : Int) / (m : Int) * 53 ∧ u * 131 + v * 1117 + (p : Int) * 29 + (p : Int) / (m : Int) * 53 ≤ 9223372036854775807 := by omega
      have hb := i64_xor_bd _ ((u * 131 + v * 1117 + (p : Int) * 29 + (p : Int) / (m : Int) * 53) / 64) hX.1 hX.2 (by omega) (by omega)
      exact ⟨_, Int.tmod_nonneg _ hb.1, Int.tmod_lt_of_pos _ (by omega), rfl, H1.out, grownBy_drewN H2.out _, H3.out⟩

end Go.Proofs.Ytgbbodmggbeflaa

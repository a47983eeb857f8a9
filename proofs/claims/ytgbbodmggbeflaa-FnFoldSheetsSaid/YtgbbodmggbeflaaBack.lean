/-
  PROVED HERE: slices.Backward over a row of sheets, as a range over a function asks for it. Conditions: each theorem's own.
-/
import Derived.Test.YtgbbodmggbeflaaFold
import Derived.RangeFuncNested
import Derived.RangeFuncBound
import Derived.RangeFuncCalls
import Derived.RangeFuncLeaves
import Derived.Shelf.Abstract
import Derived.Shelf.RegionOpen
import Derived.WalkKit
import Derived.OwnWalkIn
import Derived.TacticsInMore
import Derived.LoopNIn
import Derived.LoopIn
set_option linter.unusedVariables false
set_option linter.unusedSimpArgs false
namespace Go.Proofs.Ytgbbodmggbeflaa
open Go.RowKit Go.Shelf
set_option maxRecDepth 100000

/-- The last d indexes of n, from the last one on. -/
def dn (n : Nat) : Nat → List { k : Nat // k < n }
  | 0 => []
  | d + 1 => if h : n - (d + 1) < n then dn n d ++ [⟨n - (d + 1), h⟩] else dn n d
theorem dn_succ (n d : Nat) (h : d < n) : dn n (d + 1) = dn n d ++ [⟨n - (d + 1), by omega⟩] := by
  rw [dn, dif_pos (by omega)]
theorem dn_len (n : Nat) : ∀ d, d ≤ n → (dn n d).length = d
  | 0, _ => rfl
  | d + 1, h => by rw [dn_succ n d (by omega), List.length_append, dn_len n d (by omega)]; rfl

/-- What a round keeps: what lay below n₀, and the iterator's box. -/
def BK (n₀ Bs : Nat) (W W' : World) : Prop := Below n₀ W W' ∧ ∀ v, W.cell? ⟨Bs, 0, none⟩ = some v → W'.cell? ⟨Bs, 0, none⟩ = some v
theorem BK.t {n₀ Bs : Nat} {A B C : World} (h : BK n₀ Bs A B) (k : BK n₀ Bs B C) : BK n₀ Bs A C := ⟨h.1.trans k.1, fun v e => k.2 v (h.2 v e)⟩
theorem BK.b {n₀ Bs : Nat} {w : World} (hn : n₀ ≤ w.heap.size) (hB : Bs < w.heap.size) (W : World) (l : Nat) (o o' : Obj) (hl : w.heap.size ≤ l) (h : W.heap[l]? = some o) (h1 : o.isCells = false) (h2 : o.isWalk = false) : BK n₀ Bs W (W.putObj l o') :=
  ⟨belowK_b hn W l o o' hl h h1 h2, fun v e => (grownBy_putObj' W l o').cell e (by intro e; cases e; exact Nat.lt_irrefl _ (Nat.lt_of_lt_of_le hB hl))⟩

set_option maxHeartbeats 4000000 in
theorem back1_in (F : Fence) (m : Nat) (hf : F.fn 64) (hro : F.round = none) (hm : 1 ≤ m) (l Bs n₀ b off n cap : Nat) (U : Nat → Value) (hU : ∀ k, k < n → ∃ g c d, U k = .slice g c d) (hn : n ≤ 100) (hb : b < n₀) (J Jx : List { k : Nat // k < n } → World → Prop)
    (hY : ∀ pre x W, J pre W → pre.length < n → YieldAt F (m - 1) Try.prog l #[.int .i64 (x.1 : Int), .agg #[U x.1]] W fun e W' =>
      (e = .returned (.bool true) ∧ J (pre ++ [x]) W' ∧ BK n₀ Bs W W') ∨ (e = .returned (.bool false) ∧ Jx (pre ++ [x]) W'))
    (W : World) (hBs : W.cell? ⟨Bs, 0, none⟩ = some (.slice (some ⟨b, off, none⟩) n cap)) (hc : ∀ j, j < n → W.cell? ⟨b, off + j, none⟩ = some (U j)) (h0 : J [] W) :
    CallsIn F m Try.prog 64 #[.func (.yield l) #[] #[], .pointer (some ⟨Bs, 0, none⟩)] W fun e W' => (∃ v, e = .returned v) ∧
      ((∃ ys, ys = dn n n ∧ J ys W') ∨ (∃ pre, (∃ d, d ≤ n ∧ pre = dn n d) ∧ Jx pre W')) := by
  refine callsIn_of_wp Try.func64 rfl hf ?_ hro
  simp only [Try.ntmps64, List.size_toArray, List.length_cons, List.length_nil, Nat.reduceAdd, Nat.reduceSub, Array.replicate_succ, Array.replicate_zero, List.push_toArray, List.append_toArray, List.nil_append, List.cons_append]
  gi_wp2
  gi_loopw [3] (fun i wr => ∃ k : Nat, k ≤ n ∧ i = .int .i64 ((k : Int) - 1) ∧ J (dn n (n - k)) wr ∧ BK n₀ Bs W wr)
    (fun i _ => (intOf i + 1).toNat)
  case atStart => exact ⟨n, Nat.le_refl _, rfl, by rw [Nat.sub_self]; exact h0, Below.refl _ _, fun v e => e⟩
  case round =>
    obtain ⟨k, hk, rfl, hJs, hnx⟩ := hrel
    have hbx := hnx.2 _ hBs
    by_cases hlt : 0 < k
    · obtain ⟨q, rfl⟩ : ∃ q, k = q + 1 := ⟨k - 1, by omega⟩
      have hqn : q < n := by omega
      have hcx : wr.cell? ⟨b, off + q, none⟩ = some (U q) := (hnx.1.cell (p := ⟨b, off + q, none⟩) hb).trans (hc q hqn)
      have hJl : (dn n (n - (q + 1))).length < n := by rw [dn_len n _ (by omega)]; omega
      obtain ⟨fn, tmps, assign, body, hy, hR⟩ := hY _ ⟨q, hqn⟩ wr hJs hJl
      have hdn : dn n (n - (q + 1)) ++ [⟨q, hqn⟩] = dn n (n - q) := by
        obtain ⟨d, hd⟩ : ∃ d, n - (q + 1) = d := ⟨_, rfl⟩
        rw [hd, show n - q = d + 1 by omega, dn_succ n d (by omega)]
        exact congrArg (fun z => dn n d ++ [z]) (Subtype.ext (by show q = n - (d + 1); omega))
      rw [hdn] at hR
      dsimp only at hy
      obtain ⟨g, c, d, hg⟩ := hU q hqn
      rw [hg] at hcx hy
      have hqe : ((q + 1 : Nat) : Int) - 1 = (q : Int) := by omega
      rw [hqe]
      gi_wp2
      refine hR.mono ?_
      rintro e W3 (⟨rfl, hJ3, hk3⟩ | ⟨rfl, hJx3⟩)
      · gi_wp2
        go_roundw
        case rel => exact ⟨q, by omega, by simp, hJ3, hnx.t hk3⟩
        case measure => simp [intOf]
      · gi_wp2
        refine bodyPost_ret (results_none rfl _ _ _) rfl ?_
        exact ⟨⟨_, rfl⟩, .inr ⟨_, ⟨n - q, by omega, rfl⟩, hJx3⟩⟩
    · obtain rfl : k = 0 := by omega
      gi_wp2
      go_end0
      exact ⟨⟨_, rfl⟩, .inl ⟨_, rfl, by simpa using hJs⟩⟩

set_option maxHeartbeats 1000000 in
theorem back1_nil_in (F : Fence) (m : Nat) (hf : F.fn 64) (hro : F.round = none) (l Bs cap : Nat) (a : Option Addr) {α : Type} (J : List α → World → Prop) (W : World) (hBs : W.cell? ⟨Bs, 0, none⟩ = some (.slice a 0 cap)) (h0 : J [] W) :
    CallsIn F m Try.prog 64 #[.func (.yield l) #[] #[], .pointer (some ⟨Bs, 0, none⟩)] W fun e W' => (∃ v, e = .returned v) ∧ J [] W' := by
  refine callsIn_of_wp Try.func64 rfl hf ?_ hro
  simp only [Try.ntmps64, List.size_toArray, List.length_cons, List.length_nil, Nat.reduceAdd, Nat.reduceSub, Array.replicate_succ, Array.replicate_zero, List.push_toArray, List.append_toArray, List.nil_append, List.cons_append]
  gi_wp2
  gi_loopw [3] (fun i wr => i = .int .i64 (-1) ∧ J [] wr) (fun _ _ => 0)
  case atStart => exact ⟨rfl, h0⟩
  case round =>
    obtain ⟨rfl, hJs⟩ := hrel
    gi_wp2
    go_end0
    exact ⟨⟨_, rfl⟩, hJs⟩

set_option maxHeartbeats 1000000 in
theorem back_any (a : Option Addr) (len cap : Nat) (w : World) :
    Calls Try.prog 60 #[.slice a len cap] w fun e w' => e = .returned (.func (.func 64) #[] #[.pointer (some ⟨w.heap.size, 0, none⟩)]) ∧ w' = w.alloc (.cells #[.slice a len cap] 48) := by
  go_enter Try.func60, Try.ntmps60
  go_wp2
  go_ret
  exact ⟨rfl, rfl⟩

theorem back_stops (m Bs n₀ : Nat) (hm : 1 ≤ m) (sv : Value) (n : Nat) (hn : n ≤ 100) (U : Nat → Value) (hU : ∀ k, k < n → ∃ g c d, U k = .slice g c d) (w : World) (hBs : Bs < w.heap.size) (hn₀ : n₀ ≤ w.heap.size)
    (hc : w.cell? ⟨Bs, 0, none⟩ = some sv) (hI : (n = 0 ∧ ∃ a c, sv = .slice a 0 c) ∨ ∃ b off cap, sv = .slice (some ⟨b, off, none⟩) n cap ∧ b < n₀ ∧ ∀ j, j < n → w.cell? ⟨b, off + j, none⟩ = some (U j)) :
    SeqStopsK Fence.wide m Try.prog 64 #[.pointer (some ⟨Bs, 0, none⟩)] (fun x : { k : Nat // k < n } => #[Value.int .i64 (x.1 : Int), Value.agg #[U x.1]]) (BK n₀ Bs) (fun ys => ys = dn n n) (fun pre => ∃ d, d ≤ n ∧ pre = dn n d) n w := fun l J Jx W hW _ _ hY h0 => by
  have hc' := (hW.cell (p := ⟨Bs, 0, none⟩) hBs).trans hc
  rcases hI with ⟨rfl, a, c, rfl⟩ | ⟨b, off, cap, rfl, hb, hcs⟩
  · exact (back1_nil_in Fence.wide m trivial rfl l Bs c a J W hc' h0).mono fun e W' ⟨he, hj⟩ => ⟨he, .inl ⟨_, rfl, hj⟩⟩
  · exact back1_in Fence.wide m trivial rfl hm l Bs n₀ b off n cap U hU hn hb J Jx hY W hc' (fun j hj => ((hW.mono hn₀).cell (p := ⟨b, off + j, none⟩) hb).trans (hcs j hj)) h0
end Go.Proofs.Ytgbbodmggbeflaa

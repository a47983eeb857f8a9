/-
  PROVED HERE: what the printer's lines need, part C26. Conditions: each theorem's own.
-/
import Derived.Test.YtofnchdijanikaaGreatDoorC25
import Derived.Deep.RegionHeldLaw
import Derived.Test.YtofnchdijanikaaGreatDoorC22
import Derived.Deep.AppendLies
set_option linter.unusedVariables false
set_option linter.unusedSimpArgs false
set_option maxRecDepth 100000
namespace Go.Proofs.YtofnchdijanikaaGreatDoor
open Go.RowKit
theorem step_list {P : Program} {ops ops' : Array Oper} {o : Oper} {a : Act} {w : World} {K : Act → World → Prop} {Q : Exit → Act → World → Prop} {E : Prop} (hg : o.guard = none)
  (h : wpList P ops' (fun ex a' w' => ex = .normal ∧ K a' w') [o] a w) : if Region.wanted o (yielded ops a.tmps) = true then Oper.wp P o a w K Q else E := by
 have hw : Region.wanted o (yielded ops a.tmps) = true := by simp [Region.wanted, hg]
 have hw' : Region.wanted o (yielded ops' a.tmps) = true := by simp [Region.wanted, hg]
 rw [if_pos hw]
 unfold wpList at h
 rw [if_pos hw'] at h
 rcases h with h | ⟨_, _, _, h, _⟩
 ·have hk : ∀ a w, wpList P ops' (fun ex a' w' => ex = .normal ∧ K a' w') [] a w → K a w := fun a w h => h.2
  unfold Oper.wp at *
  generalize (execOp a.eval o).run P w = r at *
  cases r with
  | ok n w' =>
   cases n <;> simp only [Oper.upon] at h ⊢ <;>
    first
     | exact hk _ _ h
     | exact Calls.mono h (fun e w'' he => by
       cases e
       ·exact hk _ _ he
       ·exact absurd he.1 (by simp)
       ·obtain ⟨_, _, h2, _⟩ := he; cases h2)
     | exact Rows.mono h (fun _ _ he => hk _ _ he)
  | halt x w' =>
   cases x <;> simp only [Oper.upon] at h ⊢
   all_goals first
    | exact absurd h.1 (by simp)
    | exact h
 ·cases h
section
variable {ops : Array Oper} {o : Oper} {a : Act} {K : Act → World → Prop} {Q : Exit → Act → World → Prop} {E : Prop}
theorem step_strs (w wr : World) (hgd : o.guard = none) (s x : Operand)
  (ho : o.op = .call { callee := .builtin .append, args := #[s, x], argTypes := #[23, 23] }) (B : Nat) (v : Value) (xs ys : List (List UInt8)) (u : Value)
  (hs : a.eval s = v) (hx : a.eval x = u) (hown : OwnT wr B v xs) (hu : TxtS wr u ys) (hz : NC u) (hn : xs.length ≤ 4000000) (hm : ys.length ≤ 4000000) (hB : B ≤ w.heap.size) (hb : Below B w wr)
  (h : ∀ z n c w', OwnT w' B (.slice z n c) (xs ++ ys) → Below B w w' → Moved wr v (.slice z n c) → wr.grownBy w' v.ownBlock → K (a.put o.dst (.slice z n c)) w') :
  if Region.wanted o (yielded ops a.tmps) = true then Oper.wp Tryz.prog o a wr K Q else E :=
 step_list (ops' := ops) hgd (append_strs w wr hgd s x ho B v xs ys u hs hx hown hu (fun c n e => hz c n e) hn hm hB hb fun v' w' h1 h2 h3 h4 => by
  obtain ⟨z, c, rfl⟩ := own_form h1
  exact wpList_nil ⟨rfl, h _ _ _ w' h1 h2 h3 h4⟩)
theorem step_ss (w wr : World) (hgd : o.guard = none) (s x : Operand)
  (ho : o.op = .call { callee := .builtin .append, args := #[s, x], argTypes := #[22, 22] }) (B hi : Nat) (v : Value) (xss : List (List (List UInt8))) (us : List Value) (z : Option Addr) (n c : Nat) (l : List (List UInt8))
  (hs : a.eval s = v) (hx : a.eval x = .slice (some ⟨wr.heap.size, 0, none⟩) 1 1) (hown : OwnSU wr B hi v xss us) (hhi : hi ≤ wr.heap.size) (hu : OwnT wr B (.slice z n c) l) (hg : ∀ k, (Value.slice z n c).ownBlock = some k → hi ≤ k) (hn : xss.length ≤ 4000000) (hB : B ≤ w.heap.size) (hb : Below B w wr)
  (h : ∀ z' n' c' w', OwnSU w' B w'.heap.size (.slice z' n' c') (xss ++ [l]) (us ++ [.slice z n c]) → Below B w w' → Moved (wr.alloc (.cells #[.slice z n c] 23)) v (.slice z' n' c') → wr.grownBy w' v.ownBlock → K (a.put o.dst (.slice z' n' c')) w') :
  if Region.wanted o (yielded ops a.tmps) = true then Oper.wp Tryz.prog o a (wr.alloc (.cells #[.slice z n c] 23)) K Q else E :=
 step_list (ops' := ops) hgd (append_ss w wr hgd s x ho B hi v xss us z n c l hs hx hown hhi hu hg hn hB hb fun v' w' h1 h2 h3 h4 => by
  obtain ⟨z', c', rfl⟩ := h1.form
  exact wpList_nil ⟨rfl, h _ _ _ w' h1 h2 h3 h4⟩)
theorem step_str (w wr : World) (hgd : o.guard = none) (s x : Operand)
  (ho : o.op = .call { callee := .builtin .append, args := #[s, x], argTypes := #[23, 23] }) (B : Nat) (v : Value) (xs : List (List UInt8)) (l : List UInt8)
  (hs : a.eval s = v) (hx : a.eval x = .slice (some ⟨wr.heap.size, 0, none⟩) 1 1) (hown : OwnT wr B v xs) (hn : xs.length ≤ 4000000) (hB : B ≤ w.heap.size) (hb : Below B w wr)
  (h : ∀ z n c w', OwnT w' B (.slice z n c) (xs ++ [l]) → Below B w w' → Moved (wr.alloc (.cells #[.string (bs l)] 9)) v (.slice z n c) → wr.grownBy w' v.ownBlock → K (a.put o.dst (.slice z n c)) w') :
  if Region.wanted o (yielded ops a.tmps) = true then Oper.wp Tryz.prog o a (wr.alloc (.cells #[.string (bs l)] 9)) K Q else E :=
 step_list (ops' := ops) hgd (append_str w wr hgd s x ho B v xs l hs hx hown hn hB hb fun v' w' h1 h2 h3 h4 => by
  obtain ⟨z, c, rfl⟩ := own_form h1
  exact wpList_nil ⟨rfl, h _ _ _ w' h1 h2 h3 h4⟩)
end
end Go.Proofs.YtofnchdijanikaaGreatDoor
namespace Go.Proofs.YtofnchdijanikaaGreatDoor
open Go.RowKit
theorem OwnSU.grown' {w w' : World} {base hi : Nat} {v : Value} {xs : List (List (List UInt8))} {us : List Value} {row : Option Nat} (h : OwnSU w base hi v xs us) (hg : w.grownBy w' row) (hv : ∀ k, row = some k → v.ownBlock ≠ some k) (hu : ∀ k, row = some k → ∀ u ∈ us, u.ownBlock ≠ some k) : OwnSU w' base hi v xs us := by
 have key : ∀ z : Value, (∀ k, row = some k → z.ownBlock ≠ some k) → z.ownBlock = none ∨ z.ownBlock ≠ row := fun z hz => by
  cases row with
  | none => cases hb : z.ownBlock with
   | none => exact .inl rfl
   | some k => exact .inr (by simp)
  | some k => exact .inr (hz k rfl)
 obtain ⟨h1, h2, h2', h3, h4⟩ := h
 refine ⟨h1, World.ownsRow.kept h2 hg (key v hv), h2', fun j hj => ?_, h4⟩
 obtain ⟨u, e, ho, hk, ha⟩ := h3 j hj
 exact ⟨u, e, World.ownsRow.kept ho hg (key u fun k hk => hu k hk u (List.mem_of_getElem? e)), hk, ha⟩
end Go.Proofs.YtofnchdijanikaaGreatDoor
namespace Go.Proofs.YtofnchdijanikaaGreatDoor
open Go.RowKit
theorem isNumW_false {w0 : List UInt8} (h : isNumW w0 = false) : (w0 == [119, 105, 100, 116, 104]) = false ∧ (w0 == [109, 111, 115, 116]) = false ∧ (w0 == [108, 105, 110, 101, 115]) = false ∧ (w0 == [112, 97, 103, 101]) = false := by
 unfold isNumW tWidth tMost tLines tPage at h
 simp only [Bool.or_eq_false_iff] at h
 exact ⟨h.1, h.2.1, h.2.2.1, h.2.2.2⟩
theorem isNumW_true {w0 : List UInt8} (h : isNumW w0 = true) : w0 = tWidth ∨ w0 = tMost ∨ w0 = tLines ∨ w0 = tPage := by
 unfold isNumW at h
 simpa only [Bool.or_eq_true, beq_iff_eq] using h
theorem dec_lt : ∀ (k n : Nat), (Lib.decDigits n).length ≤ k → n < 10 ^ k
 | 0, n, h => by have := dec_pos n; omega
 | k + 1, n, h => by
  rw [Lib.decDigits] at h
  have hp : 10 ^ (k + 1) = 10 * 10 ^ k := by rw [Nat.pow_succ]; omega
  have h1 : 1 ≤ 10 ^ k := Nat.one_le_pow _ _ (by decide)
  split at h
  ·omega
  ·rw [List.length_append] at h
   have := dec_lt k (n / 10) (by simpa using h)
   omega
theorem numV_le {s : List UInt8} {n : Nat} (h : numV s = some n) : n ≤ 999999 := by
 obtain ⟨rfl, h6⟩ := numV_some h
 have := dec_lt 6 n h6
 omega
theorem bookP_few {b : DBook} {p : List (List (List UInt8))} (h : bookP b = some p) : p.length ≤ 30 := by
 unfold bookP at h
 cases hl : bookL b with
 | none => rw [hl] at h; cases h
 | some ls =>
  rw [hl] at h
  simp only at h
  split at h
  ·rename_i h30
   cases hb : bestP (keeps (counts ls)) b.lines.toNat with
   | none => rw [hb] at h; cases h
   | some t =>
    rw [hb] at h
    simp only [Option.some.injEq] at h
    subst h
    have h1 := (bestP_ends hb).2
    have h2 := (bookTo_len _ ls hl).2.2.1
    rw [keeps_len] at h1
    rw [cutP_len]
    omega
  ·cases h
end Go.Proofs.YtofnchdijanikaaGreatDoor

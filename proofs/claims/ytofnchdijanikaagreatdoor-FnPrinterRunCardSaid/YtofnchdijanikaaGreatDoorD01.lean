/-
  PROVED HERE: what the printer's lines need, part D01. Conditions: each theorem's own.
-/
import Derived.Orders
import Derived.WalkKit
import Derived.KernelRfl
import Derived.Test.YtofnchdijanikaaGreatDoorC03
import Derived.Test.YtofnchdijanikaaGreatDoorC07
import Derived.Deep.Cut
import Derived.Test.YtofnchdijanikaaGreatDoorV01
set_option linter.unusedVariables false
set_option linter.unusedSimpArgs false
set_option maxRecDepth 100000
namespace Go.Proofs.YtofnchdijanikaaGreatDoor
def openB (listed : Array Bool) (n : Nat) : Nat := ((List.range n).filter fun i => !listed.getD i false).length
theorem filter_lt {p q : Nat → Bool} (hpq : ∀ i, q i = true → p i = true) : ∀ (l : List Nat), (∃ i ∈ l, p i = true ∧ q i = false) → (l.filter q).length < (l.filter p).length
 | [], h => by obtain ⟨_, hm, _⟩ := h; cases hm
 | x :: l, h => by
  obtain ⟨i, hm, hp, hq⟩ := h
  have hle : (l.filter q).length ≤ (l.filter p).length := by
   clear hm
   induction l with
   | nil => simp
   | cons y l ih =>
    simp only [List.filter_cons]
    by_cases h1 : q y = true
    ·simp [h1, hpq y h1, ih]
    ·by_cases h2 : p y = true
     ·simp [h1, h2]; omega
     ·simp [h1, h2, ih]
  simp only [List.filter_cons]
  rcases List.mem_cons.1 hm with rfl | hm
  ·simp [hp, hq]; omega
  ·have ih := filter_lt hpq l ⟨i, hm, hp, hq⟩
   by_cases h1 : q x = true
   ·simp [h1, hpq x h1, ih]
   ·by_cases h2 : p x = true
    ·simp [h1, h2]; omega
    ·simp [h1, h2, ih]
theorem openB_zero {listed : Array Bool} {n : Nat} (h : openB listed n = 0) : ∀ i, i < n → listed.getD i false = true := by
 intro i hi
 unfold openB at h
 have h2 := List.eq_nil_of_length_eq_zero h
 rw [List.filter_eq_nil_iff] at h2
 simpa using h2 i (List.mem_range.2 hi)
section
variable {P : Program} {ops : Array Oper} {Q : Exit → Act → World → Prop}
def Framed (dst : Nat → Nat) (n : Nat) (a0 a : Act) : Prop := a.tmps.size = a0.tmps.size ∧ a.defers = a0.defers ∧ ∀ t, (∀ i, i < n → dst i ≠ t) → a.tmps[t]? = a0.tmps[t]?
theorem Framed.put {dst : Nat → Nat} {n : Nat} {a0 a : Act} (h : Framed dst n a0 a) {i : Nat} (hi : i < n) (v : Value) : Framed dst n a0 (a.put (some (dst i)) v) := by
 refine ⟨by simpa [Act.put] using h.1, by simpa [Act.put] using h.2.1, fun t ht => ?_⟩
 rw [← h.2.2 t ht]
 simp only [Act.put]
 rw [Array.getElem?_setIfInBounds]
 simp [ht i hi]
theorem ready_mem {md : Region.Mode} {listed : Array Bool} {i : Nat} (h : i ∈ Region.ready md ops listed) :
  i < ops.size ∧ listed.getD i true = false ∧ ∀ o, ops[i]? = some o → ∀ e ∈ o.after, Region.binds md e = true → listed.getD e.on false = true := by
 unfold Region.ready at h
 rw [List.mem_filter] at h
 obtain ⟨h1, h2⟩ := h
 simp only [Bool.and_eq_true, Bool.not_eq_true'] at h2
 refine ⟨List.mem_range.1 h1, h2.1, fun o ho e he hb => ?_⟩
 have h3 := h2.2
 rw [ho] at h3
 simp only [Option.map_some, Option.getD_some] at h3
 have h4 := (Array.all_eq_true'.1 h3) e he
 rw [hb] at h4
 simpa using h4
theorem ready_nil {listed : Array Bool} {n : Nat} (hn : ops.size = n) (hs : listed.size = n) (hlow : ∀ (i : Nat) (o : Oper), ops[i]? = some o → ∀ e ∈ o.after, Region.binds .any e = true → Edge.on e < i) (h : Region.ready .any ops listed = []) :
  ∀ i, i < n → listed.getD i false = true := by
 intro i
 induction i using Nat.strongRecOn with
 | ind i ih =>
  intro hi
  by_cases hf : listed.getD i false = true
  ·exact hf
  ·exfalso
   have hm : i ∈ Region.ready .any ops listed := by
    unfold Region.ready
    rw [List.mem_filter]
    refine ⟨List.mem_range.2 (by omega), ?_⟩
    have ho : ops[i]? = some ops[i] := Array.getElem?_eq_getElem (by omega)
    rw [ho]
    simp only [Option.map_some, Option.getD_some, Bool.and_eq_true, Bool.not_eq_true']
    refine ⟨?_, Array.all_eq_true'.2 fun e he => ?_⟩
    ·simp only [Array.getD_eq_getD_getElem?] at hf ⊢
     rw [Array.getElem?_eq_getElem (by omega)] at hf ⊢
     simpa using hf
    ·cases hb : Region.binds .any e
     ·simp
     ·have hlt := hlow i _ ho e he hb
      simp [ih e.on hlt (by omega)]
   rw [h] at hm
   cases hm
theorem wpOp_of {o : Oper} {i : Nat} {K : Act → World → Prop} {a : Act} {w : World} (ho : ops[i]? = some o) (hg : o.guard = none) (h : o.wp P a w K Q) : wpOp P ops Q i K a w := by
 unfold wpOp
 simp only [ho]
 rw [if_pos (by simp [Region.wanted, hg])]
 exact .inl h
end
end Go.Proofs.YtofnchdijanikaaGreatDoor
namespace Go.Proofs.YtofnchdijanikaaGreatDoor
open Go.RowKit
def OpenPost (w : World) (e : Ending) (w' : World) : Prop := ∃ B, e = .returned (.pointer (some ⟨B, 0, none⟩)) ∧ Rd w' B 0 ∧ w.heap.size ≤ B ∧ Below w.heap.size w w'
def Code8 (w : World) (a : Option Addr) (n cap : Nat) : Prop := n ≤ cap ∧ n ≤ maxLen ∧ ∃ zs : List Int, ∀ j, j < n → ∃ b off, a = some ⟨b, off, none⟩ ∧ w.cell? ⟨b, off + j, none⟩ = some (.int .u8 (zs.getD j 0)) ∧ 0 ≤ zs.getD j 0 ∧ zs.getD j 0 ≤ 255
theorem Code8.below {w w' : World} {a : Option Addr} {n cap : Nat} (h : Code8 w a n cap) (hb : Below w.heap.size w w') : Code8 w' a n cap := by
 obtain ⟨hcap, hn, zs, hc⟩ := h
 refine ⟨hcap, hn, zs, fun j hj => ?_⟩
 obtain ⟨b, off, ha, h', h0, h1⟩ := hc j hj
 exact ⟨b, off, ha, (hb.cell (p := ⟨b, off + j, none⟩) (World.block_lt_of_cell? w _ h')).trans h', h0, h1⟩
theorem Code8.none (w : World) : Code8 w Option.none 0 0 := ⟨nR, Nat.zero_le _, [], fun j hj => by omega⟩
theorem Code8.mk {w : World} {x : Addr} {n : Nat} {cap : Nat} (zs : List Int) (hn : n ≤ cap) (hm : cap ≤ maxLen) (hz : cap ≤ zs.length) (hc : ∀ i, i < zs.length → w.cell? (x.add i) = some (.int .u8 (zs.getD i 0))) (hw : ∀ n ∈ zs, (Lit.int .u8 n).wf = true) : Code8 w (some x) n cap := by
 refine ⟨hn, by omega, zs, fun j hj => ?_⟩
 obtain ⟨b, off, rfl, hc'⟩ := ints_at hc (by omega)
 have hj' : j < zs.length := by omega
 have hb := bounds_u8 (hw (zs.getD j 0) (by simp [List.getD, hj']))
 exact ⟨b, off, rfl, hc' j hj', hb.1, hb.2⟩
theorem open_any (a : Option Addr) (n cap : Nat) (w : World) (h : Code8 w a n cap) :
  Calls Tryz.prog 46 #[.slice a n cap] w (OpenPost w) := by
 obtain ⟨hcap, hn, zs, hc⟩ := h
 have hn' : n ≤ 9223372036854775807 := by unfold maxLen at hn; omega
 have HC := hQ hc
 clear hc hn
 by_cases h2 : 2000 < n
 ·obtain ⟨b, off, rfl, _⟩ := HC.out 0 (by omega)
  go_enter Tryz.func46, Tryz.ntmps46
  go_wp2
  go_ret
  refine ⟨_, rfl, ⟨some ⟨b, off, none⟩, 2000, cap, zs, heap_alloc_new w _, by omega, fun j hj => ?_⟩, nR, (Below.refl _ _).alloc nR _⟩
  obtain ⟨b', off', ha, h', h0, h1⟩ := HC.out j (by omega)
  have hlt := World.block_lt_of_cell? w _ h'
  exact ⟨b', off', ha, by simp at hlt; omega, by rw [World.cell?_alloc_past _ _ _ hlt]; exact h', h0, h1⟩
 ·go_enter Tryz.func46, Tryz.ntmps46
  go_wp2
  go_ret
  refine ⟨_, rfl, ⟨a, n, cap, zs, heap_alloc_new w _, by omega, fun j hj => ?_⟩, nR, (Below.refl _ _).alloc nR _⟩
  obtain ⟨b, off, ha, h', h0, h1⟩ := HC.out j hj
  have hlt := World.block_lt_of_cell? w _ h'
  exact ⟨b, off, ha, by simp at hlt; omega, by rw [World.cell?_alloc_past _ _ _ hlt]; exact h', h0, h1⟩
end Go.Proofs.YtofnchdijanikaaGreatDoor
namespace Go.Proofs.YtofnchdijanikaaGreatDoor
open Go.RowKit
theorem lit_cell (w : World) (l : List Int) (t : TypeId) (i : Nat) (h : i < l.length) :
  ∃ z, z ∈ l ∧ (w.alloc (.cells (l.map (Value.int .i64)).toArray t)).cell? ⟨w.heap.size, i, none⟩ = some (.int .i64 z) := by
 refine ⟨l[i], List.getElem_mem h, ?_⟩
 rw [World.cell?_alloc_at _ _ _ _ rfl]
 simp [h]
theorem Rd.lt {w : World} {B p : Nat} (h : Rd w B p) : B < w.heap.size := by
 obtain ⟨_, _, _, _, hb, _⟩ := h
 exact (Array.getElem?_eq_some_iff.1 hb).1
def NumPostD (lo hi : Int) (d : Nat) (w : World) (B p : Nat) (e : Ending) (w' : World) : Prop :=
 ∃ k : Int, lo ≤ k ∧ k ≤ hi ∧ e = .returned (.int .i64 k) ∧ Rd w' B (p + d) ∧ w.grownBy w' (some B)
end Go.Proofs.YtofnchdijanikaaGreatDoor
namespace Go.Proofs.YtofnchdijanikaaGreatDoor
open Go.RowKit
def RdTo (B m : Nat) (w : World) : Prop := ∃ p, p ≤ m ∧ Rd w B p
theorem RdTo.mono {B m m' : Nat} {w : World} (h : RdTo B m w) (hm : m ≤ m') : RdTo B m' w := by
 obtain ⟨p, hp, hr⟩ := h
 exact ⟨p, by omega, hr⟩
def fill : Array Value → List Nat → List Value → Array Value
 | t, d :: ds, v :: vs => fill (t.setIfInBounds d v) ds vs
 | t, _, _ => t
theorem fill_size : ∀ (ds : List Nat) (vs : List Value) (t : Array Value), (fill t ds vs).size = t.size
 | [], _, _ => by simp [fill]
 | _ :: _, [], _ => by simp [fill]
 | d :: ds, v :: vs, t => by rw [fill, fill_size ds vs]; simp
theorem fill_other : ∀ (ds : List Nat) (vs : List Value) (t : Array Value) (k : Nat), k ∉ ds → (fill t ds vs)[k]? = t[k]?
 | [], _, _, _, _ => by simp [fill]
 | _ :: _, [], _, _, _ => by simp [fill]
 | d :: ds, v :: vs, t, k, h => by
  rw [fill, fill_other ds vs _ k (fun hm => h (List.mem_cons_of_mem _ hm)), Array.getElem?_setIfInBounds, if_neg (fun e => h (by rw [e]; exact List.mem_cons_self))]
theorem fill_at : ∀ (ds : List Nat) (vs : List Value) (t : Array Value) (i : Nat), ds.Nodup → ds.length = vs.length → (∀ d ∈ ds, d < t.size) → i < ds.length → (fill t ds vs)[ds.getD i 0]? = some (vs.getD i undef)
 | [], _, _, _, _, _, _, h => by simp at h
 | _ :: _, [], _, _, _, h, _, _ => by simp at h
 | d :: ds, v :: vs, t, 0, hn, hl, hs, _ => by
  rw [fill, List.getD_cons_zero, List.getD_cons_zero, fill_other ds vs _ d (List.nodup_cons.1 hn).1]
  simp [hs d List.mem_cons_self]
 | d :: ds, v :: vs, t, i + 1, hn, hl, hs, hi => by
  rw [fill, List.getD_cons_succ, List.getD_cons_succ]
  exact fill_at ds vs _ i (List.nodup_cons.1 hn).2 (by simpa using hl) (fun x hx => by simpa using hs x (List.mem_cons_of_mem _ hx)) (by simpa using hi)
end Go.Proofs.YtofnchdijanikaaGreatDoor
namespace Go.Proofs.YtofnchdijanikaaGreatDoor
open Go.RowKit
def PickTo (n : Int) (m : Nat) (w : World) (B : Nat) (e : Ending) (w' : World) : Prop :=
 ∃ k : Int, 0 ≤ k ∧ k < n ∧ e = .returned (.int .i64 k) ∧ RdTo B (m + 1) w' ∧ w.grownBy w' (some B)
theorem pick_to (B m : Nat) (n : Int) (w : World) (h : RdTo B m w) (hm : m ≤ 1000000000) (hn : 1 ≤ n) (hn' : n ≤ 9223372036854775807) :
  Calls Tryz.prog 48 #[.pointer (some ⟨B, 0, none⟩), .int .i64 n] w (PickTo n m w B) := by
 obtain ⟨p, hp, hr⟩ := h
 refine (pick_any B p n w hr (by omega) hn hn').mono ?_
 rintro e w1 ⟨k, h1, h2, rfl, r1, g1, _⟩
 exact ⟨k, h1, h2, rfl, ⟨p + 1, by omega, r1⟩, g1⟩
def OddTo (m : Nat) (w : World) (B : Nat) (e : Ending) (w' : World) : Prop :=
 ∃ b : Bool, e = .returned (.bool b) ∧ RdTo B (m + 1) w' ∧ w.grownBy w' (some B)
theorem odd_to (B m : Nat) (n : Int) (w : World) (h : RdTo B m w) (hm : m ≤ 1000000000) (hn : 0 ≤ n) (hn' : n ≤ 1000000) :
  Calls Tryz.prog 50 #[.pointer (some ⟨B, 0, none⟩), .int .i64 n] w (OddTo m w B) := by
 by_cases h0 : 0 < n
 ·go_enter Tryz.func50, Tryz.ntmps50
  go_wp2_with fail
  refine (pick_to B m n w h hm (by omega) (by omega)).mono ?_
  rintro e w1 ⟨k, h1, h2, rfl, r1, g1⟩
  go_wp2
  go_ret
  exact ⟨_, rfl, r1, g1⟩
 ·go_enter Tryz.func50, Tryz.ntmps50
  go_wp2
  go_ret
  exact ⟨_, rfl, h.mono (by omega), grownBy_refl _ _⟩
theorem RdTo.kept {w w' : World} {B m : Nat} {row : Option Nat} (h : RdTo B m w) (hg : w.grownBy w' row) (hr : ∀ k, row = some k → w.heap.size ≤ k) : RdTo B m w' := by
 obtain ⟨p, hp, hr'⟩ := h
 exact ⟨p, hp, hr'.kept hg hr⟩
theorem RdTo.past {w w' : World} {B m : Nat} {row : Option Nat} (h : RdTo B m w) (hg : w.grownBy w' row) (hr : ∀ k, row = some k → B < k) : RdTo B m w' := by
 obtain ⟨p, hp, hr'⟩ := h
 exact ⟨p, hp, hr'.past hg hr⟩
theorem RdTo.lt {w : World} {B m : Nat} (h : RdTo B m w) : B < w.heap.size := by
 obtain ⟨p, _, hr⟩ := h
 exact hr.lt
theorem owns_neq {w : World} {base : Nat} {e : TypeId} {sz : Nat} {v : Value} {n : Nat} {xs : List Value} (h : w.ownsRow base e sz v n xs) {b : Nat} (hb : b < base ∨ w.heap.size ≤ b) : some b ≠ v.ownBlock := by
 intro e1
 have := h.lt b e1.symm
 omega
end Go.Proofs.YtofnchdijanikaaGreatDoor
namespace Go.Proofs.YtofnchdijanikaaGreatDoor
open Go.RowKit
inductive TyS where
 | num (lo hi : Int) | rd | sl (n : Nat) (lo hi : Int) | el (lo hi : Int) | non | is (v : Value)
 | str (c : Nat) | ss (n c : Nat) | es (c : Nat) | own (b c : Nat) | bx (b : Nat) | bk (b c : Nat)
def TyS.ok (B : Nat) : TyS → Value → World → Prop
 | .num lo hi, v, _ => ∃ k : Int, v = .int .i64 k ∧ lo ≤ k ∧ k ≤ hi
 | .rd, v, _ => v = .pointer (some ⟨B, 0, none⟩)
 | .sl n lo hi, v, w => ∃ g, v = .slice (some ⟨g, 0, none⟩) n n ∧ g ≠ B ∧ ∀ i, i < n → ∃ k, w.cell? ⟨g, i, none⟩ = some (.int .i64 k) ∧ lo ≤ k ∧ k ≤ hi
 | .el lo hi, v, w => ∃ g i, v = .pointer (some ⟨g, i, none⟩) ∧ g ≠ B ∧ ∃ k, w.cell? ⟨g, i, none⟩ = some (.int .i64 k) ∧ lo ≤ k ∧ k ≤ hi
 | .non, _, _ => True
 | .is u, v, _ => v = u
 | .str c, v, _ => ∃ l : List UInt8, v = .string (bs l) ∧ l.length ≤ c
 | .ss n c, v, w => ∃ g, v = .slice (some ⟨g, 0, none⟩) n n ∧ g ≠ B ∧ ∀ i, i < n → ∃ l : List UInt8, w.cell? ⟨g, i, none⟩ = some (.string (bs l)) ∧ l.length ≤ c
 | .es c, v, w => ∃ g i, v = .pointer (some ⟨g, i, none⟩) ∧ g ≠ B ∧ ∃ l : List UInt8, w.cell? ⟨g, i, none⟩ = some (.string (bs l)) ∧ l.length ≤ c
 | .own b c, v, w => B < b ∧ ∃ xs : List (List UInt8), OwnT w b v xs ∧ xs.length ≤ 1000 ∧ ∀ x ∈ xs, x.length ≤ c
 | .bx b, v, w => B < b ∧ ∃ g, v = .pointer (some ⟨g, 0, none⟩) ∧ w.ownsRow b 27 5 (.slice (some ⟨g, 0, none⟩) 1 1) 1 [.slice none 0 0, .slice none 0 0, .int .i64 0, .int .i64 0, .int .i64 0]
 | .bk b c, v, w => ∃ (q : Value) (x y z : Int), v = .agg #[.slice none 0 0, q, .int .i64 x, .int .i64 y, .int .i64 z] ∧ B < b ∧ ∃ xs : List (List UInt8), OwnT w b q xs ∧ xs.length ≤ 1000 ∧ ∀ x ∈ xs, x.length ≤ c
theorem TyS.ok.kept {B : Nat} {T : TyS} {v : Value} {w w' : World} (h : T.ok B v w) (hg : w.grownBy w' (some B)) : T.ok B v w' := by
 cases T with
 | num lo hi => exact h
 | rd => exact h
 | sl n lo hi =>
  obtain ⟨g, hv, hne, hc⟩ := h
  refine ⟨g, hv, hne, fun i hi => ?_⟩
  obtain ⟨k, hk, h2⟩ := hc i hi
  exact ⟨k, hg.cell hk (by simpa using hne), h2⟩
 | el lo hi =>
  obtain ⟨g, i, hv, hne, k, hk, h2⟩ := h
  exact ⟨g, i, hv, hne, k, hg.cell hk (by simpa using hne), h2⟩
 | non => trivial
 | is u => exact h
 | str c => exact h
 | ss n c =>
  obtain ⟨g, hv, hne, hc⟩ := h
  refine ⟨g, hv, hne, fun i hi => ?_⟩
  obtain ⟨k, hk, h2⟩ := hc i hi
  exact ⟨k, hg.cell hk (by simpa using hne), h2⟩
 | es c =>
  obtain ⟨g, i, hv, hne, k, hk, h2⟩ := h
  exact ⟨g, i, hv, hne, k, hg.cell hk (by simpa using hne), h2⟩
 | own b c =>
  obtain ⟨hB, xs, ho, h2⟩ := h
  refine ⟨hB, xs, World.ownsRow.kept ho hg ?_, h2⟩
  cases hk : v.ownBlock with
  | none => exact .inl rfl
  | some k => exact .inr fun e => by have := (World.ownsRow.lt ho k hk).1; have := Option.some.inj e; omega
 | bx b =>
  obtain ⟨hB, g, e, ho⟩ := h
  have := (World.ownsRow.lt ho g rfl).1
  exact ⟨hB, g, e, World.ownsRow.kept ho hg (.inr fun e => by have := Option.some.inj (show some g = some B from e); omega)⟩
 | bk b c =>
  obtain ⟨q, x, y, z, e, hB, xs, ho, h2⟩ := h
  refine ⟨q, x, y, z, e, hB, xs, World.ownsRow.kept ho hg ?_, h2⟩
  cases hk : q.ownBlock with
  | none => exact .inl rfl
  | some k => exact .inr fun e => by have := (World.ownsRow.lt ho k hk).1; have := Option.some.inj e; omega
def OkStepS (B m : Nat) (T : TyS) (d : Nat) (a : Act) (w : World) (a' : Act) (w' : World) : Prop := ∃ v, a' = a.put (some d) v ∧ T.ok B v w' ∧ w.grownBy w' (some B) ∧ RdTo B (m + 1000) w'
section
variable {o : Oper} {a : Act} {w : World} {Q : Exit → Act → World → Prop} {B m d : Nat} {T : TyS}
theorem step_pureS {v : Value} (hd : o.dst = some d) (hI : RdTo B m w) (h : (execOp a.eval o).run Tryz.prog w = .ok (.value v) w) (hT : T.ok B v w) : o.wp Tryz.prog a w (OkStepS B m T d a w) Q := by
 unfold Oper.wp
 rw [h]
 show OkStepS B m T d a w (a.put o.dst v) w
 rw [hd]
 exact ⟨v, rfl, hT, grownBy_refl _ _, hI.mono (by omega)⟩
theorem step_moveS (x : Operand) (ho : o.op = .move x ∨ o.op = .assign x) (hd : o.dst = some d) (hI : RdTo B m w) (hT : T.ok B (a.eval x) w) : o.wp Tryz.prog a w (OkStepS B m T d a w) Q := by
 refine step_pureS hd hI ?_ hT
 rcases ho with ho | ho <;> simp [execOp, ho, go_sem]
theorem step_addS (x y : Operand) (t t' : TypeId) {k l a1 b1 a2 b2 lo hi : Int} (ho : o.op = .binOp .add t x y t') (hd : o.dst = some d) (hI : RdTo B m w) (hx : a.eval x = .int .i64 k) (hk : a1 ≤ k ∧ k ≤ b1) (hy : a.eval y = .int .i64 l) (hl : a2 ≤ l ∧ l ≤ b2)
  (h1 : lo ≤ a1 + a2) (h2 : b1 + b2 ≤ hi) (h3 : -9223372036854775808 ≤ lo) (h4 : hi ≤ 9223372036854775807) : o.wp Tryz.prog a w (OkStepS B m (.num lo hi) d a w) Q := by
 refine step_pureS (v := .int .i64 (k + l)) hd hI ?_ ⟨_, rfl, by omega, by omega⟩
 have e : IntKind.i64.wrap (k + l) = k + l := IntWalk.i64_in _ (by omega)
 simp only [execOp, ho, hx, hy]
 simp [go_sem, e]
theorem step_pickS (x : Tmp) (t : Array TypeId) {n : Int} (ho : o.op = .call { callee := .value (.func 48), args := #[.tmp x, .const (.int .i64 n)], argTypes := t }) (hd : o.dst = some d) (hI : RdTo B m w) (hm : m ≤ 1000000000)
  (hx : a.eval (.tmp x) = .pointer (some ⟨B, 0, none⟩)) (hn : 1 ≤ n) (hn' : n ≤ 9223372036854775807) {hi : Int} (hh : n - 1 ≤ hi) : o.wp Tryz.prog a w (OkStepS B m (.num 0 hi) d a w) Q := by
 obtain ⟨p, hp, hr⟩ := hI
 have hrun : (execOp a.eval o).run Tryz.prog w = .ok (.enter 48 #[.pointer (some ⟨B, 0, none⟩), .int .i64 n]) w := by
  simp only [execOp, ho]
  simp [go_sem]
  simpa [Act.eval] using hx
 unfold Oper.wp
 rw [hrun, Oper.upon_enter]
 refine (pick_any B p n w hr (by omega) hn hn').mono ?_
 rintro e w1 ⟨k, h1, h2, rfl, r1, g1, _⟩
 show OkStepS B m (.num 0 hi) d a w (a.put o.dst (.int .i64 k)) w1
 rw [hd]
 exact ⟨_, rfl, ⟨k, rfl, h1, by omega⟩, g1, p + 1, by omega, r1⟩
theorem step_buildS (l : List Int) (n : Nat) (t : TypeId) {lo hi : Int} (hd : o.dst = some d) (hI : RdTo B m w) (hn : l.length = n)
  (h : (execOp a.eval o).run Tryz.prog w = .ok (.value (.slice (some ⟨w.heap.size, 0, none⟩) n n)) (w.alloc (.cells (l.map (Value.int .i64)).toArray t)))
  (hl : ∀ z ∈ l, lo ≤ z ∧ z ≤ hi) : o.wp Tryz.prog a w (OkStepS B m (.sl n lo hi) d a w) Q := by
 obtain ⟨p, hp, hr⟩ := hI
 subst hn
 unfold Oper.wp
 rw [h]
 show OkStepS B m (.sl l.length lo hi) d a w (a.put o.dst _) _
 rw [hd]
 refine ⟨_, rfl, ⟨w.heap.size, rfl, by have := hr.lt; omega, fun i hi => ?_⟩, World.grownBy_alloc _ _ _, p, by omega, hr.kept (World.grownBy_alloc _ _ none) (by intro k h; cases h)⟩
 obtain ⟨z, hz, hc⟩ := lit_cell w l t i hi
 exact ⟨z, hc, hl z hz⟩
theorem step_indexS (x y : Operand) (t : TypeId) {n : Nat} {lo hi a1 b1 : Int} (ho : o.op = .indexAddr t x y) (ht : Tryz.prog.underlying t = some (.slice 3)) (hd : o.dst = some d) (hI : RdTo B m w)
  (hx : (TyS.sl n lo hi).ok B (a.eval x) w) (hy : (TyS.num a1 b1).ok B (a.eval y) w) (h0 : 0 ≤ a1) (h1 : b1 < n) : o.wp Tryz.prog a w (OkStepS B m (.el lo hi) d a w) Q := by
 obtain ⟨g, hx, hne, hc⟩ := hx
 obtain ⟨k, hy, hk0, hk1⟩ := hy
 obtain ⟨z, hz, hb⟩ := hc k.toNat (by omega)
 refine step_pureS (v := .pointer (some ⟨g, k.toNat, none⟩)) hd hI ?_ ⟨g, k.toNat, rfl, hne, z, hz, hb⟩
 have q0 : 0 ≤ k := by omega
 have q1 : k < n := by omega
 have c1 : Tryz.prog.cellsOf 3 = 1 := by kernel_rfl
 simp only [execOp, ho, hx, hy]
 obtain ⟨u, hu⟩ : ∃ u, u = k.toNat := ⟨_, rfl⟩
 rw [← hu]
 simp [go_sem, ht, q0, q1, ← hu]
theorem step_loadS (x : Operand) {lo hi : Int} (ho : o.op = .load 3 x) (hd : o.dst = some d) (hI : RdTo B m w) (hx : (TyS.el lo hi).ok B (a.eval x) w) : o.wp Tryz.prog a w (OkStepS B m (.num lo hi) d a w) Q := by
 obtain ⟨g, i, hx, hne, k, hc, hb⟩ := hx
 refine step_pureS (v := .int .i64 k) hd hI ?_ ⟨k, rfl, hb⟩
 simp only [execOp, ho, hx]
 simp [go_sem, hc]
theorem step_callS {f : Nat} {args : Array Value} (hd : o.dst = some d) (hrun : (execOp a.eval o).run Tryz.prog w = .ok (.enter f args) w)
  (hc : Calls Tryz.prog f args w fun e w' => ∃ v, e = .returned v ∧ T.ok B v w' ∧ w.grownBy w' (some B) ∧ RdTo B (m + 1000) w') : o.wp Tryz.prog a w (OkStepS B m T d a w) Q := by
 unfold Oper.wp
 rw [hrun, Oper.upon_enter]
 refine hc.mono ?_
 rintro e w1 ⟨v, rfl, hT, hg, hr⟩
 show OkStepS B m T d a w (a.put o.dst v) w1
 rw [hd]
 exact ⟨_, rfl, hT, hg, hr⟩
end
end Go.Proofs.YtofnchdijanikaaGreatDoor
namespace Go.Proofs.YtofnchdijanikaaGreatDoor
open Go.RowKit
def Dr (w wx : World) (B m : Nat) : Prop := RdTo B m wx ∧ w.grownBy wx (some B) ∧ B < w.heap.size
theorem Dr.start {w : World} {B m : Nat} (h : RdTo B m w) : Dr w w B m := ⟨h, grownBy_refl _ _, h.lt⟩
theorem Dr.size {w wx : World} {B m : Nat} (h : Dr w wx B m) : w.heap.size ≤ wx.heap.size := h.2.1.size
theorem Dr.mono {w wx : World} {B m m' : Nat} (h : Dr w wx B m) (hm : m ≤ m') : Dr w wx B m' := ⟨h.1.mono hm, h.2⟩
theorem Dr.pick {w wx w' : World} {B m m' : Nat} (h : Dr w wx B m) (hg : wx.grownBy w' (some B)) (hr : RdTo B m' w') : Dr w w' B m' := ⟨hr, grownBy_trans h.2.1 hg, h.2.2⟩
theorem Dr.alloc {w wx : World} {B m : Nat} (h : Dr w wx B m) (o : Obj) : Dr w (wx.alloc o) B m :=
 ⟨h.1.kept (World.grownBy_alloc wx o none) (by intro k h; cases h), grownBy_trans h.2.1 (World.grownBy_alloc wx o _), h.2.2⟩
theorem Dr.push {w wx w' : World} {B m base : Nat} {E : TypeId} {sz n : Nat} {v : Value} {xs : List Value} (h : Dr w wx B m) (ho : wx.ownsRow base E sz v n xs) (hb : w.heap.size ≤ base) (hg : wx.grownBy w' v.ownBlock) : Dr w w' B m := by
 obtain ⟨h1, h2, h3⟩ := h
 refine ⟨h1.past hg (fun k hk => by have := (ho.lt k hk).1; omega), ⟨hg.os.trans h2.os, hg.tape.trans h2.tape, hg.output.trans h2.output, Nat.le_trans h2.size hg.size, fun k hk hne => ?_⟩, h3⟩
 exact (hg.block k (by have := h2.size; omega) (owns_neq ho (.inl (by omega)))).trans (h2.block k hk hne)
theorem Dr.below {w w0 wx : World} {B m : Nat} (h : Dr w wx B m) (hb : Below w0.heap.size w0 w) (hB : w0.heap.size ≤ B) : Below w0.heap.size w0 wx :=
 hb.grown h.2.1 (by have := hb.size; omega) (fun j hj => by cases hj; exact hB)
theorem own_pick {wx w' : World} {B base : Nat} {E : TypeId} {sz n : Nat} {v : Value} {xs : List Value} (ho : wx.ownsRow base E sz v n xs) (hB : B < base) (hg : wx.grownBy w' (some B)) : w'.ownsRow base E sz v n xs :=
 ho.kept hg (.inr (owns_neq ho (.inl hB)).symm)
theorem lit_pick {wx w' : World} {B m : Nat} (l : List Int) (t : TypeId) (hr : RdTo B m wx) (hg : (wx.alloc (.cells (l.map (Value.int .i64)).toArray t)).grownBy w' (some B)) (k : Int) (h0 : 0 ≤ k) (hk : k < l.length) :
  ∃ z, z ∈ l ∧ w'.cell? ⟨wx.heap.size, k.toNat, none⟩ = some (.int .i64 z) := by
 obtain ⟨z, hz, hc⟩ := lit_cell wx l t k.toNat (by omega)
 exact ⟨z, hz, hg.cell hc (by have := hr.lt; simp; omega)⟩
end Go.Proofs.YtofnchdijanikaaGreatDoor
namespace Go.Proofs.YtofnchdijanikaaGreatDoor
open Go.RowKit
theorem litS_cell (w : World) (l : List (List UInt8)) (t : TypeId) (i : Nat) (hi : i < l.length) : (w.alloc (.cells (l.map fun x => Value.string (bs x)).toArray t)).cell? ⟨w.heap.size, i, none⟩ = some (.string (bs l[i])) := by
 rw [World.cell?_alloc_at _ _ _ _ rfl]
 simp [hi]
theorem litS_pick {wx w' : World} {B m : Nat} (l : List (List UInt8)) (t : TypeId) (hr : RdTo B m wx) (hg : (wx.alloc (.cells (l.map fun x => Value.string (bs x)).toArray t)).grownBy w' (some B)) (k : Int) (h0 : 0 ≤ k) (hk : k < l.length) :
  ∃ z, z ∈ l ∧ w'.cell? ⟨wx.heap.size, k.toNat, none⟩ = some (.string (bs z)) :=
 ⟨l[k.toNat]'(by omega), List.getElem_mem _, hg.cell (litS_cell wx l t k.toNat (by omega)) (by have := hr.lt; simp; omega)⟩
def StrTo (c d m : Nat) (w : World) (B : Nat) (e : Ending) (w' : World) : Prop := ∃ l : List UInt8, l.length ≤ c ∧ e = .returned (.string (bs l)) ∧ Dr w w' B (m + d)
set_option maxHeartbeats 8000000 in
theorem l20Pattern_to (B m : Nat) (n : Int) (w : World) (h : RdTo B m w) (hm : m ≤ 900000) (hn : 0 ≤ n) (hn' : n ≤ 1000000) :
  Calls Tryz.prog 74 #[.pointer (some ⟨B, 0, none⟩), .int .i64 n] w (StrTo 13 2 m w B) := by
 have H := hQ (Dr.start h)
 clear h
 go_enter Tryz.func74, Tryz.ntmps74
 go_wp2_with fail
 refine (odd_to B m n w H.out.1 (by omega) hn hn').mono ?_
 rintro e w1 ⟨b, rfl, r1, g1⟩
 have D1 := hQ (H.out.pick g1 r1)
 clear H r1 g1
 cases b
 ·go_wp2_with fail
  refine (pick_to B (m + 1) 15 _ (D1.out.alloc _).1 (by omega) (by omega) (by omega)).mono ?_
  rintro e w2 ⟨k, k0, k1, rfl, r2, g2⟩
  obtain ⟨z, hz, cz⟩ := litS_pick [[97, 49, 98], [116, 49, 101], [101, 49, 116], [121, 49, 112], [50, 112, 104], [110, 49, 97], [46, 116, 50, 121], [114, 49, 103], [49, 102], [116, 50, 101, 114, 46], [97], [119, 49], [111, 49, 102, 51, 102], [49, 116], [101, 50]] 9 D1.out.1 g2 k k0 (by simpa using k1)
  have D2 := hQ ((D1.out.alloc _).pick g2 r2)
  have HZ := hQ ((by decide : ∀ z ∈ [[97, 49, 98], [116, 49, 101], [101, 49, 116], [121, 49, 112], [50, 112, 104], [110, 49, 97], [46, 116, 50, 121], [114, 49, 103], [49, 102], [116, 50, 101, 114, 46], [97], [119, 49], [111, 49, 102, 51, 102], [49, 116], ([101, 50] : List UInt8)], z.length ≤ 13) z hz)
  clear g2 r2 D1 hz
  go_wp2
  go_ret
  exact ⟨z, HZ.out, rfl, D2.out⟩
 ·go_wp2_with fail
  refine (pick_to B (m + 1) 8 _ (D1.out.alloc _).1 (by omega) (by omega) (by omega)).mono ?_
  rintro e w2 ⟨k, k0, k1, rfl, r2, g2⟩
  obtain ⟨z, hz, cz⟩ := litS_pick [[], [49], [46], [97, 49, 50, 98], [97, 46, 98], [65, 49], [97, 98, 99, 100, 101, 102, 103, 104, 105, 106, 107, 108, 109], [46, 46, 97]] 9 D1.out.1 g2 k k0 (by simpa using k1)
  have D2 := hQ ((D1.out.alloc _).pick g2 r2)
  have HZ := hQ ((by decide : ∀ z ∈ [[], [49], [46], [97, 49, 50, 98], [97, 46, 98], [65, 49], [97, 98, 99, 100, 101, 102, 103, 104, 105, 106, 107, 108, 109], ([46, 46, 97] : List UInt8)], z.length ≤ 13) z hz)
  clear g2 r2 D1 hz
  go_wp2
  go_ret
  exact ⟨z, HZ.out, rfl, D2.out⟩
end Go.Proofs.YtofnchdijanikaaGreatDoor
namespace Go.Proofs.YtofnchdijanikaaGreatDoor
open Go.RowKit
theorem conv2 (w : World) (x y : Int) : ∃ l : List UInt8, l.length = 2 ∧ (convert 34 9 (.slice (some ⟨w.heap.size, 0, none⟩) 2 2)).run Tryz.prog (w.alloc (.cells #[.int .u8 x, .int .u8 y] 5)) = .ok (.string (bs l)) (w.alloc (.cells #[.int .u8 x, .int .u8 y] 5)) := by
 refine ⟨[UInt8.ofNat x.toNat, UInt8.ofNat y.toNat], rfl, ?_⟩
 have h := run_convert_bytes_arg (P := Tryz.prog) (w.alloc (.cells #[.int .u8 x, .int .u8 y] 5)) 34 5 Tryz.underlying34 Tryz.underlying5 w.heap.size 0 2 2 [x, y] (by simp) (fun i hi => ?_) 9 Tryz.underlying9
 ·rw [h]
  rfl
 ·rw [World.cell?_alloc_at _ _ _ _ rfl]
  rcases (by omega : i = 0 ∨ i = 1) with rfl | rfl <;> rfl
theorem conv3 (w : World) (x y z : Int) : ∃ l : List UInt8, l.length = 3 ∧ (convert 34 9 (.slice (some ⟨w.heap.size, 0, none⟩) 3 3)).run Tryz.prog (w.alloc (.cells #[.int .u8 x, .int .u8 y, .int .u8 z] 5)) = .ok (.string (bs l)) (w.alloc (.cells #[.int .u8 x, .int .u8 y, .int .u8 z] 5)) := by
 refine ⟨[UInt8.ofNat x.toNat, UInt8.ofNat y.toNat, UInt8.ofNat z.toNat], rfl, ?_⟩
 have h := run_convert_bytes_arg (P := Tryz.prog) (w.alloc (.cells #[.int .u8 x, .int .u8 y, .int .u8 z] 5)) 34 5 Tryz.underlying34 Tryz.underlying5 w.heap.size 0 3 3 [x, y, z] (by simp) (fun i hi => ?_) 9 Tryz.underlying9
 ·rw [h]
  rfl
 ·rw [World.cell?_alloc_at _ _ _ _ rfl]
  rcases (by omega : i = 0 ∨ i = 1 ∨ i = 2) with rfl | rfl | rfl <;> rfl
def SmallTo (w : World) (e : Ending) (w' : World) : Prop := ∃ l : List UInt8, l.length ≤ 3 ∧ e = .returned (.string (bs l)) ∧ Below w.heap.size w w'
set_option maxHeartbeats 8000000 in
theorem l20Small_to (n : Nat) (w : World) (hn : n ≤ 999) : Calls Tryz.prog 73 #[.int .i64 n] w (SmallTo w) := by
 obtain ⟨p, hp⟩ : ∃ p, p = n / 100 := ⟨_, rfl⟩
 obtain ⟨q, hq⟩ : ∃ q, q = n / 10 := ⟨_, rfl⟩
 have d1 : (n : Int).tdiv 100 = (p : Int) := by rw [Int.tdiv_eq_ediv_of_nonneg (by omega)]; omega
 have d2 : (n : Int).tdiv 10 = (q : Int) := by rw [Int.tdiv_eq_ediv_of_nonneg (by omega)]; omega
 have hp9 : p ≤ 9 := by omega
 have hq9 : 9 < n → n ≤ 99 → q ≤ 9 := by omega
 have hq0 : q ≤ 99 := by omega
 obtain ⟨l3, h3, cv3⟩ := conv3 w (48 + (p : Int) % 10) (48 + (q : Int) % 10) (48 + (n : Int) % 10)
 obtain ⟨l2, h2, cv2⟩ := conv2 w (48 + (q : Int)) (48 + (n : Int) % 10)
 have cv1 := conv1 w (48 + (n : Int))
 have H3 := hQ h3
 have H2 := hQ h2
 have B3 := hQ ((Below.refl w.heap.size w).alloc nR (.cells #[.int .u8 (48 + (p : Int) % 10), .int .u8 (48 + (q : Int) % 10), .int .u8 (48 + (n : Int) % 10)] 5))
 have B2 := hQ ((Below.refl w.heap.size w).alloc nR (.cells #[.int .u8 (48 + (q : Int)), .int .u8 (48 + (n : Int) % 10)] 5))
 have B1 := hQ ((Below.refl w.heap.size w).alloc nR (.cells #[.int .u8 (48 + (n : Int))] 5))
 clear hp hq h3 h2
 by_cases c1 : 99 < n
 ·clear hq9 cv2 cv1
  go_enter Tryz.func73, Tryz.ntmps73
  go_wp2
  go_ret
  exact ⟨l3, Nat.le_of_eq H3.out, rfl, B3.out⟩
 ·by_cases c2 : 9 < n
  ·have hq9 := hq9 c2 (by omega)
   clear cv3 cv1
   go_enter Tryz.func73, Tryz.ntmps73
   go_wp2
   go_ret
   exact ⟨l2, by rw [H2.out]; omega, rfl, B2.out⟩
  ·clear cv3 cv2 hq9
   have hn9 : n ≤ 9 := by omega
   go_enter Tryz.func73, Tryz.ntmps73
   go_wp2
   go_ret
   exact ⟨_, by simp, rfl, B1.out⟩
theorem odd_no (B : Nat) (w : World) : Calls Tryz.prog 50 #[.pointer (some ⟨B, 0, none⟩), .int .i64 0] w fun e w' => e = .returned (.bool false) ∧ w = w' := by
 go_enter Tryz.func50, Tryz.ntmps50
 go_wp2
 go_ret
 exact ⟨rfl, rfl⟩
set_option maxHeartbeats 8000000 in
theorem l20Text_to (B m : Nat) (n : Int) (w : World) (h : RdTo B m w) (hm : m ≤ 900000) (hn : 0 ≤ n) (hn' : n ≤ 1000000) :
  Calls Tryz.prog 72 #[.pointer (some ⟨B, 0, none⟩), .int .i64 n] w (StrTo 21 14 m w B) := by
 have H := hQ (Dr.start h)
 clear h
 go_enter Tryz.func72, Tryz.ntmps72
 go_wp2_with fail
 refine (odd_to B m n w H.out.1 (by omega) hn hn').mono ?_
 rintro e w1 ⟨b, rfl, r1, g1⟩
 have D1 := hQ (H.out.pick g1 r1)
 clear H r1 g1
 cases b
 ·go_wp2_with fail
  refine (pick_to B (m + 1) 3 _ D1.out.1 (by omega) (by omega) (by omega)).mono ?_
  rintro e w2 ⟨p, p0, p1, rfl, r2, g2⟩
  have D1 := hQ (D1.out.pick g2 r2)
  clear r2 g2
  by_cases hp : 0 < p
  ·clear p0 p1
   go_wp2_with fail
   refine (pick_to B (m + 1 + 1) 12 _ (D1.out.alloc _).1 (by omega) (by omega) (by omega)).mono ?_
   rintro e w2 ⟨k, k0, k1, rfl, r2, g2⟩
   obtain ⟨z, hz, cz⟩ := litS_pick [[97], [111, 102], [116, 104, 101], [119, 97, 116, 101, 114], [111, 102, 102, 105, 99, 101], [119, 97, 118, 101, 114], [109, 97, 114, 103, 105, 110], [104, 121, 112, 104, 101, 110, 97, 116, 101], [116, 121, 112, 101, 115, 101, 116, 116, 101, 114], [118, 101, 114, 121], [102, 108, 111, 119], [116, 97, 98, 108, 101]] 9 D1.out.1 g2 k k0 (by simpa using k1)
   have D2 := hQ (((D1.out.alloc _).pick g2 r2).mono (by omega : _ ≤ m + 14))
   have HZ := hQ ((by decide : ∀ z ∈ [[97], [111, 102], [116, 104, 101], [119, 97, 116, 101, 114], [111, 102, 102, 105, 99, 101], [119, 97, 118, 101, 114], [109, 97, 114, 103, 105, 110], [104, 121, 112, 104, 101, 110, 97, 116, 101], [116, 121, 112, 101, 115, 101, 116, 116, 101, 114], [118, 101, 114, 121], [102, 108, 111, 119], ([116, 97, 98, 108, 101] : List UInt8)], z.length ≤ 21) z hz)
   clear g2 r2 D1 hz
   go_wp2
   go_ret
   exact ⟨z, HZ.out, rfl, D2.out⟩
  ·obtain rfl : p = 0 := by omega
   clear p0 p1 hp
   go_wp2_with fail
   refine (pick_to B (m + 1 + 1) 9 _ D1.out.1 (by omega) (by omega) (by omega)).mono ?_
   rintro e w3 ⟨k1, a1, b1, rfl, r3, g3⟩
   have D3 := hQ (D1.out.pick g3 r3)
   clear r3 g3 D1
   go_wp2
   go_loopw [5, 6] (fun o i wr => ∃ (l : List UInt8) (j q : Nat), q + j ≤ 9 ∧ o = .string (bs l) ∧ i = .int .i64 j ∧ Hid (l.length = q) ∧ Hid (Dr w wr B (m + 3 + q))) (fun _ i _ => (intOf i).toNat)
   case atStart => exact ⟨[], (1 + k1).toNat, 0, by omega, rfl, by simp; omega, rfl, D3.out.mono (by omega)⟩
   case round =>
    obtain ⟨l, j, q, hqj, rfl, rfl, hl, hd⟩ := hrel
    clear D3
    by_cases hj : 0 < j
    ·go_wp2_with fail
     refine (pick_to B (m + 3 + q) 26 _ hd.out.1 (by omega) (by omega) (by omega)).mono ?_
     rintro e w4 ⟨y, y0, y1, rfl, r4, g4⟩
     obtain ⟨y, rfl⟩ := Int.eq_ofNat_of_zero_le y0
     have y2 : y ≤ 25 := by omega
     have D4 := hQ (((hd.out.pick g4 r4).alloc (.cells #[.int .u8 (97 + (y : Int))] 5)).mono (by omega : _ ≤ m + 3 + (q + 1)))
     have cv := conv1 w4 (97 + (y : Int))
     obtain ⟨c, hc⟩ : ∃ c, c = UInt8.ofNat (97 + (y : Int)).toNat := ⟨_, rfl⟩
     rw [← hc] at cv
     have hll := hl.out
     have c9 : ¬ 9223372036854775807 < l.length + 1 := by omega
     have L2 : Hid ((l ++ [c]).length = q + 1) := by show _ = _; simp [hll]
     have CAT := bs_append l [c]
     clear r4 g4 hd hc y0 y1 hll
     go_wp2
     first
      | exact ⟨⟨l ++ [c], j - 1, q + 1, by omega, by first | rfl | rw [bs_append], by go_num, L2.out, D4.out⟩, by simp [intOf]; omega⟩
      | (go_roundw
         case rel => exact ⟨l ++ [c], j - 1, q + 1, by omega, by first | rfl | rw [bs_append], by go_num, L2.out, D4.out⟩
         case measure => simp [intOf]; omega)
    ·obtain rfl : j = 0 := by omega
     go_wp2
     go_ret
     exact ⟨l, by rw [hl.out]; omega, rfl, hd.out.mono (by omega)⟩
 ·have D1 := hQ D1.out
  go_wp2_with fail
  refine (pick_to B (m + 1) 5 _ (D1.out.alloc _).1 (by omega) (by omega) (by omega)).mono ?_
  rintro e w2 ⟨k, k0, k1, rfl, r2, g2⟩
  obtain ⟨z, hz, cz⟩ := litS_pick [[], [65], [97, 32, 98], [97, 98, 49], [97, 98, 99, 100, 101, 102, 103, 104, 105, 106, 107, 108, 109, 110, 111, 112, 113, 114, 115, 116, 117]] 9 D1.out.1 g2 k k0 (by simpa using k1)
  have D2 := hQ (((D1.out.alloc _).pick g2 r2).mono (by omega : _ ≤ m + 14))
  have HZ := hQ ((by decide : ∀ z ∈ [[], [65], [97, 32, 98], [97, 98, 49], ([97, 98, 99, 100, 101, 102, 103, 104, 105, 106, 107, 108, 109, 110, 111, 112, 113, 114, 115, 116, 117] : List UInt8)], z.length ≤ 21) z hz)
  clear g2 r2 D1 hz
  go_wp2
  go_ret
  exact ⟨z, HZ.out, rfl, D2.out⟩
def RowTo (c q d m : Nat) (w : World) (B : Nat) (e : Ending) (w' : World) : Prop := ∃ (xs : List (List UInt8)) (v : Value), xs.length ≤ q ∧ (∀ x ∈ xs, x.length ≤ c) ∧ e = .returned v ∧ OwnT w' w.heap.size v xs ∧ Dr w w' B (m + d)
set_option maxHeartbeats 8000000 in
theorem l20Patterns_to (B m : Nat) (w : World) (h : RdTo B m w) (hm : m ≤ 800000) :
  Calls Tryz.prog 70 #[.pointer (some ⟨B, 0, none⟩), .int .i64 0] w (RowTo 13 6 200 m w B) := by
 have D0 := hQ ((Dr.start h).alloc (.cells #[] 9))
 have O0 := hQ (OwnT.made w (B := w.heap.size) nR)
 have hBw : B < w.heap.size := h.lt
 clear h
 go_enter Tryz.func70, Tryz.ntmps70
 go_wp2_with fail
 refine (pick_to B m 7 _ D0.out.1 (by omega) (by omega) (by omega)).mono ?_
 rintro e w2 ⟨k1, a1, b1, rfl, r2, g2⟩
 have D2 := hQ (D0.out.pick g2 r2)
 have O2 := hQ (own_pick O0.out hBw g2)
 clear r2 g2 D0 O0
 go_wp2
 go_loopw [5, 6] (fun v i wr => ∃ (j : Nat) (xs : List (List UInt8)), xs.length + j ≤ 6 ∧ i = .int .i64 j ∧ Hid (∀ x ∈ xs, x.length ≤ 13) ∧ Hid (OwnT wr w.heap.size v xs) ∧ Hid (Dr w wr B (m + 1 + 2 * xs.length))) (fun _ i _ => (intOf i).toNat)
 case atStart => exact ⟨k1.toNat, [], by simp; omega, by simp; omega, (fun x hx => by cases hx), O2.out, D2.out⟩
 case round =>
  obtain ⟨j, xs, hk, rfl, hx, ho, hd⟩ := hrel
  clear D2 O2
  obtain ⟨q, hq⟩ : ∃ q, q = xs.length := ⟨_, rfl⟩
  rw [← hq] at hk hd
  have HQ := hQ hq
  clear hq
  by_cases hj : 0 < j
  ·go_wp2_with fail
   refine (l20Pattern_to B (m + 1 + 2 * q) 0 _ hd.out.1 (by omega) (by omega) (by omega)).mono ?_
   rintro e w3 ⟨l, hl, rfl, d3⟩
   have DB := hQ (hd.out.pick d3.2.1 d3.1)
   have OB := hQ (own_pick ho.out hBw d3.2.1)
   have XX := hQ (fun x (hm : x ∈ xs ++ [l]) => (by rcases List.mem_append.1 hm with h | h; exact hx.out x h; rw [List.mem_singleton.1 h]; exact hl : x.length ≤ 13))
   have hws := DB.out.size
   have XL : xs.length ≤ 4000000 := by rw [← HQ.out]; omega
   have XE : Hid ((xs ++ [l]).length = q + 1) := by show _ = _; rw [List.length_append, ← HQ.out]; rfl
   clear d3 hd ho hl hx
   go_wp2_with (at_builtin; refine append_str w3 w3 rfl _ _ rfl w.heap.size u5 xs l rfl rfl OB.out XL hws (Below.refl _ _) ?_; intro v' w5 hown' hbel hmv hgr)
   have dF := hQ ((DB.out.push OB.out nR hgr).mono (by omega : _ ≤ m + 1 + 2 * (q + 1)))
   have OF := hQ hown'
   clear XL hbel hmv hgr DB OB hown' HQ
   go_roundw
   case rel => exact ⟨j - 1, xs ++ [l], by rw [XE.out]; omega, by go_num, XX.out, OF.out, by rw [XE.out]; exact dF.out⟩
   case measure => simp [intOf]; omega
  ·obtain rfl : j = 0 := by omega
   go_wp2_with fail
   refine (odd_no B _).mono ?_
   rintro e w3 ⟨rfl, rfl⟩
   go_wp2
   go_ret
   exact ⟨xs, _, by rw [← HQ.out]; omega, hx.out, rfl, ho.out, hd.out.mono (by omega)⟩
set_option maxHeartbeats 8000000 in
theorem l20Words_to (B m : Nat) (w : World) (h : RdTo B m w) (hm : m ≤ 800000) :
  Calls Tryz.prog 71 #[.pointer (some ⟨B, 0, none⟩), .int .i64 0] w (RowTo 21 7 200 m w B) := by
 have D0 := hQ ((Dr.start h).alloc (.cells #[] 9))
 have O0 := hQ (OwnT.made w (B := w.heap.size) nR)
 have hBw : B < w.heap.size := h.lt
 clear h
 go_enter Tryz.func71, Tryz.ntmps71
 go_wp2_with fail
 refine (pick_to B m 8 _ D0.out.1 (by omega) (by omega) (by omega)).mono ?_
 rintro e w2 ⟨k1, a1, b1, rfl, r2, g2⟩
 have D2 := hQ (D0.out.pick g2 r2)
 have O2 := hQ (own_pick O0.out hBw g2)
 clear r2 g2 D0 O0
 go_wp2
 go_loopw [5, 6] (fun v i wr => ∃ (j : Nat) (xs : List (List UInt8)), xs.length + j ≤ 7 ∧ i = .int .i64 j ∧ Hid (∀ x ∈ xs, x.length ≤ 21) ∧ Hid (OwnT wr w.heap.size v xs) ∧ Hid (Dr w wr B (m + 1 + 14 * xs.length))) (fun _ i _ => (intOf i).toNat)
 case atStart => exact ⟨k1.toNat, [], by simp; omega, by simp; omega, (fun x hx => by cases hx), O2.out, D2.out⟩
 case round =>
  obtain ⟨j, xs, hk, rfl, hx, ho, hd⟩ := hrel
  clear D2 O2
  obtain ⟨q, hq⟩ : ∃ q, q = xs.length := ⟨_, rfl⟩
  rw [← hq] at hk hd
  have HQ := hQ hq
  clear hq
  by_cases hj : 0 < j
  ·go_wp2_with fail
   refine (l20Text_to B (m + 1 + 14 * q) 0 _ hd.out.1 (by omega) (by omega) (by omega)).mono ?_
   rintro e w3 ⟨l, hl, rfl, d3⟩
   have DB := hQ (hd.out.pick d3.2.1 d3.1)
   have OB := hQ (own_pick ho.out hBw d3.2.1)
   have XX := hQ (fun x (hm : x ∈ xs ++ [l]) => (by rcases List.mem_append.1 hm with h | h; exact hx.out x h; rw [List.mem_singleton.1 h]; exact hl : x.length ≤ 21))
   have hws := DB.out.size
   have XL : xs.length ≤ 4000000 := by rw [← HQ.out]; omega
   have XE : Hid ((xs ++ [l]).length = q + 1) := by show _ = _; rw [List.length_append, ← HQ.out]; rfl
   clear d3 hd ho hl hx
   go_wp2_with (at_builtin; refine append_str w3 w3 rfl _ _ rfl w.heap.size u5 xs l rfl rfl OB.out XL hws (Below.refl _ _) ?_; intro v' w5 hown' hbel hmv hgr)
   have dF := hQ ((DB.out.push OB.out nR hgr).mono (by omega : _ ≤ m + 1 + 14 * (q + 1)))
   have OF := hQ hown'
   clear XL hbel hmv hgr DB OB hown' HQ
   go_roundw
   case rel => exact ⟨j - 1, xs ++ [l], by rw [XE.out]; omega, by go_num, XX.out, OF.out, by rw [XE.out]; exact dF.out⟩
   case measure => simp [intOf]; omega
  ·obtain rfl : j = 0 := by omega
   go_wp2_with fail
   refine (odd_no B _).mono ?_
   rintro e w3 ⟨rfl, rfl⟩
   go_wp2
   go_ret
   exact ⟨xs, _, by rw [← HQ.out]; omega, hx.out, rfl, ho.out, hd.out.mono (by omega)⟩
end Go.Proofs.YtofnchdijanikaaGreatDoor
namespace Go.Proofs.YtofnchdijanikaaGreatDoor
open Go.RowKit
theorem openB_set' {listed : Array Bool} {n i : Nat} (hi : i < n) (hs : n ≤ listed.size) (hf : listed.getD i false = false) : openB (listed.setIfInBounds i true) n < openB listed n := by
 unfold openB
 refine filter_lt (fun j hj => ?_) _ ⟨i, List.mem_range.2 hi, ?_, ?_⟩
 ·simp only [Array.getD_eq_getD_getElem?, Array.getElem?_setIfInBounds] at hj ⊢
  by_cases hij : i = j
  ·subst hij; simp [show i < listed.size by omega] at hj
  ·simpa [hij] using hj
 ·rw [hf]; rfl
 ·have : i < listed.size := by omega
  simp [Array.getD_eq_getD_getElem?, this]
section
variable {P : Program} {ops : Array Oper} {Q : Exit → Act → World → Prop}
theorem ready_none {n : Nat} {listed : Array Bool} (hn : ops.size = n) (hs : listed.size = n) (hl : ∀ i, i < n → listed.getD i false = true) : Region.ready .any ops listed = [] := by
 unfold Region.ready
 rw [List.filter_eq_nil_iff]
 intro i hi hcon
 simp only [Bool.and_eq_true, Bool.not_eq_true'] at hcon
 have hi' : i < n := by have := List.mem_range.1 hi; omega
 have h1 := hl i hi'
 have h2 := hcon.1
 simp only [Array.getD_eq_getD_getElem?] at h1 h2
 rw [Array.getElem?_eq_getElem (by omega)] at h1 h2
 simp at h1 h2
 rw [h1] at h2
 cases h2
theorem any_done {n : Nat} (hn : ops.size = n) (f : Nat) (listed : Array Bool) (a : Act) (w : World) (hs : listed.size = n) (hl : ∀ i, i < n → listed.getD i false = true) (hq : Q .normal a w) : wpAny P .any ops Q f listed a w := by
 have hr := ready_none (ops := ops) hn hs hl
 cases f with
 | zero => exact ⟨hr, hq⟩
 | succ f => exact ⟨fun _ => hq, fun i hi => by rw [hr] at hi; cases hi⟩
theorem getD_flip {listed : Array Bool} {i : Nat} (hi : i < listed.size) (h : listed.getD i true = false) : listed.getD i false = false := by
 simp only [Array.getD_eq_getD_getElem?] at h ⊢
 rw [Array.getElem?_eq_getElem hi] at h ⊢
 simpa using h
theorem getD_set_ne (listed : Array Bool) (i j : Nat) (hij : i ≠ j) : (listed.setIfInBounds i true).getD j false = listed.getD j false := by
 simp only [Array.getD_eq_getD_getElem?]
 rw [Array.getElem?_setIfInBounds, if_neg hij]
theorem getD_set_eq (listed : Array Bool) (i : Nat) (hi : i < listed.size) : (listed.setIfInBounds i true).getD i false = true := by
 simp [Array.getD_eq_getD_getElem?, hi]
theorem region_last {id : Nat} (hm : P.follows .mixedOrders = true) (a0 : Act) (w0 : World) (n : Nat) (hn : ops.size = n + 1)
  (I : Nat → World → Prop) (A : Nat → Value → World → Prop) (R : World → World → Prop)
  (hR : ∀ j v w w', R w w' → A j v w → A j v w')
  (dst : Nat → Nat) (hinj : ∀ i, i < n → ∀ j, j < n → dst i = dst j → i = j) (hsz : ∀ i, i < n → dst i < a0.tmps.size)
  (hlow : ∀ (i : Nat) (o : Oper), ops[i]? = some o → ∀ e ∈ o.after, Region.binds .any e = true → Edge.on e < i)
  (hall : ∀ o, ops[n]? = some o → ∀ i, i < n → ∃ e ∈ o.after, Region.binds .any e = true ∧ Edge.on e = i)
  (hmono : ∀ c w, c ≤ n → I c w → I n w)
  (hst : ∀ (c i : Nat) (o : Oper) (a : Act) (w : World), c < n → i < n → ops[i]? = some o → Framed dst n a0 a → I c w → (∀ e ∈ o.after, Region.binds .any e = true → A e.on (a.tmps.getD (dst e.on) undef) w) →
   wpOp P ops Q i (fun a' w' => ∃ v, a' = a.put (some (dst i)) v ∧ A i v w' ∧ R w w' ∧ I (c + 1) w') a w)
  (h0 : I 0 w0.drew)
  (hend : ∀ a w, Framed dst n a0 a → I n w → (∀ i, i < n → A i (a.tmps.getD (dst i) undef) w) → wpOp P ops Q n (fun a' w' => Q .normal a' w') a w) :
  (Code.region id ops true).wp P Q a0 w0 := by
 refine wp_region_any hm ?_
 rw [hn]
 have fin : ∀ (f c : Nat) (listed : Array Bool) (a : Act) (w : World), c ≤ n → listed.size = n + 1 → n ∈ Region.ready .any ops listed → Framed dst n a0 a → I c w →
   (∀ i, i < n → listed.getD i false = true → A i (a.tmps.getD (dst i) undef) w) → wpOp P ops Q n (wpAny P .any ops Q f (listed.setIfInBounds n true)) a w := by
  intro f c listed a w hc hs hi hF hI hA
  obtain ⟨h1, _, h3⟩ := ready_mem hi
  have hop : ops[n]? = some ops[n] := Array.getElem?_eq_getElem h1
  have hl : ∀ i, i < n → listed.getD i false = true := fun i hi => by
   obtain ⟨e, he, hb, rfl⟩ := hall _ hop i hi
   exact h3 _ hop e he hb
  refine wpOp_mono ?_ (hend a w hF (hmono c w hc hI) fun i hi => hA i hi (hl i hi))
  intro a' w' hq
  refine any_done hn f _ a' w' (by simpa using hs) (fun i hi => ?_) hq
  by_cases hin : n = i
  ·subst hin
   exact getD_set_eq _ _ (by omega)
  ·rw [getD_set_ne _ _ _ hin]
   exact hl i (by omega)
 have key : ∀ (f c : Nat) (listed : Array Bool) (a : Act) (w : World), f + c = n → listed.size = n + 1 → listed.getD n false = false → openB listed n ≤ f → Framed dst n a0 a → I c w →
   (∀ i, i < n → listed.getD i false = true → A i (a.tmps.getD (dst i) undef) w) → wpAny P .any ops Q (f + 1) listed a w := by
  intro f
  induction f with
  | zero =>
   intro c listed a w hc hs hln ho hF hI hA
   have hal := openB_zero (Nat.le_zero.1 ho)
   refine ⟨fun hnil => ?_, fun i hi => ?_⟩
   ·have := ready_nil hn hs hlow hnil n (by omega)
    rw [hln] at this
    cases this
   ·by_cases hin : i = n
    ·subst hin
     exact fin 0 c listed a w (by omega) hs hi hF hI hA
    ·exfalso
     obtain ⟨h1, h2, _⟩ := ready_mem hi
     have := hal i (by omega)
     rw [getD_flip (by omega) h2] at this
     cases this
  | succ f ih =>
   intro c listed a w hc hs hln ho hF hI hA
   refine ⟨fun hnil => ?_, fun i hi => ?_⟩
   ·have := ready_nil hn hs hlow hnil n (by omega)
    rw [hln] at this
    cases this
   by_cases hin : i = n
   ·subst hin
    exact fin (f + 1) c listed a w (by omega) hs hi hF hI hA
   obtain ⟨h1, h2, h3⟩ := ready_mem hi
   have hop : ops[i]? = some ops[i] := Array.getElem?_eq_getElem h1
   have hi' : i < n := by omega
   refine wpOp_mono ?_ (hst c i ops[i] a w (by omega) hi' hop hF hI (fun e he hb => hA e.on (by have := hlow i _ hop e he hb; omega) (h3 _ hop e he hb)))
   rintro a' w' ⟨v, rfl, hAi, hRw, hI'⟩
   have hd := hsz i hi'
   refine ih (c + 1) _ _ w' (by omega) (by simpa using hs) (by rw [getD_set_ne _ _ _ hin]; exact hln) (by have := openB_set' hi' (by omega) (getD_flip (by omega) h2); omega) (hF.put hi' v) hI' (fun j hj hl => ?_)
   by_cases hij : i = j
   ·subst hij
    have e : (a.put (some (dst i)) v).tmps.getD (dst i) undef = v := by
     simp only [Act.put, Array.getD_eq_getD_getElem?]
     rw [Array.getElem?_setIfInBounds]
     simp [hF.1, hd]
    rw [e]
    exact hAi
   ·have e : (a.put (some (dst i)) v).tmps.getD (dst j) undef = a.tmps.getD (dst j) undef := by
     simp only [Act.put, Array.getD_eq_getD_getElem?]
     rw [Array.getElem?_setIfInBounds]
     rw [if_neg (fun e => hij (hinj i hi' j hj e))]
    rw [e]
    refine hR j _ _ _ hRw (hA j hj ?_)
    rwa [getD_set_ne _ _ _ hij] at hl
 refine key n 0 _ a0 _ (by omega) (by simp) (by simp [Array.getD_eq_getD_getElem?]) ?_ ⟨rfl, rfl, fun _ _ => rfl⟩ h0 (fun i hi hl => by simp [Array.getD_eq_getD_getElem?, show i < n + 1 by omega] at hl)
 unfold openB
 exact Nat.le_trans (List.length_filter_le _ _) (by simp)
end
def shapeL (ops : Array Oper) (n : Nat) (dst : List Nat) (size : Nat) : Bool :=
 (ops.size == n + 1) && (dst.length == n) && decide dst.Nodup && dst.all (· < size) && ((List.range (n + 1)).all fun i => match ops[i]? with | some o => o.after.all fun e => !Region.binds .any e || decide (e.on < i) | none => true)
 && (match ops[n]? with | some o => (o.dst == none) && o.guard.isNone && (List.range n).all fun i => o.after.any fun e => Region.binds .any e && (e.on == i) | none => false)
theorem draw_regionL {ops : Array Oper} {Q : Exit → Act → World → Prop} {id : Nat} (a0 : Act) (w0 : World) (B p0 n : Nat) (dst : List Nat) (tys : List TyS)
  (hm : Tryz.prog.follows .mixedOrders = true) (hB : shapeL ops n dst a0.tmps.size = true) (h0 : RdTo B p0 w0)
  (hst : ∀ (m i : Nat) (o : Oper) (a : Act) (w : World), m ≤ p0 + 1000 * n → i < n → ops[i]? = some o → Framed (fun i => dst.getD i 0) n a0 a → RdTo B m w → w0.grownBy w (some B) →
   (∀ e ∈ o.after, Region.binds .any e = true → (tys.getD e.on .non).ok B (a.tmps.getD (dst.getD e.on 0) undef) w) → wpOp Tryz.prog ops Q i (OkStepS B m (tys.getD i .non) (dst.getD i 0) a w) a w)
  (F : List Value → World → Prop)
  (hrun : ∀ (vs : List Value) (w : World) (o : Oper) (a : Act), ops[n]? = some o → vs.length = n → (∀ i, i < n → a.eval (.tmp (dst.getD i 0)) = vs.getD i undef) → (∀ i, i < n → (tys.getD i .non).ok B (vs.getD i undef) w) → RdTo B (p0 + 1000 * n) w → w0.grownBy w (some B) →
   ∃ w', (execOp a.eval o).run Tryz.prog w = .ok .skip w' ∧ F vs w')
  (hend : ∀ vs w, vs.length = n → F vs w → Q .normal { tmps := fill a0.tmps dst vs, defers := a0.defers } w) :
  (Code.region id ops true).wp Tryz.prog Q a0 w0 := by
 simp only [shapeL, Bool.and_eq_true, beq_iff_eq, decide_eq_true_eq, List.all_eq_true] at hB
 obtain ⟨⟨⟨⟨⟨hn, hdl⟩, hnd⟩, hsz⟩, hlow⟩, hlast⟩ := hB
 have hinj : ∀ i, i < n → ∀ j, j < n → dst.getD i 0 = dst.getD j 0 → i = j := by
  intro i hi j hj h
  have e1 : dst.getD i 0 = dst[i] := by simp [List.getD, hdl, hi]
  have e2 : dst.getD j 0 = dst[j] := by simp [List.getD, hdl, hj]
  rw [e1, e2] at h
  exact (List.getElem_inj hnd).1 h
 have hmem : ∀ i, i < n → dst.getD i 0 ∈ dst := by
  intro i hi
  have e1 : dst.getD i 0 = dst[i] := by simp [List.getD, hdl, hi]
  rw [e1]
  exact List.getElem_mem _
 have hop : ops[n]? = some (ops[n]'(by omega)) := Array.getElem?_eq_getElem _
 rw [hop] at hlast
 simp only [Bool.and_eq_true, beq_iff_eq, List.all_eq_true, Option.isNone_iff_eq_none] at hlast
 obtain ⟨⟨hdn, hgn⟩, hal⟩ := hlast
 refine region_last hm a0 w0 n hn (fun c w => RdTo B (p0 + 1000 * c) w ∧ w0.grownBy w (some B)) (fun i v w => (tys.getD i .non).ok B v w) (fun w w' => w.grownBy w' (some B))
  (fun j v w w' hR h => h.kept hR) (fun i => dst.getD i 0) hinj (fun i hi => hsz _ (hmem i hi)) ?_ ?_ (fun c w hc h => ⟨h.1.mono (by omega), h.2⟩) ?_ ⟨h0.mono (by omega), ⟨rfl, rfl, rfl, nR, fun _ _ _ => rfl⟩⟩ ?_
 ·intro i o ho e he hb
  have hi : i < n + 1 := by have := (Array.getElem?_eq_some_iff.1 ho).1; omega
  have h := hlow i (List.mem_range.2 hi)
  rw [ho] at h
  have h2 := (Array.all_eq_true'.1 h) e he
  rw [hb] at h2
  simpa using h2
 ·intro o ho i hi
  obtain rfl := Option.some.inj (hop.symm.trans ho)
  have h := hal i (List.mem_range.2 hi)
  rw [Array.any_eq_true'] at h
  obtain ⟨e, he, h2⟩ := h
  simp only [Bool.and_eq_true, beq_iff_eq] at h2
  exact ⟨e, he, h2.1, h2.2⟩
 ·intro c i o a w hc hi ho hF hI hA
  refine wpOp_mono ?_ (hst (p0 + 1000 * c) i o a w (by omega) hi ho hF hI.1 hI.2 hA)
  rintro a' w' ⟨v, rfl, hT, hg, hr⟩
  exact ⟨v, rfl, hT, hg, hr, grownBy_trans hI.2 hg⟩
 ·intro a w hF hI hA
  have key : a = { tmps := fill a0.tmps dst (dst.map fun d => a.tmps.getD d undef), defers := a0.defers } := by
   obtain ⟨t, df⟩ := a
   obtain ⟨h1, h2, h3⟩ := hF
   simp only at h1 h2 h3 ⊢
   subst h2
   congr 1
   apply Array.ext_getElem?
   intro k
   by_cases hk : k ∈ dst
   ·obtain ⟨i, hi, rfl⟩ := List.getElem_of_mem hk
    have e := fill_at dst (dst.map fun d => t.getD d undef) a0.tmps i hnd (by simp) hsz hi
    have e1 : dst.getD i 0 = dst[i] := by simp [List.getD, hi]
    rw [e1] at e
    rw [e]
    have hlt : dst[i] < t.size := by rw [h1]; exact hsz _ (List.getElem_mem _)
    simp [List.getD, hi, Array.getD, hlt]
   ·rw [fill_other dst _ _ k hk]
    refine h3 k (fun i hi e => hk (by rw [← e]; exact hmem i hi))
  rw [key]
  obtain ⟨w', hrun, hq⟩ := hrun (dst.map fun d => a.tmps.getD d undef) w _ { tmps := fill a0.tmps dst (dst.map fun d => a.tmps.getD d undef), defers := a0.defers } hop (by simpa using hdl) (fun i hi => by
   have e := fill_at dst (dst.map fun d => a.tmps.getD d undef) a0.tmps i hnd (by simp) hsz (by omega)
   show (fill _ _ _).getD _ _ = _
   rw [Array.getD_eq_getD_getElem?, e]
   rfl) (fun i hi => by
   have h := hA i hi
   have e1 : dst.getD i 0 = dst[i] := by simp [List.getD, hdl, hi]
   have e2 : (dst.map fun d => a.tmps.getD d undef).getD i undef = a.tmps.getD (dst.getD i 0) undef := by
    rw [e1]; simp [List.getD, hdl, hi]
   rw [e2]
   exact h) hI.1 hI.2
  refine wpOp_of hop hgn ?_
  unfold Oper.wp
  rw [hrun]
  show Q .normal (Act.put _ _ _) w'
  rw [hdn]
  exact hend _ w' (by simpa using hdl) hq
section
variable {o : Oper} {a : Act} {w : World} {Q : Exit → Act → World → Prop} {B m d : Nat}
theorem step_boxS {b : Nat} (ho : o.op = .alloc 27) (hd : o.dst = some d) (hI : RdTo B m w) (hb : B < b) (hbw : b ≤ w.heap.size) : o.wp Tryz.prog a w (OkStepS B m (.bx b) d a w) Q := by
 have hrun : (execOp a.eval o).run Tryz.prog w = .ok (.value (.pointer (some ⟨w.heap.size, 0, none⟩))) (w.alloc (.cells #[.slice none 0 0, .slice none 0 0, .int .i64 0, .int .i64 0, .int .i64 0] 27)) := by
  simp only [execOp, ho]
  simp [go_sem]
 unfold Oper.wp
 rw [hrun]
 show OkStepS B m (.bx b) d a w (a.put o.dst _) _
 rw [hd]
 obtain ⟨p, hp, hr⟩ := hI
 exact ⟨_, rfl, ⟨hb, w.heap.size, rfl, own5_made w hbw _ _ _ _ _ _⟩, World.grownBy_alloc _ _ _, p, by omega, hr.kept (World.grownBy_alloc _ _ none) (by intro k h; cases h)⟩
theorem step_bookS (x1 x2 x3 x4 : Tmp) {b c : Nat} {a2 b2 a3 b3 a4 b4 : Int} (ho : o.op = .build 27 #[(1, .tmp x1), (2, .tmp x2), (3, .tmp x3), (4, .tmp x4)]) (hd : o.dst = some d) (hI : RdTo B m w)
  (h1 : (TyS.own b c).ok B (a.eval (.tmp x1)) w) (h2 : (TyS.num a2 b2).ok B (a.eval (.tmp x2)) w) (h3 : (TyS.num a3 b3).ok B (a.eval (.tmp x3)) w) (h4 : (TyS.num a4 b4).ok B (a.eval (.tmp x4)) w) : o.wp Tryz.prog a w (OkStepS B m (.bk b c) d a w) Q := by
 obtain ⟨hB, xs, h1⟩ := h1
 obtain ⟨x, e2, _⟩ := h2
 obtain ⟨y, e3, _⟩ := h3
 obtain ⟨z, e4, _⟩ := h4
 have e1' : a.tmps[x1]?.getD undef = a.eval (.tmp x1) := by simp [Act.eval]
 have e2' : a.tmps[x2]?.getD undef = .int .i64 x := by simpa [Act.eval] using e2
 have e3' : a.tmps[x3]?.getD undef = .int .i64 y := by simpa [Act.eval] using e3
 have e4' : a.tmps[x4]?.getD undef = .int .i64 z := by simpa [Act.eval] using e4
 obtain ⟨q, hq⟩ : ∃ q, q = a.eval (.tmp x1) := ⟨_, rfl⟩
 rw [← hq] at e1' h1
 obtain ⟨z1, z2, rfl⟩ := own_form h1.1
 obtain ⟨N, hN⟩ : ∃ N, N = xs.length := ⟨_, rfl⟩
 rw [← hN] at e1' h1
 refine step_pureS (v := .agg #[.slice none 0 0, .slice z1 N z2, .int .i64 x, .int .i64 y, .int .i64 z]) hd hI ?_ ⟨_, x, y, z, rfl, hB, xs, by rw [← hN]; exact h1⟩
 simp only [execOp, ho]
 simp [go_sem, e1', e2', e3', e4']
end
theorem storeB_run (w : World) (g : Nat) {b : Nat} {c0 c1 c2 c3 c4 : Value} (h : w.ownsRow b 27 5 (.slice (some ⟨g, 0, none⟩) 1 1) 1 [c0, c1, c2, c3, c4]) (a : Act) (o : Oper) (x y : Operand) (z1 z2 : Option Addr) (n1 n2 d1 d2 : Nat) (p q r : Int)
  (ho : o.op = .store 27 x y) (hx : a.eval x = .pointer (some ⟨g, 0, none⟩)) (hy : a.eval y = .agg #[.slice z1 n1 d1, .slice z2 n2 d2, .int .i64 p, .int .i64 q, .int .i64 r]) :
  (execOp a.eval o).run Tryz.prog w = .ok .skip (((((w.setCell ⟨g, 0, none⟩ (.slice z1 n1 d1)).setCell ⟨g, 1, none⟩ (.slice z2 n2 d2)).setCell ⟨g, 2, none⟩ (.int .i64 p)).setCell ⟨g, 3, none⟩ (.int .i64 q)).setCell ⟨g, 4, none⟩ (.int .i64 r)) := by
 obtain ⟨q0, q1, q2, q3, q4⟩ := own5 h
 obtain ⟨f0, f1, f2, f3, f4⟩ := fz5 h
 simp only [execOp, ho, hx, hy]
 simp [go_sem, q0, q1, q2, q3, q4, f0, f1, f2, f3, f4]
end Go.Proofs.YtofnchdijanikaaGreatDoor

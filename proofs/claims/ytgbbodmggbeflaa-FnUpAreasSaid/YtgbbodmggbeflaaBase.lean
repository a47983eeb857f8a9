/-
  PROVED HERE: small facts about lists, rows of numbers in memory, and worlds, without any program. Conditions: each lemma's own.
-/
import Derived.WalkKit
import Derived.ProofKit
import Derived.OpenShut
import Derived.Lib.Hide
import Derived.WalkSmall
import Derived.OneCell
import Derived.IntWalk
import Derived.Laws.BitsAllLaws
set_option linter.unusedVariables false
set_option linter.unusedSimpArgs false
namespace Go.Proofs.Ytgbbodmggbeflaa
open Go.RowKit

/-- The n numbers from a on. -/
def iota (a : Int) (n : Nat) : List Int := (List.range n).map fun i : Nat => a + (i : Int)
theorem iota_length (a : Int) (n : Nat) : (iota a n).length = n := by simp [iota]
theorem iota_succ (a : Int) (n : Nat) : iota a (n + 1) = iota a n ++ [a + (n : Int)] := by simp [iota, List.range_succ]
theorem iota_getD (a : Int) (n j : Nat) (h : j < n) : (iota a n).getD j 0 = a + (j : Int) := by simp [iota, List.getD, h]
theorem iota_zero (a : Int) : iota a 0 = [] := rfl

/-- The value reads as these numbers. -/
def IRow (w : World) (v : Value) (xs : List Int) : Prop :=
  ∃ a cap, v = .slice a xs.length cap ∧ xs.length ≤ 9223372036854775807 ∧ ∀ j, j < xs.length → ∃ b off, a = some ⟨b, off, none⟩ ∧ w.cell? ⟨b, off + j, none⟩ = some (.int .i64 (xs.getD j 0))

theorem IRow.empty {w : World} {v : Value} (h : IRow w v []) : ∃ a cap, v = .slice a 0 cap := by
  obtain ⟨a, cap, hv, _⟩ := h
  exact ⟨a, cap, hv⟩
theorem IRow.pos {w : World} {v : Value} {xs : List Int} (h : IRow w v xs) (hp : 0 < xs.length) :
    ∃ b off cap, v = .slice (some ⟨b, off, none⟩) xs.length cap ∧ ∀ j, j < xs.length → w.cell? ⟨b, off + j, none⟩ = some (.int .i64 (xs.getD j 0)) := by
  obtain ⟨a, cap, hv, _, hc⟩ := h
  obtain ⟨b, off, rfl, _⟩ := hc 0 hp
  refine ⟨b, off, cap, hv, fun j hj => ?_⟩
  obtain ⟨b', off', e, h'⟩ := hc j hj
  obtain ⟨rfl, rfl⟩ : b = b' ∧ off = off' := by simpa using e
  exact h'
theorem IRow.kept {w w' : World} {v : Value} {xs : List Int} (h : IRow w v xs) (hk : ∀ b o, v.ownBlock = Option.some b → b < w.heap.size → w'.cell? ⟨b, o, none⟩ = w.cell? ⟨b, o, none⟩) : IRow w' v xs := by
  obtain ⟨a, cap, rfl, hl, hc⟩ := h
  refine ⟨a, cap, rfl, hl, fun j hj => ?_⟩
  obtain ⟨b, off, rfl, h'⟩ := hc j hj
  exact ⟨b, off, rfl, (hk b (off + j) rfl (World.block_lt_of_cell? w ⟨b, off + j, none⟩ h')).trans h'⟩
theorem IRow.below {w w' : World} {v : Value} {xs : List Int} (h : IRow w v xs) (hb : Below w.heap.size w w') : IRow w' v xs :=
  h.kept fun b o _ hlt => hb.cell (p := ⟨b, o, none⟩) hlt
theorem IRow.grown {w w' : World} {v : Value} {xs : List Int} {row : Option Nat} (h : IRow w v xs) (hg : w.grownBy w' row) (hne : ∀ b, v.ownBlock = Option.some b → Option.some b ≠ row) : IRow w' v xs :=
  h.kept fun b _ hb hlt => World.cell?_of_block (hg.block b hlt (hne b hb))

/-- What a call owns reads so. -/
theorem IRow.of_owns {w : World} {base : Nat} {e : TypeId} {v : Value} {xs : List Int} {n : Nat} (h : w.ownsRow base e 1 v n (xs.map (Value.int .i64))) : IRow w v xs := by
  obtain ⟨h1, h2⟩ := h
  have hn : xs.length = n := by simpa using h1
  subst hn
  rcases h2 with ⟨rfl, h0⟩ | ⟨g, cap, cur, rfl, _, hg, hnc, hcm, hcs, ht⟩
  · have : xs = [] := List.eq_nil_of_length_eq_zero h0
    subst this
    exact ⟨none, 0, rfl, by simp, fun j hj => by simp at hj⟩
  · refine ⟨some ⟨g, 0, none⟩, cap, rfl, by unfold maxLen at hcm; omega, fun j hj => ⟨g, 0, rfl, ?_⟩⟩
    rw [cell_of_row w g (0 + j) cur e (0, 0) hg]
    have h3 : (cur.toList.take (xs.length * 1))[j]? = some (Value.int .i64 (xs.getD j 0)) := by rw [ht]; simp [List.getD, hj]
    rw [List.getElem?_take] at h3
    simp only [Nat.mul_one, hj, if_true] at h3
    simpa using h3

theorem below_of_grown {w w' : World} {B : Nat} (hg : w.grownBy w' none) (hB : B ≤ w.heap.size) : Below B w w' :=
  (Below.refl B w).grown hg hB (fun k h => by cases h)

theorem i64_xor_bd (a b : Int) (h1 : 0 ≤ a) (h2 : a ≤ 9223372036854775807) (h3 : 0 ≤ b) (h4 : b ≤ 9223372036854775807) : 0 ≤ bits .xor .i64 a b ∧ bits .xor .i64 a b ≤ 9223372036854775807 := by
  obtain ⟨A, rfl⟩ := Int.eq_ofNat_of_zero_le h1
  obtain ⟨B, rfl⟩ := Int.eq_ofNat_of_zero_le h3
  have hx : A ^^^ B < 2 ^ 63 := Nat.xor_lt_two_pow (by omega) (by omega)
  have e : bits .xor .i64 (A : Int) (B : Int) = IntKind.i64.wrap ((A ^^^ B : Nat) : Int) := by
    show IntKind.i64.wrap ((BitVec.ofInt 64 (A : Int) ^^^ BitVec.ofInt 64 (B : Int)).toNat : Int) = _
    rw [BitVec.toNat_xor, ofInt_u64 A (by omega), ofInt_u64 B (by omega)]
  rw [e, IntWalk.i64_in _ (by omega)]
  omega
theorem take_snoc_getD (xs : List Int) (k : Nat) (h : k < xs.length) : xs.take (k + 1) = xs.take k ++ [xs.getD k 0] := by
  rw [List.take_succ_eq_append_getElem h]
  simp [List.getD, h]

theorem grownBy_refl (w : World) (row : Option Nat) : w.grownBy w row := ⟨rfl, rfl, rfl, Nat.le_refl _, fun _ _ _ => rfl⟩
theorem grownBy_trans {a b c : World} {row : Option Nat} (h : a.grownBy b row) (k : b.grownBy c row) : a.grownBy c row :=
  ⟨k.os.trans h.os, k.tape.trans h.tape, k.output.trans h.output, Nat.le_trans h.size k.size, fun i hi hne => (k.block i (Nat.lt_of_lt_of_le hi h.size) hne).trans (h.block i hi hne)⟩
theorem grownBy_drewN {a b : World} {row : Option Nat} (h : a.grownBy b row) (n : Nat) : a.grownBy (b.drewN n) row := ⟨h.os, h.tape, h.output, h.size, h.block⟩
theorem cells_new (w : World) (l : List Value) (t : TypeId) : ∀ j u, l[j]? = some u → (w.alloc (.cells l.toArray t)).cell? ((⟨w.heap.size, 0, none⟩ : Addr).add j) = some u := by
  intro j u hj
  have e : ((⟨w.heap.size, 0, none⟩ : Addr).add j) = ⟨w.heap.size, j, none⟩ := by unfold Addr.add; split <;> simp_all
  rw [e, World.cell?_alloc_at _ _ _ _ rfl]
  simpa using hj
theorem below_append {w wr w1 : World} {B : Nat} {e : TypeId} {size : Nat} {v : Value} {n : Nat} {xs : List Value} {o : Obj} (hb : Below B w wr) (hB : B ≤ w.heap.size) (ho : wr.ownsRow B e size v n xs) (hg : (wr.alloc o).grownBy w1 v.ownBlock) : Below B w w1 := by
  have h1 := hb.size
  exact (hb.alloc (by omega) o).grown hg (by simp; omega) (fun k hk => (ho.lt k hk).1)
theorem grown_of_below {w w' : World} (hb : Below w.heap.size w w') (row : Option Nat) : w.grownBy w' row := ⟨hb.os, hb.tape, hb.output, hb.size, fun k hk _ => hb.block k hk⟩
theorem owns_below {w w' : World} {base : Nat} {e : TypeId} {size : Nat} {v : Value} {n : Nat} {xs : List Value} (h : w.ownsRow base e size v n xs) (hb : Below w.heap.size w w') : w'.ownsRow base e size v n xs :=
  h.kept (grown_of_below hb none) (by cases hv : v.ownBlock <;> simp)
theorem owns_apart {w w2 : World} {b0 b1 : Nat} {e0 e1 : TypeId} {s0 s1 : Nat} {v0 v1 : Value} {n0 n1 : Nat} {x0 x1 : List Value} (h0 : w.ownsRow b0 e0 s0 v0 n0 x0) (h1 : w2.ownsRow b1 e1 s1 v1 n1 x1) (hs : w.heap.size ≤ b1) : ∀ b, v0.ownBlock = some b → some b ≠ v1.ownBlock := by
  intro b hb hne
  have := (h0.lt b hb).2
  have := (h1.lt b hne.symm).1
  omega
theorem below_grown {B : Nat} {a b c : World} {v : Value} {base : Nat} {e : TypeId} {size n : Nat} {xs : List Value} (h : Below B a b) (hg : b.grownBy c v.ownBlock) (ho : b.ownsRow base e size v n xs) (hB : B ≤ base) (hB2 : B ≤ a.heap.size) : Below B a c :=
  h.grown hg (by have := h.size; omega) (fun k hk => by have := (ho.lt k hk).1; omega)
theorem below_next {B : Nat} {a b c : World} (h : Below B a b) (k : Below b.heap.size b c) (hB : B ≤ a.heap.size) : Below B a c := h.trans (k.mono (by have := h.size; omega))
theorem mark_step (k : Int) (xs : List Int) (j : Nat) (h : j < xs.length) : (iota k j ++ xs.drop j).set j (k + (j : Int)) = iota k (j + 1) ++ xs.drop (j + 1) := by
  rw [List.set_append_right _ _ (by simp [iota_length]), iota_length, Nat.sub_self, List.drop_eq_getElem_cons h, List.set_cons_zero, iota_succ]
  simp
/-- What marking a row leaves. -/
def MarkPost (k : Int) (n base : Nat) (v : Value) (w : World) (e : Ending) (w' : World) : Prop :=
  e = .returned (.int .i64 (k + n)) ∧ w'.ownsRow base 3 1 v n ((iota k n).map (Value.int .i64)) ∧ w.grownBy w' v.ownBlock
/-- It returns v and turns nothing that was there. -/
def Ret (v : Value) (w : World) (e : Ending) (w' : World) : Prop := e = .returned v ∧ Below w.heap.size w w'
end Go.Proofs.Ytgbbodmggbeflaa

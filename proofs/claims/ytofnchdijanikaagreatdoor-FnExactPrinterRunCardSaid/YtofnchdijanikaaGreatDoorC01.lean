/-
  PROVED HERE: what the printer's lines need, part C01. Conditions: each theorem's own.
-/
import Derived.WalkKit
import Derived.ProofKit
import Derived.OpenShut
import Derived.Lib.Hide
import Derived.WalkSmall
import Derived.OneCell
import Derived.IntWalk
import Derived.Laws.BitsAllLaws
import Derived.Test.YtofnchdijanikaaGreatDoorProg
import Derived.Outline
set_option linter.unusedVariables false
set_option linter.unusedSimpArgs false
set_option maxRecDepth 100000
namespace Go.Proofs.YtofnchdijanikaaGreatDoor
open Go.RowKit
def iota (a : Int) (n : Nat) : List Int := (List.range n).map fun i : Nat => a + (i : Int)
theorem iota_length (a : Int) (n : Nat) : (iota a n).length = n := by simp [iota]
theorem iota_succ (a : Int) (n : Nat) : iota a (n + 1) = iota a n ++ [a + (n : Int)] := by simp [iota, List.range_succ]
theorem iota_getD (a : Int) (n j : Nat) (h : j < n) : (iota a n).getD j 0 = a + (j : Int) := by simp [iota, List.getD, h]
theorem iota_zero (a : Int) : iota a 0 = [] := rfl
def IRow (w : World) (v : Value) (xs : List Int) : Prop :=
 ∃ a cap, v = .slice a xs.length cap ∧ xs.length ≤ 9223372036854775807 ∧ ∀ j, j < xs.length → ∃ b off, a = some ⟨b, off, none⟩ ∧ w.cell? ⟨b, off + j, none⟩ = some (.int .i64 (xs.getD j 0))
theorem IRow.empty {w : World} {v : Value} (h : IRow w v []) : ∃ a cap, v = .slice a 0 cap := by
 obtain ⟨a, cap, hv, _⟩ := h
 exact ⟨a, cap, hv⟩
theorem IRow.pos {w : World} {v : Value} {xs : List Int} (h : IRow w v xs) (hp : 0 < xs.length) :
  ∃ b off cap, v = .slice (some ⟨b, off, none⟩) xs.length cap ∧ ∀ j, j < xs.length → w.cell? ⟨b, off + j, none⟩ = some (.int .i64 (xs.getD j 0)) := by
 obtain ⟨a, cap, hv, _, hc⟩ := h
 obtain ⟨b, off, rfl, _⟩ := hc 0 hp
 refine ⟨b, off, cap, hv, fun j hj => ?_⟩
 obtain ⟨b', off', e, h'⟩ := hc j hj
 obtain ⟨rfl, rfl⟩ : b = b' ∧ off = off' := by simpa using e
 exact h'
theorem IRow.kept {w w' : World} {v : Value} {xs : List Int} (h : IRow w v xs) (hk : ∀ b o, v.ownBlock = Option.some b → b < w.heap.size → w'.cell? ⟨b, o, none⟩ = w.cell? ⟨b, o, none⟩) : IRow w' v xs := by
 obtain ⟨a, cap, rfl, hl, hc⟩ := h
 refine ⟨a, cap, rfl, hl, fun j hj => ?_⟩
 obtain ⟨b, off, rfl, h'⟩ := hc j hj
 exact ⟨b, off, rfl, (hk b (off + j) rfl (World.block_lt_of_cell? w ⟨b, off + j, none⟩ h')).trans h'⟩
theorem IRow.below {w w' : World} {v : Value} {xs : List Int} (h : IRow w v xs) (hb : Below w.heap.size w w') : IRow w' v xs :=
 h.kept fun b o _ hlt => hb.cell (p := ⟨b, o, none⟩) hlt
theorem IRow.grown {w w' : World} {v : Value} {xs : List Int} {row : Option Nat} (h : IRow w v xs) (hg : w.grownBy w' row) (hne : ∀ b, v.ownBlock = Option.some b → Option.some b ≠ row) : IRow w' v xs :=
 h.kept fun b _ hb hlt => World.cell?_of_block (hg.block b hlt (hne b hb))
theorem IRow.of_owns {w : World} {base : Nat} {e : TypeId} {v : Value} {xs : List Int} {n : Nat} (h : w.ownsRow base e 1 v n (xs.map (Value.int .i64))) : IRow w v xs := by
 obtain ⟨h1, h2⟩ := h
 have hn : xs.length = n := by simpa using h1
 subst hn
 rcases h2 with ⟨rfl, h0⟩ | ⟨g, cap, cur, rfl, _, hg, hnc, hcm, hcs, ht⟩
 ·have : xs = [] := List.eq_nil_of_length_eq_zero h0
  subst this
  exact ⟨none, 0, rfl, by simp, fun j hj => by simp at hj⟩
 ·refine ⟨some ⟨g, 0, none⟩, cap, rfl, by unfold maxLen at hcm; omega, fun j hj => ⟨g, 0, rfl, ?_⟩⟩
  rw [cell_of_row w g (0 + j) cur e (0, 0) hg]
  have h3 : (cur.toList.take (xs.length * 1))[j]? = some (Value.int .i64 (xs.getD j 0)) := by rw [ht]; simp [List.getD, hj]
  rw [List.getElem?_take] at h3
  simp only [Nat.mul_one, hj, if_true] at h3
  simpa using h3
theorem below_of_grown {w w' : World} {B : Nat} (hg : w.grownBy w' none) (hB : B ≤ w.heap.size) : Below B w w' :=
 (Below.refl B w).grown hg hB (fun k h => by cases h)
theorem i64_xor_bd (a b : Int) (h1 : 0 ≤ a) (h2 : a ≤ 9223372036854775807) (h3 : 0 ≤ b) (h4 : b ≤ 9223372036854775807) : 0 ≤ bits .xor .i64 a b ∧ bits .xor .i64 a b ≤ 9223372036854775807 := by
 obtain ⟨A, rfl⟩ := Int.eq_ofNat_of_zero_le h1
 obtain ⟨B, rfl⟩ := Int.eq_ofNat_of_zero_le h3
 have hx : A ^^^ B < 2 ^ 63 := Nat.xor_lt_two_pow (by omega) (by omega)
 have e : bits .xor .i64 (A : Int) (B : Int) = IntKind.i64.wrap ((A ^^^ B : Nat) : Int) := by
  show IntKind.i64.wrap ((BitVec.ofInt 64 (A : Int) ^^^ BitVec.ofInt 64 (B : Int)).toNat : Int) = _
  rw [BitVec.toNat_xor, ofInt_u64 A (by omega), ofInt_u64 B (by omega)]
 rw [e, IntWalk.i64_in _ (by omega)]
 omega
theorem take_snoc_getD (xs : List Int) (k : Nat) (h : k < xs.length) : xs.take (k + 1) = xs.take k ++ [xs.getD k 0] := by
 rw [List.take_succ_eq_append_getElem h]
 simp [List.getD, h]
theorem grownBy_refl (w : World) (row : Option Nat) : w.grownBy w row := ⟨rfl, rfl, rfl, Nat.le_refl _, fun _ _ _ => rfl⟩
theorem grownBy_trans {a b c : World} {row : Option Nat} (h : a.grownBy b row) (k : b.grownBy c row) : a.grownBy c row :=
 ⟨k.os.trans h.os, k.tape.trans h.tape, k.output.trans h.output, Nat.le_trans h.size k.size, fun i hi hne => (k.block i (Nat.lt_of_lt_of_le hi h.size) hne).trans (h.block i hi hne)⟩
theorem grownBy_drewN {a b : World} {row : Option Nat} (h : a.grownBy b row) (n : Nat) : a.grownBy (b.drewN n) row := ⟨h.os, h.tape, h.output, h.size, h.block⟩
theorem cells_new (w : World) (l : List Value) (t : TypeId) : ∀ j u, l[j]? = some u → (w.alloc (.cells l.toArray t)).cell? ((⟨w.heap.size, 0, none⟩ : Addr).add j) = some u := by
 intro j u hj
 have e : ((⟨w.heap.size, 0, none⟩ : Addr).add j) = ⟨w.heap.size, j, none⟩ := by unfold Addr.add; split <;> simp_all
 rw [e, World.cell?_alloc_at _ _ _ _ rfl]
 simpa using hj
theorem below_append {w wr w1 : World} {B : Nat} {e : TypeId} {size : Nat} {v : Value} {n : Nat} {xs : List Value} {o : Obj} (hb : Below B w wr) (hB : B ≤ w.heap.size) (ho : wr.ownsRow B e size v n xs) (hg : (wr.alloc o).grownBy w1 v.ownBlock) : Below B w w1 := by
 have h1 := hb.size
 exact (hb.alloc (by omega) o).grown hg (by simp; omega) (fun k hk => (ho.lt k hk).1)
theorem grown_of_below {w w' : World} (hb : Below w.heap.size w w') (row : Option Nat) : w.grownBy w' row := ⟨hb.os, hb.tape, hb.output, hb.size, fun k hk _ => hb.block k hk⟩
theorem owns_below {w w' : World} {base : Nat} {e : TypeId} {size : Nat} {v : Value} {n : Nat} {xs : List Value} (h : w.ownsRow base e size v n xs) (hb : Below w.heap.size w w') : w'.ownsRow base e size v n xs :=
 h.kept (grown_of_below hb none) (by cases hv : v.ownBlock <;> simp)
theorem owns_apart {w w2 : World} {b0 b1 : Nat} {e0 e1 : TypeId} {s0 s1 : Nat} {v0 v1 : Value} {n0 n1 : Nat} {x0 x1 : List Value} (h0 : w.ownsRow b0 e0 s0 v0 n0 x0) (h1 : w2.ownsRow b1 e1 s1 v1 n1 x1) (hs : w.heap.size ≤ b1) : ∀ b, v0.ownBlock = some b → some b ≠ v1.ownBlock := by
 intro b hb hne
 have := (h0.lt b hb).2
 have := (h1.lt b hne.symm).1
 omega
theorem below_grown {B : Nat} {a b c : World} {v : Value} {base : Nat} {e : TypeId} {size n : Nat} {xs : List Value} (h : Below B a b) (hg : b.grownBy c v.ownBlock) (ho : b.ownsRow base e size v n xs) (hB : B ≤ base) (hB2 : B ≤ a.heap.size) : Below B a c :=
 h.grown hg (by have := h.size; omega) (fun k hk => by have := (ho.lt k hk).1; omega)
theorem below_next {B : Nat} {a b c : World} (h : Below B a b) (k : Below b.heap.size b c) (hB : B ≤ a.heap.size) : Below B a c := h.trans (k.mono (by have := h.size; omega))
theorem mark_step (k : Int) (xs : List Int) (j : Nat) (h : j < xs.length) : (iota k j ++ xs.drop j).set j (k + (j : Int)) = iota k (j + 1) ++ xs.drop (j + 1) := by
 rw [List.set_append_right _ _ (by simp [iota_length]), iota_length, Nat.sub_self, List.drop_eq_getElem_cons h, List.set_cons_zero, iota_succ]
 simp
def MarkPost (k : Int) (n base : Nat) (v : Value) (w : World) (e : Ending) (w' : World) : Prop :=
 e = .returned (.int .i64 (k + n)) ∧ w'.ownsRow base 3 1 v n ((iota k n).map (Value.int .i64)) ∧ w.grownBy w' v.ownBlock
def Ret (v : Value) (w : World) (e : Ending) (w' : World) : Prop := e = .returned v ∧ Below w.heap.size w w'
end Go.Proofs.YtofnchdijanikaaGreatDoor
namespace Go.Proofs.YtofnchdijanikaaGreatDoor
open Go.RowKit
def inB (n lo hi : Int) : Bool := decide (lo ≤ n) && decide (n ≤ hi)
theorem inB_true {n lo hi : Int} (h : inB n lo hi = true) : lo ≤ n ∧ n ≤ hi := by simpa [inB] using h
theorem inB_false {n lo hi : Int} (h : inB n lo hi = false) : n < lo ∨ hi < n := by simp [inB] at h; omega
theorem inB_yes {n lo hi : Int} (h1 : lo ≤ n) (h2 : n ≤ hi) : inB n lo hi = true := by simp [inB, h1, h2]
theorem inB_no {n lo hi : Int} (h : n < lo ∨ hi < n) : inB n lo hi = false := by simp [inB]; omega
theorem in_any (n lo hi : Int) (w : World) : Calls Tryz.prog 57 #[.int .i64 n, .int .i64 lo, .int .i64 hi] w fun e w' => e = .returned (.bool (inB n lo hi)) ∧ w = w' := by
 by_cases h1 : lo ≤ n
 ·go_enter Tryz.func57, Tryz.ntmps57
  go_wp2
  go_ret
  exact ⟨by simp [inB, h1], rfl⟩
 ·go_enter Tryz.func57, Tryz.ntmps57
  go_wp2
  go_ret
  exact ⟨by simp [inB]; omega, rfl⟩
theorem l1In_any (n lo hi : Int) (w : World) : Calls Tryz.prog 34 #[.int .i64 n, .int .i64 lo, .int .i64 hi] w fun e w' => e = .returned (.bool (inB n lo hi)) ∧ w = w' := by
 by_cases h1 : lo ≤ n
 ·go_enter Tryz.func34, Tryz.ntmps34
  go_wp2
  go_ret
  exact ⟨by simp [inB, h1], rfl⟩
 ·go_enter Tryz.func34, Tryz.ntmps34
  go_wp2
  go_ret
  exact ⟨by simp [inB]; omega, rfl⟩
end Go.Proofs.YtofnchdijanikaaGreatDoor
namespace Go.Proofs.YtofnchdijanikaaGreatDoor
def smB (c : UInt8) : Bool := decide (97 ≤ c.toNat) && decide (c.toNat ≤ 122)
def dgB (c : UInt8) : Bool := decide (48 ≤ c.toNat) && decide (c.toNat ≤ 57)
def wordB (l : List UInt8) : Bool := l.all smB && inB l.length 1 20
def wordsB (ws : List (List UInt8)) : Bool := ws.all wordB && decide (ws.length ≤ 12)
def patAt (p : List UInt8) (k : Nat) : Bool :=
 smB (p.getD k 0) || ((p.getD k 0 == 46) && (k == 0 || k + 1 == p.length)) || (dgB (p.getD k 0) && !(decide (0 < k) && dgB (p.getD (k - 1) 0)))
def patB (p : List UInt8) : Bool := (List.range p.length).all (patAt p) && (p.any smB && decide (p.length ≤ 12))
def patsB (ps : List (List UInt8)) : Bool := ps.all patB && decide (ps.length ≤ 20)
theorem all_range (n : Nat) (f : Nat → Bool) : (List.range n).all f = true ↔ ∀ k, k < n → f k = true := by
 rw [List.all_eq_true]
 exact ⟨fun h k hk => h k (List.mem_range.2 hk), fun h k hk => h k (List.mem_range.1 hk)⟩
theorem all_getD (l : List UInt8) (f : UInt8 → Bool) : l.all f = true ↔ ∀ k, k < l.length → f (l.getD k 0) = true := by
 rw [List.all_eq_true]
 constructor
 ·intro h k hk
  have e : l.getD k 0 = l[k] := by simp [List.getD, hk]
  rw [e]
  exact h _ (List.getElem_mem hk)
 ·intro h c hc
  obtain ⟨k, hk, rfl⟩ := List.getElem_of_mem hc
  have := h k hk
  simpa [List.getD, hk] using this
theorem wordB_true {l : List UInt8} (h : wordB l = true) : (∀ k, k < l.length → smB (l.getD k 0) = true) ∧ 1 ≤ l.length ∧ l.length ≤ 20 := by
 unfold wordB at h
 rw [Bool.and_eq_true] at h
 have := inB_true h.2
 exact ⟨(all_getD l smB).1 h.1, by omega, by omega⟩
def patL (p : List UInt8) : List UInt8 := p.filter fun c => !dgB c
def levGo : Int → List UInt8 → List Int
 | l, [] => [l]
 | l, c :: t => if dgB c = true then levGo ((c.toNat : Int) - 48) t else l :: levGo 0 t
def patV (p : List UInt8) : List Int := levGo 0 p
def levSt : List UInt8 → List Int × Int
 | p => p.foldl (fun s c => if dgB c = true then (s.1, (c.toNat : Int) - 48) else (s.1 ++ [s.2], 0)) ([], 0)
theorem levGo_st : ∀ (p : List UInt8) (a : List Int) (l : Int), a ++ levGo l p = (p.foldl (fun s c => if dgB c = true then (s.1, (c.toNat : Int) - 48) else (s.1 ++ [s.2], 0)) (a, l)).1 ++ [(p.foldl (fun s c => if dgB c = true then (s.1, (c.toNat : Int) - 48) else (s.1 ++ [s.2], 0)) (a, l)).2]
 | [], a, l => rfl
 | c :: t, a, l => by
  rw [levGo, List.foldl_cons]
  split
  ·rename_i h
   exact levGo_st t a _
  ·rename_i h
   rw [← levGo_st t (a ++ [l]) 0, List.append_assoc]
   rfl
theorem patV_st (p : List UInt8) : patV p = (levSt p).1 ++ [(levSt p).2] := by
 have := levGo_st p [] 0
 rw [List.nil_append] at this
 exact this
theorem levSt_snoc (p : List UInt8) (c : UInt8) : levSt (p ++ [c]) = if dgB c = true then ((levSt p).1, (c.toNat : Int) - 48) else ((levSt p).1 ++ [(levSt p).2], 0) := by
 unfold levSt
 rw [List.foldl_append]
 rfl
theorem levSt_len : ∀ (m : Nat) (p : List UInt8), p.length = m → (levSt p).1.length = (patL p).length ∧ (patL p).length ≤ m ∧ 0 ≤ (levSt p).2 ∧ (levSt p).2 ≤ 9 ∧ ∀ x ∈ (levSt p).1, 0 ≤ x ∧ x ≤ 9
 | 0, p, h => by
  obtain rfl : p = [] := List.eq_nil_of_length_eq_zero h
  exact ⟨rfl, Nat.le_refl _, Int.le_refl _, by decide, fun x hx => by cases hx⟩
 | m + 1, p, h => by
  obtain ⟨q, c, rfl⟩ : ∃ q c, p = q ++ [c] := by
   rcases List.eq_nil_or_concat p with e | ⟨q, c, e⟩
   ·rw [e] at h; cases h
   ·exact ⟨q, c, by rw [e, List.concat_eq_append]⟩
  obtain ⟨a, b, d1, d2, e⟩ := levSt_len m q (by simpa using h)
  rw [levSt_snoc]
  have hf : patL (q ++ [c]) = patL q ++ (if dgB c = true then [] else [c]) := by
   unfold patL
   rw [List.filter_append]
   congr 1
   cases hc : dgB c <;> simp [hc]
  rw [hf]
  split
  ·rename_i hd
   rw [List.append_nil]
   unfold dgB at hd
   rw [Bool.and_eq_true] at hd
   have h1 := of_decide_eq_true hd.1
   have h2 := of_decide_eq_true hd.2
   exact ⟨a, by omega, by simp only; omega, by simp only; omega, e⟩
  ·refine ⟨by simp [a], by simp; omega, Int.le_refl _, by show (0 : Int) ≤ 9; decide, fun x hx => ?_⟩
   rw [List.mem_append, List.mem_singleton] at hx
   rcases hx with hx | rfl
   ·exact e x hx
   ·exact ⟨d1, d2⟩
theorem patV_len (p : List UInt8) : (patV p).length = (patL p).length + 1 := by
 rw [patV_st, List.length_append, (levSt_len _ p rfl).1]
 rfl
theorem patL_le (p : List UInt8) : (patL p).length ≤ p.length := (levSt_len _ p rfl).2.1
theorem patV_bd (p : List UInt8) : ∀ x ∈ patV p, 0 ≤ x ∧ x ≤ 9 := by
 obtain ⟨_, _, a, b, c⟩ := levSt_len _ p rfl
 rw [patV_st]
 intro x hx
 rw [List.mem_append, List.mem_singleton] at hx
 rcases hx with hx | rfl
 ·exact c x hx
 ·exact ⟨a, b⟩
def put1 (wl : Nat) (out : List Int) (at' j : Nat) (lv : Int) : List Int :=
 if 1 ≤ at' + j ∧ at' + j ≤ wl + 1 then out.set (at' + j - 1) (max (out.getD (at' + j - 1) 0) lv) else out
def putTo (wl : Nat) (out : List Int) (at' : Nat) (lvs : List Int) : Nat → List Int
 | 0 => out
 | j + 1 => put1 wl (putTo wl out at' lvs j) at' j (lvs.getD j 0)
def putL (wl : Nat) (out : List Int) (at' : Nat) (lvs : List Int) : List Int := putTo wl out at' lvs lvs.length
def dot (word : List UInt8) : List UInt8 := 46 :: (word ++ [46])
def fits (word p : List UInt8) (at' : Nat) : Bool := ((dot word).drop at').take (patL p).length == patL p
def runTo (word p : List UInt8) (out : List Int) : Nat → List Int
 | 0 => out
 | a + 1 => if fits word p a = true then putL word.length (runTo word p out a) a (patV p) else runTo word p out a
def runP (word p : List UInt8) (out : List Int) : List Int := runTo word p out ((dot word).length + 1 - (patL p).length)
def lvsTo (word : List UInt8) (ps : List (List UInt8)) : Nat → List Int
 | 0 => List.replicate (word.length + 1) 0
 | k + 1 => runP word (ps.getD k []) (lvsTo word ps k)
def lvs (word : List UInt8) (ps : List (List UInt8)) : List Int := lvsTo word ps ps.length
def places (word : List UInt8) (ps : List (List UInt8)) : List Nat := (List.range (word.length + 1)).filter fun k => (lvs word ps).getD k 0 % 2 == 1 && (decide (2 ≤ k) && decide (k + 3 ≤ word.length))
def cutAt (word : List UInt8) : Nat → List Nat → List (List UInt8)
 | a, [] => [word.drop a]
 | a, p :: t => (word.drop a).take (p - a) :: cutAt word p t
def parts (word : List UInt8) (ps : List (List UInt8)) : List (List UInt8) := cutAt word 0 (places word ps)
def GoodL (wl : Nat) (out : List Int) : Prop := out.length = wl + 1 ∧ ∀ x ∈ out, 0 ≤ x ∧ x ≤ 9
theorem put1_good {wl : Nat} {out : List Int} {a j : Nat} {lv : Int} (h : GoodL wl out) (hl : 0 ≤ lv ∧ lv ≤ 9) : GoodL wl (put1 wl out a j lv) := by
 unfold put1
 split
 ·rename_i hc
  refine ⟨by simp [h.1], fun x hx => ?_⟩
  rcases List.mem_or_eq_of_mem_set hx with hx | rfl
  ·exact h.2 x hx
  ·have hk : a + j - 1 < out.length := by rw [h.1]; omega
   have e : out.getD (a + j - 1) 0 = out[a + j - 1] := by simp [List.getD, hk]
   have := h.2 _ (List.getElem_mem hk)
   rw [e]
   omega
 ·exact h
theorem getD_bd {l : List Int} (h : ∀ x ∈ l, 0 ≤ x ∧ x ≤ 9) (j : Nat) : 0 ≤ l.getD j 0 ∧ l.getD j 0 ≤ 9 := by
 by_cases hj : j < l.length
 ·have e : l.getD j 0 = l[j] := by simp [List.getD, hj]
  rw [e]
  exact h _ (List.getElem_mem hj)
 ·have e : l.getD j 0 = 0 := by simp [List.getD, List.getElem?_eq_none (by omega : l.length ≤ j)]
  rw [e]
  decide
theorem putTo_good {wl : Nat} {out : List Int} {a : Nat} {lvs : List Int} (h : GoodL wl out) (hl : ∀ x ∈ lvs, 0 ≤ x ∧ x ≤ 9) : ∀ j, GoodL wl (putTo wl out a lvs j)
 | 0 => h
 | j + 1 => put1_good (putTo_good h hl j) (getD_bd hl j)
theorem runTo_good {word p : List UInt8} {out : List Int} (h : GoodL word.length out) : ∀ a, GoodL word.length (runTo word p out a)
 | 0 => h
 | a + 1 => by
  rw [runTo]
  split
  ·exact putTo_good (runTo_good h a) (patV_bd p) _
  ·exact runTo_good h a
theorem lvsTo_good (word : List UInt8) (ps : List (List UInt8)) : ∀ k, GoodL word.length (lvsTo word ps k)
 | 0 => ⟨by simp [lvsTo], fun x hx => by rw [lvsTo] at hx; rw [(List.mem_replicate.1 hx).2]; decide⟩
 | k + 1 => runTo_good (lvsTo_good word ps k) _
theorem lvs_good (word : List UInt8) (ps : List (List UInt8)) : GoodL word.length (lvs word ps) := lvsTo_good word ps _
theorem places_in {word : List UInt8} {ps : List (List UInt8)} {k : Nat} (h : k ∈ places word ps) : 2 ≤ k ∧ k + 3 ≤ word.length := by
 unfold places at h
 rw [List.mem_filter] at h
 have h2 := h.2
 simp only [Bool.and_eq_true, decide_eq_true_eq] at h2
 exact h2.2
theorem places_sorted (word : List UInt8) (ps : List (List UInt8)) : (places word ps).Pairwise (· < ·) := List.Pairwise.filter _ List.pairwise_lt_range
theorem places_len (word : List UInt8) (ps : List (List UInt8)) : (places word ps).length ≤ word.length + 1 := by
 unfold places
 exact Nat.le_trans (List.length_filter_le _ _) (by simp)
theorem cutAt_good (word : List UInt8) (hw : word.all smB = true) (hl : word.length ≤ 20) : ∀ (t : List Nat) (a : Nat), a < word.length → (∀ k ∈ t, a < k ∧ k < word.length) → t.Pairwise (· < ·) → (∀ x ∈ cutAt word a t, wordB x = true) ∧ (cutAt word a t).flatten = word.drop a
 | [], a, ha, _, _ => by
  refine ⟨fun x hx => ?_, by simp [cutAt]⟩
  rw [cutAt, List.mem_singleton] at hx
  rw [hx]
  unfold wordB
  rw [Bool.and_eq_true]
  refine ⟨?_, inB_yes (by simp; omega) (by simp; omega)⟩
  rw [List.all_eq_true] at hw ⊢
  exact fun c hc => hw c (List.mem_of_mem_drop hc)
 | k :: t, a, ha, hk, hp => by
  obtain ⟨h1, h2⟩ := hk k (by simp)
  rw [List.pairwise_cons] at hp
  obtain ⟨ih1, ih2⟩ := cutAt_good word hw hl t k h2 (fun j hj => ⟨hp.1 j hj, (hk j (List.mem_cons_of_mem _ hj)).2⟩) hp.2
  refine ⟨fun x hx => ?_, ?_⟩
  ·rw [cutAt, List.mem_cons] at hx
   rcases hx with rfl | hx
   ·unfold wordB
    rw [Bool.and_eq_true]
    refine ⟨?_, inB_yes (by simp; omega) (by simp; omega)⟩
    rw [List.all_eq_true] at hw ⊢
    exact fun c hc => hw c (List.mem_of_mem_drop (List.mem_of_mem_take hc))
   ·exact ih1 x hx
  ·rw [cutAt, List.flatten_cons, ih2]
   rw [show word.drop k = (word.drop a).drop (k - a) by rw [List.drop_drop]; congr 1; omega]
   exact List.take_append_drop _ _
theorem parts_good {word : List UInt8} (ps : List (List UInt8)) (h : wordB word = true) : (∀ x ∈ parts word ps, wordB x = true) ∧ (parts word ps).flatten = word := by
 have h0 := h
 obtain ⟨_, h1, h2⟩ := wordB_true h
 unfold wordB at h
 rw [Bool.and_eq_true] at h
 have := cutAt_good word h.1 h2 (places word ps) 0 (by omega) (fun k hk => by have := places_in hk; omega) (places_sorted word ps)
 rw [List.drop_zero] at this
 exact this
theorem cutAt_len (word : List UInt8) : ∀ (t : List Nat) (a : Nat), (cutAt word a t).length = t.length + 1
 | [], _ => rfl
 | k :: t, a => by rw [cutAt, List.length_cons, cutAt_len word t k, List.length_cons]
end Go.Proofs.YtofnchdijanikaaGreatDoor
namespace Go.Proofs.YtofnchdijanikaaGreatDoor
def joinB (a b : UInt8) : Bool := (a == 102) && (b == 105 || b == 106 || b == 108 || b == 102)
def letW (c : UInt8) : Int :=
 if smB c = true then
  if (c == 105 || c == 106 || c == 108) = true then 3
  else if (c == 102 || c == 114 || c == 116) = true then 4
  else if (c == 109 || c == 119) = true then 8
  else 5
 else 0
def nearV (a b : UInt8) : Int :=
 if ((a == 118 || a == 119 || a == 121) && (b == 97 || b == 101 || b == 111) || (a == 114 && (b == 110 || b == 109))) = true then 1 else 0
def signsF : Nat → List UInt8 → List (List UInt8)
 | 0, _ => []
 | _ + 1, [] => []
 | _ + 1, [a] => [[a]]
 | f + 1, a :: b :: t => if joinB a b = true then [a, b] :: signsF f t else [a] :: signsF f (b :: t)
def signs (l : List UInt8) : List (List UInt8) := signsF l.length l
theorem signsF_more : ∀ (f : Nat) (l : List UInt8), l.length ≤ f → signsF (f + 1) l = signsF f l
 | 0, l, h => by
  obtain rfl : l = [] := List.eq_nil_of_length_eq_zero (by omega)
  rfl
 | f + 1, [], _ => rfl
 | f + 1, [a], _ => rfl
 | f + 1, a :: b :: t, h => by
  rw [signsF, signsF]
  simp only [List.length_cons] at h
  rw [signsF_more f t (by omega), signsF_more f (b :: t) (by simp only [List.length_cons]; omega)]
theorem signsF_enough (l : List UInt8) : ∀ (d : Nat), signsF (l.length + d) l = signs l
 | 0 => rfl
 | d + 1 => by rw [← Nat.add_assoc, signsF_more _ _ (by omega), signsF_enough l d]
theorem signs_nil : signs [] = [] := rfl
theorem signs_one (a : UInt8) : signs [a] = [[a]] := rfl
theorem signs_two (a b : UInt8) (t : List UInt8) : signs (a :: b :: t) = if joinB a b = true then [a, b] :: signs t else [a] :: signs (b :: t) := by
 show signsF (t.length + 1 + 1) _ = _
 rw [signsF]
 congr 2
 exact signsF_enough t 1
theorem signs_drop (l : List UInt8) (k : Nat) (hk : k < l.length) :
  signs (l.drop k) = if k + 1 < l.length ∧ joinB (l.getD k 0) (l.getD (k + 1) 0) = true then ((l.drop k).take 2) :: signs (l.drop (k + 2)) else ((l.drop k).take 1) :: signs (l.drop (k + 1)) := by
 have e0 : l.getD k 0 = l[k] := by simp [List.getD, hk]
 rw [List.drop_eq_getElem_cons hk]
 by_cases h1 : k + 1 < l.length
 ·have e1 : l.getD (k + 1) 0 = l[k + 1] := by simp [List.getD, h1]
  rw [List.drop_eq_getElem_cons h1, signs_two, e0, e1]
  by_cases hj : joinB l[k] l[k + 1] = true
  ·rw [if_pos hj, if_pos ⟨h1, hj⟩]
   rfl
  ·rw [if_neg hj, if_neg (fun h => hj h.2)]
   rfl
 ·rw [if_neg (fun h => h1 h.1), List.drop_of_length_le (by omega)]
  rfl
def SignOk (s : List UInt8) : Prop := (s.length = 1 ∨ s.length = 2) ∧ s.all smB = true
theorem signs_ok : ∀ (n : Nat) (l : List UInt8), l.length ≤ n → l.all smB = true → (∀ s ∈ signs l, SignOk s) ∧ (signs l).length ≤ l.length ∧ (0 < l.length → 0 < (signs l).length) ∧ (signs l).flatten = l
 | _, [], _, _ => ⟨fun s hs => (by rw [signs_nil] at hs; cases hs), Nat.le_refl _, fun h => (by cases h), rfl⟩
 | n, [a], _, h => ⟨fun s hs => by
   rw [signs_one, List.mem_singleton] at hs
   rw [hs]
   exact ⟨.inl rfl, h⟩, Nat.le_refl _, fun _ => (by rw [signs_one]; exact Nat.one_pos), rfl⟩
 | 0, a :: b :: t, hl, _ => by simp at hl
 | n + 1, a :: b :: t, hl, h => by
  simp only [List.length_cons] at hl
  simp only [List.all_cons, Bool.and_eq_true] at h
  rw [signs_two]
  split
  ·obtain ⟨i1, i2, _, i4⟩ := signs_ok n t (by omega) h.2.2
   refine ⟨fun s hs => ?_, by simp only [List.length_cons]; omega, fun _ => by simp, by rw [List.flatten_cons, i4]; rfl⟩
   rw [List.mem_cons] at hs
   rcases hs with rfl | hs
   ·exact ⟨.inr rfl, by simp [h.1, h.2.1]⟩
   ·exact i1 s hs
  ·obtain ⟨i1, i2, _, i4⟩ := signs_ok n (b :: t) (by simp only [List.length_cons]; omega) (by simp [h.2.1, h.2.2])
   refine ⟨fun s hs => ?_, by simp only [List.length_cons] at i2 ⊢; omega, fun _ => by simp, by rw [List.flatten_cons, i4]; rfl⟩
   rw [List.mem_cons] at hs
   rcases hs with rfl | hs
   ·exact ⟨.inl rfl, by simp [h.1]⟩
   ·exact i1 s hs
def sumTo (s : List UInt8) : Nat → Int
 | 0 => 0
 | j + 1 => sumTo s j + letW (s.getD j 0)
theorem letW_bd {c : UInt8} (h : smB c = true) : 3 ≤ letW c ∧ letW c ≤ 8 := by
 unfold letW
 rw [if_pos h]
 split
 ·decide
 ·split
  ·decide
  ·split <;> decide
theorem letW_any (c : UInt8) : 0 ≤ letW c ∧ letW c ≤ 8 := by
 cases h : smB c
 ·unfold letW; rw [h]; exact ⟨Int.le_refl _, by show (0 : Int) ≤ 8; decide⟩
 ·have := letW_bd h; omega
theorem nearV_bd (a b : UInt8) : 0 ≤ nearV a b ∧ nearV a b ≤ 1 := by
 unfold nearV
 split <;> decide
theorem sumTo_any (s : List UInt8) : ∀ j, 0 ≤ sumTo s j ∧ sumTo s j ≤ 8 * j
 | 0 => by unfold sumTo; decide
 | j + 1 => by
  have := sumTo_any s j
  have := letW_any (s.getD j 0)
  rw [sumTo]
  omega
def signW (ss : List (List UInt8)) (k : Nat) : Int :=
 sumTo (ss.getD k []) (ss.getD k []).length - (((ss.getD k []).length : Int) - 1) - (if k + 1 < ss.length then nearV ((ss.getD k []).getD ((ss.getD k []).length - 1) 0) ((ss.getD (k + 1) []).getD 0 0) else 0)
def widTo (ss : List (List UInt8)) : Nat → Int
 | 0 => 0
 | k + 1 => widTo ss k + signW ss k
def width (l : List UInt8) : Int := widTo (signs l) (signs l).length
theorem sign_getD {ss : List (List UInt8)} (h : ∀ s ∈ ss, SignOk s) (k : Nat) (hk : k < ss.length) : SignOk (ss.getD k []) := by
 have e : ss.getD k [] = ss[k] := by simp [List.getD, hk]
 rw [e]
 exact h _ (List.getElem_mem hk)
theorem signW_bd {ss : List (List UInt8)} (h : ∀ s ∈ ss, SignOk s) (k : Nat) (hk : k < ss.length) : 0 ≤ signW ss k ∧ signW ss k ≤ 16 := by
 have ok := sign_getD h k hk
 unfold signW
 obtain ⟨s, hs⟩ : ∃ s, s = ss.getD k [] := ⟨_, rfl⟩
 rw [← hs] at ok ⊢
 have hn : 0 ≤ (if k + 1 < ss.length then nearV (s.getD (s.length - 1) 0) ((ss.getD (k + 1) []).getD 0 0) else 0) ∧ (if k + 1 < ss.length then nearV (s.getD (s.length - 1) 0) ((ss.getD (k + 1) []).getD 0 0) else 0) ≤ 1 := by
  split
  ·exact nearV_bd _ _
  ·decide
 have hsm : ∀ j, j < s.length → 3 ≤ letW (s.getD j 0) ∧ letW (s.getD j 0) ≤ 8 := fun j hj => letW_bd ((all_getD s smB).1 ok.2 j hj)
 rcases ok.1 with e | e
 ·rw [e] at hn ⊢
  have := hsm 0 (by omega)
  show 0 ≤ sumTo s 1 - _ - _ ∧ sumTo s 1 - _ - _ ≤ 16
  have e1 : sumTo s 1 = 0 + letW (s.getD 0 0) := rfl
  rw [e1]
  omega
 ·rw [e] at hn ⊢
  have h0 := hsm 0 (by omega)
  have h1 := hsm 1 (by omega)
  have e1 : sumTo s 2 = 0 + letW (s.getD 0 0) + letW (s.getD 1 0) := rfl
  rw [e1]
  omega
theorem widTo_bd {ss : List (List UInt8)} (h : ∀ s ∈ ss, SignOk s) : ∀ k, k ≤ ss.length → 0 ≤ widTo ss k ∧ widTo ss k ≤ 16 * k
 | 0, _ => by unfold widTo; decide
 | k + 1, hk => by
  have a := widTo_bd h k (by omega)
  have b := signW_bd h k (by omega)
  rw [widTo]
  omega
theorem width_bd {l : List UInt8} (h : wordB l = true) : 0 ≤ width l ∧ width l ≤ 320 := by
 have h0 := h
 obtain ⟨_, h1, h2⟩ := wordB_true h
 unfold wordB at h
 rw [Bool.and_eq_true] at h
 obtain ⟨i1, i2, _, _⟩ := signs_ok _ l (Nat.le_refl _) h.1
 have := widTo_bd i1 _ (Nat.le_refl _)
 unfold width
 omega
end Go.Proofs.YtofnchdijanikaaGreatDoor
namespace Go.Proofs.YtofnchdijanikaaGreatDoor
structure DItem where
 kind : Int
 w : Int
 st : Int
 sh : Int
 od : Int
 cost : Int
 mark : Bool
structure DGlue where
 w : Int
 st : Int
 sh : Int
 od : Int
def DItem.space (x : DItem) : DGlue := ⟨x.w, x.st, x.sh, x.od⟩
def noI : DItem := ⟨0, 0, 0, 0, 0, 0, false⟩
def GlueOk (g : DGlue) : Prop := 0 ≤ g.w ∧ g.w ≤ 1000 ∧ 0 ≤ g.st ∧ g.st ≤ 1000 ∧ 0 ≤ g.sh ∧ g.sh ≤ g.w ∧ 0 ≤ g.od ∧ g.od ≤ 1
def ItemOk (x : DItem) : Prop := GlueOk x.space ∧
  ((x.kind = 1 ∧ x.st = 0 ∧ x.sh = 0 ∧ x.od = 0 ∧ x.cost = 0 ∧ x.mark = false) ∨ (x.kind = 2 ∧ x.cost = 0 ∧ x.mark = false) ∨
   (x.kind = 3 ∧ x.st = 0 ∧ x.sh = 0 ∧ x.od = 0 ∧ ((0 ≤ x.cost ∧ x.cost ≤ 10000) ∨ x.cost = -10000)))
def ItemsOk (xs : List DItem) : Prop := xs.length ≤ 60 ∧ ∀ x ∈ xs, ItemOk x
def it (xs : List DItem) (k : Nat) : DItem := xs.getD k noI
theorem it_lt (xs : List DItem) (k : Nat) (h : k < xs.length) : it xs k = xs[k] := by simp [it, List.getD, h]
theorem it_ok {xs : List DItem} (h : ItemsOk xs) (k : Nat) (hk : k < xs.length) : ItemOk (it xs k) := by
 rw [it_lt xs k hk]
 exact h.2 _ (List.getElem_mem hk)
def isForced (x : DItem) : Bool := decide (x.kind = 3) && decide (x.cost = -10000)
def brk (xs : List DItem) (n : Nat) : Bool :=
 if (it xs n).kind = 2 then decide (0 < n) && decide ((it xs (n - 1)).kind = 1) else decide ((it xs n).kind = 3) && decide ((it xs n).cost < 10000)
def skipI (x : DItem) : Bool := !decide (x.kind = 1) && !isForced x
def startF : Nat → List DItem → Nat → Nat
 | 0, _, a => a
 | f + 1, xs, a => if a < xs.length ∧ skipI (it xs a) = true then startF f xs (a + 1) else a
def start (xs : List DItem) (a : Nat) : Nat := startF (xs.length - a) xs a
theorem start_skip (xs : List DItem) (a : Nat) (h : a < xs.length) (hs : skipI (it xs a) = true) : start xs a = start xs (a + 1) := by
 unfold start
 obtain ⟨f, hf⟩ : ∃ f, xs.length - a = f + 1 := ⟨xs.length - a - 1, by omega⟩
 rw [hf, startF, if_pos ⟨h, hs⟩]
 congr 1
 omega
theorem start_stop (xs : List DItem) (a : Nat) (h : ¬ (a < xs.length ∧ skipI (it xs a) = true)) : start xs a = a := by
 unfold start
 cases hf : xs.length - a with
 | zero => rfl
 | succ f => rw [startF, if_neg h]
theorem startF_le : ∀ (f : Nat) (xs : List DItem) (a : Nat), a ≤ startF f xs a
 | 0, _, a => Nat.le_refl _
 | f + 1, xs, a => by
  rw [startF]
  split
  ·have := startF_le f xs (a + 1); omega
  ·exact Nat.le_refl _
theorem start_le (xs : List DItem) (a : Nat) : a ≤ start xs a := startF_le _ _ _
theorem start_skipped (xs : List DItem) : ∀ (m a : Nat), start xs a - a = m → ∀ k, a ≤ k → k < start xs a → k < xs.length ∧ skipI (it xs k) = true
 | m, a, h, k, h1, h2 => by
  by_cases hc : a < xs.length ∧ skipI (it xs a) = true
  ·have e := start_skip xs a hc.1 hc.2
   by_cases hk : k = a
   ·rw [hk]; exact hc
   ·have := start_le xs (a + 1)
    cases m with
    | zero => omega
    | succ m => exact start_skipped xs m (a + 1) (by omega) k (by omega) (by omega)
  ·have := start_stop xs a hc
   omega
def noForced (xs : List DItem) (a to : Nat) : Bool := (List.range (to - a)).all fun j => !isForced (it xs (a + j))
def lineB (xs : List DItem) (a to : Nat) : Bool := (decide (a = 0) || brk xs (a - 1)) && brk xs to && (decide (a ≤ to) && decide (start xs a ≤ to)) && noForced xs a to
def addG (a b : DGlue) : DGlue :=
 let x := if a.st = 0 then 0 else a.od
 let y := if b.st = 0 then 0 else b.od
 let o := max x y
 ⟨a.w + b.w, (if x = o then a.st else 0) + (if y = o then b.st else 0), a.sh + b.sh, o⟩
def gluesTo (xs : List DItem) (s : Nat) : Nat → List DGlue
 | 0 => []
 | j + 1 => if s ≤ j ∧ (it xs j).kind ≠ 3 then gluesTo xs s j ++ [(it xs j).space] else gluesTo xs s j
def glues (xs : List DItem) (s to : Nat) : List DGlue := gluesTo xs s to ++ (if (it xs to).kind = 3 then [(it xs to).space] else [])
def zG : DGlue := ⟨0, 0, 0, 0⟩
def sumG (l : List DGlue) : DGlue := l.foldl addG zG
def anyOd (l : List DGlue) : Bool := l.any fun g => decide (g.od = 1) && decide (0 < g.st)
def totW : List DGlue → Int | [] => 0 | g :: t => g.w + totW t
def totSh : List DGlue → Int | [] => 0 | g :: t => g.sh + totSh t
def totSt (o : Int) : List DGlue → Int | [] => 0 | g :: t => (if g.od = o then g.st else 0) + totSt o t
theorem totW_snoc (g : DGlue) : ∀ l, totW (l ++ [g]) = totW l + g.w
 | [] => by simp [totW]
 | h :: t => by rw [List.cons_append, totW, totW_snoc g t, totW]; omega
theorem totSh_snoc (g : DGlue) : ∀ l, totSh (l ++ [g]) = totSh l + g.sh
 | [] => by simp [totSh]
 | h :: t => by rw [List.cons_append, totSh, totSh_snoc g t, totSh]; omega
theorem totSt_snoc (o : Int) (g : DGlue) : ∀ l, totSt o (l ++ [g]) = totSt o l + (if g.od = o then g.st else 0)
 | [] => by simp [totSt]
 | h :: t => by rw [List.cons_append, totSt, totSt_snoc o g t, totSt]; omega
theorem totSt_zero (l : List DGlue) (hg : ∀ g ∈ l, GlueOk g) (h : anyOd l = false) : totSt 1 l = 0 := by
 induction l with
 | nil => rfl
 | cons g t ih =>
  rw [totSt]
  unfold anyOd at h
  rw [List.any_cons, Bool.or_eq_false_iff] at h
  have := ih (fun x hx => hg x (List.mem_cons_of_mem _ hx)) h.2
  have hh := h.1
  have hb := hg g (by simp)
  unfold GlueOk at hb
  by_cases ho : g.od = 1
  ·rw [if_pos ho]
   rw [decide_eq_true ho, Bool.true_and] at hh
   have := of_decide_eq_false hh
   omega
  ·rw [if_neg ho]; omega
theorem totSt_pos (l : List DGlue) (hg : ∀ g ∈ l, GlueOk g) (o : Int) : 0 ≤ totSt o l := by
 induction l with
 | nil => exact Int.le_refl _
 | cons g t ih =>
  rw [totSt]
  have := ih (fun x hx => hg x (List.mem_cons_of_mem _ hx))
  have hb := hg g (by simp)
  unfold GlueOk at hb
  split <;> omega
theorem totSt_yes (l : List DGlue) (hg : ∀ g ∈ l, GlueOk g) (h : anyOd l = true) : 0 < totSt 1 l := by
 induction l with
 | nil => cases h
 | cons g t ih =>
  rw [totSt]
  unfold anyOd at h
  rw [List.any_cons, Bool.or_eq_true] at h
  have ht := fun x hx => hg x (List.mem_cons_of_mem _ hx)
  have hb := hg g (by simp)
  unfold GlueOk at hb
  rcases h with h | h
  ·rw [Bool.and_eq_true] at h
   have h1 := of_decide_eq_true h.1
   have h2 := of_decide_eq_true h.2
   have := totSt_pos t ht 1
   rw [if_pos h1]
   omega
  ·have := ih ht h
   split <;> omega
theorem sumG_tot : ∀ (m : Nat) (l : List DGlue), l.length = m → (∀ g ∈ l, GlueOk g) → sumG l = ⟨totW l, totSt (if anyOd l = true then 1 else 0) l, totSh l, if anyOd l = true then 1 else 0⟩
 | 0, l, h, _ => by
  obtain rfl : l = [] := List.eq_nil_of_length_eq_zero h
  rfl
 | m + 1, l, h, hg => by
  obtain ⟨q, g, rfl⟩ : ∃ q c, l = q ++ [c] := by
   rcases List.eq_nil_or_concat l with e | ⟨q, c, e⟩
   ·rw [e] at h; cases h
   ·exact ⟨q, c, by rw [e, List.concat_eq_append]⟩
  have hq : ∀ g ∈ q, GlueOk g := fun x hx => hg x (List.mem_append_left _ hx)
  have ih := sumG_tot m q (by simpa using h) hq
  have e : sumG (q ++ [g]) = addG (sumG q) g := by unfold sumG; rw [List.foldl_append]; rfl
  have ha : anyOd (q ++ [g]) = (anyOd q || (decide (g.od = 1) && decide (0 < g.st))) := by unfold anyOd; rw [List.any_append]; simp
  have hb := hg g (by simp)
  unfold GlueOk at hb
  have m1 : max (0 : Int) 1 = 1 := by decide
  have m2 : max (1 : Int) 0 = 1 := by decide
  rw [e, ih, totW_snoc, totSh_snoc, totSt_snoc, ha]
  cases hA : anyOd q
  ·have z1 := totSt_zero q hq hA
   have z0 := totSt_pos q hq 0
   unfold addG
   by_cases ho : g.od = 1
   ·by_cases hs : 0 < g.st
    ·simp only [ho, hs, decide_true, Bool.and_true, Bool.or_true, if_true, Bool.false_eq_true, if_false]
     rw [if_neg (show ¬ g.st = 0 by omega)]
     by_cases hz : totSt 0 q = 0
     ·simp [hz, z1, m1]
     ·simp [hz, z1, m1]
    ·have hs0 : g.st = 0 := by omega
     simp only [ho, hs0, decide_true, Bool.true_and, Bool.false_or, if_true, Bool.false_eq_true, if_false]
     simp
   ·have ho0 : g.od = 0 := by omega
    simp [ho0]
  ·have z1 := totSt_yes q hq hA
   unfold addG
   by_cases ho : g.od = 1
   ·by_cases hs : 0 < g.st
    ·simp [ho, show ¬ g.st = 0 by omega, show ¬ totSt 1 q = 0 by omega]
    ·have hs0 : g.st = 0 := by omega
     simp [hs0, show ¬ totSt 1 q = 0 by omega, m2]
   ·have ho0 : g.od = 0 := by omega
    simp [ho0, show ¬ totSt 1 q = 0 by omega, m2]
theorem gluesTo_ok {xs : List DItem} (h : ItemsOk xs) (s : Nat) : ∀ j, j ≤ xs.length → (∀ g ∈ gluesTo xs s j, GlueOk g) ∧ (gluesTo xs s j).length ≤ j
 | 0, _ => ⟨fun g hg => (by cases hg), Nat.le_refl _⟩
 | j + 1, hj => by
  obtain ⟨a, b⟩ := gluesTo_ok h s j (by omega)
  rw [gluesTo]
  split
  ·refine ⟨fun g hg => ?_, by simp; omega⟩
   rw [List.mem_append, List.mem_singleton] at hg
   rcases hg with hg | rfl
   ·exact a g hg
   ·exact (it_ok h j (by omega)).1
  ·exact ⟨a, by omega⟩
theorem glues_ok {xs : List DItem} (h : ItemsOk xs) (s to : Nat) (ht : to < xs.length) : (∀ g ∈ glues xs s to, GlueOk g) ∧ (glues xs s to).length ≤ to + 1 := by
 obtain ⟨a, b⟩ := gluesTo_ok h s to (by omega)
 unfold glues
 split
 ·refine ⟨fun g hg => ?_, by simp; omega⟩
  rw [List.mem_append, List.mem_singleton] at hg
  rcases hg with hg | rfl
  ·exact a g hg
  ·exact (it_ok h to ht).1
 ·rw [List.append_nil]
  exact ⟨a, by omega⟩
theorem tot_bd : ∀ (l : List DGlue), (∀ g ∈ l, GlueOk g) → 0 ≤ totW l ∧ totW l ≤ 1000 * l.length ∧ 0 ≤ totSh l ∧ totSh l ≤ totW l ∧ ∀ o, 0 ≤ totSt o l ∧ totSt o l ≤ 1000 * l.length
 | [], _ => ⟨Int.le_refl _, by simp [totW], Int.le_refl _, Int.le_refl _, fun o => ⟨Int.le_refl _, by simp [totSt]⟩⟩
 | g :: t, h => by
  obtain ⟨a, b, c, d, e⟩ := tot_bd t (fun x hx => h x (List.mem_cons_of_mem _ hx))
  have hb := h g (by simp)
  unfold GlueOk at hb
  rw [totW, totSh, List.length_cons]
  refine ⟨by omega, by omega, by omega, by omega, fun o => ?_⟩
  have := e o
  rw [totSt]
  split <;> omega
def badV (need room : Int) : Int := if need = 0 then 0 else if room = 0 ∨ need > 5 * room then 10000 else min 10000 (100 * need * need * need / (room * room * room))
theorem badV_prog {need room : Int} (hn : 0 ≤ need) (hr : 0 ≤ room) : badV need room = if need = 0 then 0 else if room = 0 then 10000 else if need > 10 * room then 10000 else min 10000 (100 * need * need * need / (room * room * room)) := by
 unfold badV
 by_cases h0 : need = 0
 ·rw [if_pos h0, if_pos h0]
 ·rw [if_neg h0, if_neg h0]
  by_cases h1 : room = 0
  ·rw [if_pos (.inl h1), if_pos h1]
  ·rw [if_neg h1]
   by_cases h2 : need > 10 * room
   ·rw [if_pos (.inr (by omega)), if_pos h2]
   ·rw [if_neg h2]
    by_cases h3 : need > 5 * room
    ·rw [if_pos (.inr h3)]
     have hrp : 0 < room := by omega
     have hc : 0 < room * room * room := Int.mul_pos (Int.mul_pos hrp hrp) hrp
     have a1 : 5 * room * (5 * room) ≤ need * need := Int.mul_le_mul (by omega) (by omega) (by omega) (by omega)
     have a2 : 5 * room * (5 * room) * (5 * room) ≤ need * need * need := Int.mul_le_mul a1 (by omega) (by omega) (Int.mul_nonneg hn hn)
     have a3 : 10000 * (room * room * room) ≤ 100 * need * need * need := by
      have e1 : 5 * room * (5 * room) * (5 * room) = 125 * (room * room * room) := by
       rw [show (125 : Int) * (room * room * room) = 5 * 5 * 5 * (room * room * room) by rfl]
       simp only [Int.mul_assoc, Int.mul_left_comm, Int.mul_comm]
      have e2 : 100 * need * need * need = 100 * (need * need * need) := by simp only [Int.mul_assoc]
      rw [e2]
      omega
     have a4 : 10000 ≤ 100 * need * need * need / (room * room * room) := (Int.le_ediv_iff_mul_le hc).2 a3
     omega
    ·rw [if_neg (fun h => by rcases h with h | h <;> omega)]
theorem badV_bd {need room : Int} (hn : 0 ≤ need) (hr : 0 ≤ room) : 0 ≤ badV need room ∧ badV need room ≤ 10000 := by
 unfold badV
 split
 ·decide
 ·split
  ·decide
  ·have : 0 ≤ 100 * need * need * need / (room * room * room) := Int.ediv_nonneg (Int.mul_nonneg (Int.mul_nonneg (Int.mul_nonneg (by decide) hn) hn) hn) (Int.mul_nonneg (Int.mul_nonneg hr hr) hr)
   omega
def setB (g : DGlue) (width : Int) : Int × Bool :=
 if g.w ≤ width then (if g.od = 1 then (0, true) else (badV (width - g.w) g.st, true)) else if g.w - g.sh > width then (-1, false) else (badV (g.w - width) g.sh, false)
def lineG (xs : List DItem) (a to : Nat) : DGlue := sumG (glues xs (start xs a) to)
def looksV (st : Bool) (b : Int) : Int := if b ≤ 12 then 1 else if st = false then 0 else if b < 100 then 2 else 3
theorem looksV_bd (st : Bool) (b : Int) : 0 ≤ looksV st b ∧ looksV st b ≤ 3 := by
 unfold looksV
 split
 ·decide
 ·split
  ·decide
  ·split <;> decide
def costV (b c : Int) : Int := (10 + b) * (10 + b) + (if c = -10000 then 0 else c * c)
end Go.Proofs.YtofnchdijanikaaGreatDoor

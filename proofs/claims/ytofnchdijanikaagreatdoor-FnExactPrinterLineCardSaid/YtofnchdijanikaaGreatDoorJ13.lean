/-
  PROVED HERE: what the printer's lines need, part J13. Conditions: each theorem's own.
-/
import Derived.Test.YtofnchdijanikaaGreatDoorJ12
import Derived.Maps.Own
import Derived.Maps.OwnOps
import Derived.Maps.Views
import Derived.DeepKeys4
import Derived.Carry
import Derived.BigQuiet
import Derived.Deep.RegionHeld3
set_option linter.unusedVariables false
set_option linter.unusedSimpArgs false
/- PrE1: PROVED HERE: a map of the call's own from ends of lines to choices. Conditions: each theorem's own. -/
namespace Go.Proofs.YtofnchdijanikaaGreatDoor
open Go.RowKit Go.Maps Go.ChangeMaps
open Go.WideElems (Fit rd rg pl rd_val elemAt)
theorem pigeon : ∀ (l m : List Value), l.Pairwise (fun x y => x ≠ y) → (∀ x ∈ l, x ∈ m) → l.length ≤ m.length
 | [], m, _, _ => Nat.zero_le _
 | x :: t, m, hp, hm => by
  obtain ⟨p, q, rfl⟩ := List.append_of_mem (hm x (by simp))
  rw [List.pairwise_cons] at hp
  have ih := pigeon t (p ++ q) hp.2 (fun y hy => by
   have h1 := hm y (List.mem_cons_of_mem _ hy)
   have h2 := hp.1 y hy
   rw [List.mem_append, List.mem_cons] at h1
   rw [List.mem_append]
   rcases h1 with h | rfl | h
   ·exact .inl h
   ·exact absurd rfl h2
   ·exact .inr h)
  simp only [List.length_append, List.length_cons] at ih ⊢
  omega
def RR (_ : Value) : Option (DataW Unit × List MemPlace) := some (.lit (.bool true), [])
def Memo (w : World) (B : Nat) (KS : List Value) (Ok : Value → Value → Prop) : Prop :=
 ∃ es clock, w.heap[B]? = some (.map es clock) ∧ Fit Tryz.prog 155 RR es clock ∧ ∀ x ∈ es.toList, x.key ∈ KS ∧ Ok x.key x.val
theorem laidOutP : laidOutB Tryz.prog = true := by kernel_rfl
theorem rowEnd : (155 : TypeId) < Tryz.prog.types.size := of_decide_eq_true (by kernel_rfl)
theorem wideEnd : (match Tryz.prog.underlying 155 with | some (.array _ _) | some (.struct _) => true | _ => false) = true := by rw [Tryz.underlying155]
set_option maxRecDepth 100000 in
theorem keyedEnd : Keyed Tryz.prog 155 := Keyed.of_law (deep_law_laid laidOutP (m := 3) (by omega) rowEnd (by kernel_rfl) wideEnd)
theorem keyEnd_ok : Tryz.prog.keyType 155 = true := by kernel_rfl
theorem cellsEnd : Tryz.prog.cellsOf 155 = 3 := by kernel_rfl
theorem formedEnd (x y z : Value) : (Value.agg #[x, y, z]).formed Tryz.prog 155 = true := by
 simp [Value.formed, Tryz.underlying155, cellsEnd]
theorem cellsInt : Tryz.prog.cellsOf 3 = 1 := by kernel_rfl
theorem cellsBool : Tryz.prog.cellsOf 4 = 1 := by kernel_rfl
theorem keyOfEnd (a lk : Int) (m : Bool) (ha : -1 ≤ a ∧ a ≤ 1000) (hl : 0 ≤ lk ∧ lk ≤ 3) : ∃ kl, keyOf Tryz.prog 155 (endV a m lk) = some kl := by
 have h1 : (Lit.int .i64 a).wf = true := WalkArith.wf_i64 ⟨by omega, by omega⟩
 have h2 : (Lit.int .i64 lk).wf = true := WalkArith.wf_i64 ⟨by omega, by omega⟩
 have hs : ∃ d, Tryz.prog.types.size = d + 1 := Nat.exists_eq_succ_of_ne_zero (fun h => by have := rowEnd; rw [h] at this; exact Nat.not_lt_zero _ this)
 obtain ⟨d, hd⟩ := hs
 refine ⟨.string (keyBytes [.int .i64 a, .bool m, .int .i64 lk]), ?_⟩
 unfold keyOf endV
 rw [Tryz.underlying155]
 simp only [keyEnd_ok, formedEnd, Bool.and_self, if_true]
 rw [hd]
 simp [Program.keyLits, Tryz.underlying155, Value.cells, cellsEnd, cellsInt, cellsBool, Tryz.underlying3, Tryz.underlying4, h1, h2]
theorem Memo.made (w : World) (KS : List Value) (Ok : Value → Value → Prop) : Memo (w.alloc (.map #[] 0)) w.heap.size KS Ok :=
 ⟨#[], 0, (MapKept.heap_alloc w _).1, ⟨by simp, MapKept.stamped_empty 0, by simp⟩, by simp⟩
theorem Memo.lt {w : World} {B : Nat} {KS : List Value} {Ok : Value → Value → Prop} (h : Memo w B KS Ok) : B < w.heap.size := by
 obtain ⟨es, clock, hb, _⟩ := h
 exact (Array.getElem?_eq_some_iff.1 hb).1
theorem Memo.kept {w w' : World} {B : Nat} {KS : List Value} {Ok : Value → Value → Prop} {row : Option Nat} (h : Memo w B KS Ok) (hg : w.grownBy w' row) (hne : some B ≠ row) : Memo w' B KS Ok := by
 have hlt := h.lt
 obtain ⟨es, clock, hb, F, hs⟩ := h
 exact ⟨es, clock, (hg.block B hlt hne).trans hb, F, hs⟩
theorem Memo.size {es : Array MapEntry} {clock : Nat} {KS : List Value} {Ok : Value → Value → Prop} (F : Fit Tryz.prog 155 RR es clock) (h : ∀ x ∈ es.toList, x.key ∈ KS ∧ Ok x.key x.val) : es.size ≤ KS.length := by
 have hn : es.toList.Pairwise (fun x y => x.key ≠ y.key) := ((MapKept.stamped_iff es clock).1 F.stamped).2.2
 have := pigeon (es.toList.map (·.key)) KS (by rw [List.pairwise_map]; exact hn) (fun x hx => by
  obtain ⟨y, hy, rfl⟩ := List.mem_map.1 hx
  exact (h y hy).1)
 simpa using this
theorem zeroChoice (w : World) : (zeroValue 157).run Tryz.prog w = .ok (.agg #[.int .i64 0, .int .i64 0, .bool false, .int .i64 0]) w := by kernel_rfl
theorem Memo.look {w : World} {B : Nat} {KS : List Value} {Ok : Value → Value → Prop} (h : Memo w B KS Ok) {key : Value} (hk : ∃ kl, keyOf Tryz.prog 155 key = some kl) :
  (∀ w' : World, w'.heap[B]? = w.heap[B]? → (Instr.lookup 151 (.map (some B)) key true).run Tryz.prog w' = .ok (.tuple #[.agg #[.int .i64 0, .int .i64 0, .bool false, .int .i64 0], .bool false]) w') ∨
  ∃ val, Ok key val ∧ ∀ w' : World, w'.heap[B]? = w.heap[B]? → (Instr.lookup 151 (.map (some B)) key true).run Tryz.prog w' = .ok (.tuple #[val, .bool true]) w' := by
 obtain ⟨es, clock, hb, F, hs⟩ := h
 obtain ⟨kl, hkey⟩ := hk
 have key1 := fun (w' : World) (e : w'.heap[B]? = w.heap[B]?) => fit_look true keyedEnd Tryz.underlying151 (zeroChoice w') (e.trans hb) F hkey
 by_cases hx : ∀ x ∈ es.toList, x.key ≠ key
 ·refine .inl fun w' e => ?_
  rcases key1 w' e with ⟨h1, _⟩ | ⟨e0, y, h1, h2, _⟩
  ·exact h1
  ·exact absurd h2 (hx e0 h1)
 ·obtain ⟨x, hxm, hxk⟩ : ∃ x, x ∈ es.toList ∧ x.key = key := by
   simpa using hx
  refine .inr ⟨x.val, ?_, fun w' e => ?_⟩
  ·rw [← hxk]; exact (hs x hxm).2
  ·rcases key1 w' e with ⟨_, h1, _⟩ | ⟨e0, y, h1, h2, h3, _⟩
   ·exact absurd hxk (h1 x hxm)
   ·have hn : es.toList.Pairwise (fun x y => x.key ≠ y.key) := ((MapKept.stamped_iff es clock).1 F.stamped).2.2
    have : e0 = x := by
     apply Classical.byContradiction
     intro hne
     have key2 : ∀ l : List MapEntry, l.Pairwise (fun x y => x.key ≠ y.key) → e0 ∈ l → x ∈ l → False := by
      intro l
      induction l with
      | nil => intro _ h _; cases h
      | cons a t ih =>
       intro hp ha hb
       rw [List.pairwise_cons] at hp
       rcases List.mem_cons.1 ha with e1 | ha1
       ·rcases List.mem_cons.1 hb with e2 | hb1
        ·exact hne (e1.trans e2.symm)
        ·exact hp.1 x hb1 (by rw [← e1]; exact h2.trans hxk.symm)
       ·rcases List.mem_cons.1 hb with e2 | hb1
        ·exact hp.1 e0 ha1 (by rw [← e2]; exact hxk.trans h2.symm)
        ·exact ih hp.2 ha1 hb1
     exact key2 _ hn h1 hxm
    rw [this] at h3
    exact h3
theorem Memo.put {w : World} {B : Nat} {KS : List Value} {Ok : Value → Value → Prop} (h : Memo w B KS Ok) (hK : KS.length < 1000000) {key val : Value} {kl : Lit} (hkey : keyOf Tryz.prog 155 key = some kl) (hin : key ∈ KS) (hok : Ok key val) :
  ∃ w', (Instr.mapUpdate 151 (.map (some B)) key val).run Tryz.prog w = .ok () w' ∧ Memo w' B KS Ok ∧ w.grownBy w' (some B) := by
 obtain ⟨es, clock, hb, F, hs⟩ := h
 have hsz := Memo.size F hs
 obtain ⟨es', clock', hrun, F', _, _, _, hwho⟩ := fit_store (R' := RR) (yv := (.lit (.bool true), [])) keyedEnd Tryz.underlying151 hb F (by unfold maxLen; omega) (fun _ _ _ _ hz => hz) hkey (val := val) rfl
 refine ⟨_, hrun, ⟨es', clock', heap_setBlock_same hb _, F', fun x hx => ?_⟩, ⟨rfl, rfl, rfl, by simp [setBlock], fun i _ hi => heap_setBlock_other hb _ (fun e => hi (by rw [e]))⟩⟩
 rcases hwho x hx with ⟨h1, _⟩ | ⟨h1, h2⟩
 ·exact hs x h1
 ·rw [h1, h2]
  exact ⟨hin, hok⟩
theorem wpList_memo (w : World) {ops : Array Oper} {rest : List Oper} {o : Oper} {a : Act} {Q : Exit → Act → World → Prop}
  (hg : o.guard = none) (m x v : Operand) (hop : o.op = Op.mapUpdate 151 m x v)
  (B : Nat) (KS : List Value) (Ok : Value → Value → Prop) (hm : a.eval m = .map (some B)) (h : Memo w B KS Ok) (hKS : KS.length < 1000000) (key val : Value) (hx : a.eval x = key) (hv : a.eval v = val)
  (hkey : ∃ kl, keyOf Tryz.prog 155 key = some kl) (hin : key ∈ KS) (hok : Ok key val)
  (hK : ∀ w', Memo w' B KS Ok → w.grownBy w' (some B) → wpList Tryz.prog ops Q rest (a.put o.dst undef) w') :
  wpList Tryz.prog ops Q (o :: rest) a w := by
 refine wpList_plain hg fun K' hK' => ?_
 obtain ⟨kl, hkl⟩ := hkey
 obtain ⟨w', hrun, r1, r2⟩ := h.put hKS hkl hin hok
 unfold Oper.wp
 simp [execOp, hop, hm, hx, hv, hrun, Result.andThen]
 exact hK' _ _ (hK w' r1 r2)
/-- What the program has found for the lines from item a on. -/
def valV (xs : List DItem) (wd most : Int) (a : Nat) (lk : Int) : Value :=
 if xs.length ≤ a then .agg #[.int .i64 0, .int .i64 0, .bool false, .int .i64 0] else
 match best xs wd most a lk with
 | none => .agg #[.int .i64 (-1), .int .i64 0, .bool false, .int .i64 0]
 | some (m, tz) => .agg #[.int .i64 m, .int .i64 tz, .bool (it xs tz).mark, .int .i64 (looksV (setB (lineG xs a tz) wd).2 (setB (lineG xs a tz) wd).1)]
def markOf (xs : List DItem) (a : Nat) : Bool := decide (0 < a) && (it xs (a - 1)).mark
def KS61 : List Value := (List.range 61).flatMap fun (a : Nat) => (List.range 4).flatMap fun (l : Nat) => [endV ((a : Int) - 1) true (l : Int), endV ((a : Int) - 1) false (l : Int)]
theorem KS61_len : KS61.length < 1000000 := by
 have : KS61.length = 488 := by
  unfold KS61
  rw [List.length_flatMap]
  rfl
 omega
theorem KS61_mem (a : Nat) (ha : a ≤ 60) (m : Bool) (lk : Int) (hl : 0 ≤ lk ∧ lk ≤ 3) : endV ((a : Int) - 1) m lk ∈ KS61 := by
 obtain ⟨l, rfl⟩ := Int.eq_ofNat_of_zero_le hl.1
 unfold KS61
 refine List.mem_flatMap.2 ⟨a, List.mem_range.2 (by omega), List.mem_flatMap.2 ⟨l, List.mem_range.2 (by omega), ?_⟩⟩
 cases m <;> simp
def MOk (xs : List DItem) (wd most : Int) (key val : Value) : Prop := ∃ (a : Nat) (lk : Int), key = endV ((a : Int) - 1) (markOf xs a) lk ∧ val = valV xs wd most a lk
theorem MOk.val {xs : List DItem} {wd most : Int} {a : Nat} {m : Bool} {lk : Int} {v : Value} (h : MOk xs wd most (endV ((a : Int) - 1) m lk) v) : v = valV xs wd most a lk := by
 obtain ⟨a', lk', h1, rfl⟩ := h
 unfold endV at h1
 injection h1 with h1
 have h2 := congrArg Array.toList h1
 simp only [List.cons.injEq, Value.int.injEq, true_and, and_true] at h2
 obtain ⟨h3, _, rfl⟩ := h2
 have : a = a' := by omega
 rw [this]
end Go.Proofs.YtofnchdijanikaaGreatDoor
/- PrE2: PROVED HERE: the best lines behind a line, as the program finds them. Conditions: each theorem's own. -/
namespace Go.Proofs.YtofnchdijanikaaGreatDoor
open Go.RowKit
theorem own4 {w : World} {base g : Nat} {E : TypeId} {x y z u : Value} (h : w.ownsRow base E 4 (.slice (some ⟨g, 0, none⟩) 1 1) 1 [x, y, z, u]) : w.cell? ⟨g, 0, none⟩ = some x ∧ w.cell? ⟨g, 1, none⟩ = some y ∧ w.cell? ⟨g, 2, none⟩ = some z ∧ w.cell? ⟨g, 3, none⟩ = some u :=
 ⟨h.cellAt 0 (by omega), h.cellAt 1 (by omega), h.cellAt 2 (by omega), h.cellAt 3 (by omega)⟩
theorem own4_made (w : World) {B : Nat} (hB : B ≤ w.heap.size) (E : TypeId) (x y z u : Value) : (w.alloc (.cells #[x, y, z, u] E)).ownsRow B E 4 (.slice (some ⟨w.heap.size, 0, none⟩) 1 1) 1 [x, y, z, u] :=
 ⟨rfl, .inr ⟨w.heap.size, 1, #[x, y, z, u], rfl, hB, heap_alloc_new w _, Nat.le_refl _, by unfold maxLen; omega, rfl, rfl⟩⟩
theorem own4_set {w : World} {base g : Nat} {E : TypeId} {x y z u : Value} (h : w.ownsRow base E 4 (.slice (some ⟨g, 0, none⟩) 1 1) 1 [x, y, z, u]) (a b c d : Value) :
  ((((w.setCell ⟨g, 0, none⟩ a).setCell ⟨g, 1, none⟩ b).setCell ⟨g, 2, none⟩ c).setCell ⟨g, 3, none⟩ d).ownsRow base E 4 (.slice (some ⟨g, 0, none⟩) 1 1) 1 [a, b, c, d] ∧
  w.grownBy ((((w.setCell ⟨g, 0, none⟩ a).setCell ⟨g, 1, none⟩ b).setCell ⟨g, 2, none⟩ c).setCell ⟨g, 3, none⟩ d) (some g) := by
 have s0 := h.stored 0 a
 have s1 := s0.1.stored 1 b
 have s2 := s1.1.stored 2 c
 have s3 := s2.1.stored 3 d
 exact ⟨s3.1, grownBy_trans (grownBy_trans (grownBy_trans s0.2 s1.2) s2.2) s3.2⟩
theorem own3_set {w : World} {base g : Nat} {E : TypeId} {x y z : Value} (h : w.ownsRow base E 3 (.slice (some ⟨g, 0, none⟩) 1 1) 1 [x, y, z]) (a b c : Value) :
  (((w.setCell ⟨g, 0, none⟩ a).setCell ⟨g, 1, none⟩ b).setCell ⟨g, 2, none⟩ c).ownsRow base E 3 (.slice (some ⟨g, 0, none⟩) 1 1) 1 [a, b, c] ∧
  w.grownBy (((w.setCell ⟨g, 0, none⟩ a).setCell ⟨g, 1, none⟩ b).setCell ⟨g, 2, none⟩ c) (some g) := by
 have s0 := h.stored 0 a
 have s1 := s0.1.stored 1 b
 have s2 := s1.1.stored 2 c
 exact ⟨s2.1, grownBy_trans (grownBy_trans s0.2 s1.2) s2.2⟩
theorem grown_new {a b c : World} {row : Option Nat} {g : Nat} (h : a.grownBy b row) (k : b.grownBy c (some g)) (hg : a.heap.size ≤ g) : a.grownBy c row :=
 ⟨k.os.trans h.os, k.tape.trans h.tape, k.output.trans h.output, Nat.le_trans h.size k.size, fun i hi hne => (k.block i (Nat.lt_of_lt_of_le hi h.size) (fun e => by have := Option.some.inj e; omega)).trans (h.block i hi hne)⟩
theorem Memo.drewN {w : World} {B : Nat} {KS : List Value} {Ok : Value → Value → Prop} (h : Memo w B KS Ok) (q : Nat) : Memo (w.drewN q) B KS Ok := h
theorem Memo.drew {w : World} {B : Nat} {KS : List Value} {Ok : Value → Value → Prop} (h : Memo w B KS Ok) : Memo w.drew B KS Ok := h
theorem grownBy_drew {a b : World} {row : Option Nat} (h : a.grownBy b row) : a.grownBy b.drew row := ⟨h.os, h.tape, h.output, h.size, h.block⟩
theorem ItC.kept {w w' : World} {b off n : Nat} {xs : List DItem} {row : Option Nat} (h : ItC w b off n xs) (hg : w.grownBy w' row) (hne : some b ≠ row) : ItC w' b off n xs := by
 have hb : w'.heap[b]? = w.heap[b]? := hg.block b h.2.1 hne
 have e : ∀ o, w'.cell? ⟨b, o, none⟩ = w.cell? ⟨b, o, none⟩ := fun o => World.cell?_of_block (a := ⟨b, o, none⟩) hb
 refine ⟨h.1, Nat.lt_of_lt_of_le h.2.1 hg.size, fun j hj => ?_⟩
 have := h.2.2 j hj
 exact ⟨(e _).trans this.c0, (e _).trans this.c1, (e _).trans this.c2, (e _).trans this.c3, (e _).trans this.c4, (e _).trans this.c5, (e _).trans this.c6⟩
/-- The chooser and what it reads. -/
structure Chs (w : World) (cb b off cap n : Nat) (xs : List DItem) (wd most : Int) (B : Nat) : Prop where
 it : ItC w b off n xs
 bB : b ≠ B
 cB : cb ≠ B
 cl : cb < w.heap.size
 c0 : w.cell? ⟨cb, 0, none⟩ = some (.slice (some ⟨b, off, none⟩) n cap)
 c1 : w.cell? ⟨cb, 1, none⟩ = some (.int .i64 wd)
 c2 : w.cell? ⟨cb, 2, none⟩ = some (.int .i64 most)
 c3 : w.cell? ⟨cb, 3, none⟩ = some (.map (some B))
 mm : Memo w B KS61 (MOk xs wd most)
theorem Chs.kept {w w' : World} {cb b off cap n : Nat} {xs : List DItem} {wd most : Int} {B : Nat} {row : Option Nat} (h : Chs w cb b off cap n xs wd most B) (hg : w.grownBy w' row) (h1 : some b ≠ row) (h2 : some cb ≠ row) (h3 : some B ≠ row) : Chs w' cb b off cap n xs wd most B := by
 have hb : w'.heap[cb]? = w.heap[cb]? := hg.block cb h.cl h2
 have e : ∀ o, w'.cell? ⟨cb, o, none⟩ = w.cell? ⟨cb, o, none⟩ := fun o => World.cell?_of_block (a := ⟨cb, o, none⟩) hb
 exact ⟨h.it.kept hg h1, h.bB, h.cB, Nat.lt_of_lt_of_le h.cl hg.size, (e _).trans h.c0, (e _).trans h.c1, (e _).trans h.c2, (e _).trans h.c3, h.mm.kept hg h3⟩
theorem Chs.below {w w' : World} {cb b off cap n : Nat} {xs : List DItem} {wd most : Int} {B : Nat} (h : Chs w cb b off cap n xs wd most B) (hb : Below w.heap.size w w') : Chs w' cb b off cap n xs wd most B :=
 h.kept (grown_of_below hb none) (by simp) (by simp) (by simp)
theorem Chs.memo {w w' : World} {cb b off cap n : Nat} {xs : List DItem} {wd most : Int} {B : Nat} (h : Chs w cb b off cap n xs wd most B) (hg : w.grownBy w' (some B)) (hm : Memo w' B KS61 (MOk xs wd most)) : Chs w' cb b off cap n xs wd most B := by
 have h2 : some cb ≠ some B := fun e => h.cB (Option.some.inj e)
 have h1 : some b ≠ some B := fun e => h.bB (Option.some.inj e)
 have hb : w'.heap[cb]? = w.heap[cb]? := hg.block cb h.cl h2
 have e : ∀ o, w'.cell? ⟨cb, o, none⟩ = w.cell? ⟨cb, o, none⟩ := fun o => World.cell?_of_block (a := ⟨cb, o, none⟩) hb
 exact ⟨h.it.kept hg h1, h.bB, h.cB, Nat.lt_of_lt_of_le h.cl hg.size, (e _).trans h.c0, (e _).trans h.c1, (e _).trans h.c2, (e _).trans h.c3, hm⟩
theorem Chs.lts {w : World} {cb b off cap n : Nat} {xs : List DItem} {wd most : Int} {B : Nat} (h : Chs w cb b off cap n xs wd most B) : b < w.heap.size ∧ cb < w.heap.size ∧ B < w.heap.size := ⟨h.it.2.1, h.cl, h.mm.lt⟩
theorem Chs.drew {w : World} {cb b off cap n : Nat} {xs : List DItem} {wd most : Int} {B : Nat} (h : Chs w cb b off cap n xs wd most B) : Chs w.drew cb b off cap n xs wd most B := ⟨⟨h.it.1, h.it.2.1, fun j hj => ⟨(h.it.2.2 j hj).c0, (h.it.2.2 j hj).c1, (h.it.2.2 j hj).c2, (h.it.2.2 j hj).c3, (h.it.2.2 j hj).c4, (h.it.2.2 j hj).c5, (h.it.2.2 j hj).c6⟩⟩, h.bB, h.cB, h.cl, h.c0, h.c1, h.c2, h.c3, h.mm.drew⟩
/-- The call's own cells. -/
structure Loc (w : World) (N : Nat) (A : Int) (mk : Bool) (lk : Int) (M T : Int) (K : Bool) (L : Int) : Prop where
 r1 : w.ownsRow N 155 3 (.slice (some ⟨N, 0, none⟩) 1 1) 1 [.int .i64 A, .bool mk, .int .i64 lk]
 r2 : w.ownsRow N 157 4 (.slice (some ⟨N + 1, 0, none⟩) 1 1) 1 [.int .i64 0, .int .i64 0, .bool false, .int .i64 0]
 r3 : w.ownsRow N 157 4 (.slice (some ⟨N + 3, 0, none⟩) 1 1) 1 [.int .i64 M, .int .i64 T, .bool K, .int .i64 L]
theorem Loc.kept {w w' : World} {N : Nat} {A : Int} {mk : Bool} {lk M T : Int} {K : Bool} {L : Int} {row : Option Nat} (h : Loc w N A mk lk M T K L) (hg : w.grownBy w' row) (hr : ∀ k, row = some k → k < N ∨ N + 3 < k) : Loc w' N A mk lk M T K L := by
 have ne : ∀ k, N ≤ k → k ≤ N + 3 → some k ≠ row := fun k h1 h2 e => by have := hr k e.symm; omega
 exact ⟨h.r1.kept hg (.inr (ne N (by omega) (by omega))), h.r2.kept hg (.inr (ne (N + 1) (by omega) (by omega))), h.r3.kept hg (.inr (ne (N + 3) (by omega) (by omega)))⟩
theorem Loc.below {w w' : World} {N : Nat} {A : Int} {mk : Bool} {lk M T : Int} {K : Bool} {L : Int} (h : Loc w N A mk lk M T K L) (hb : Below w.heap.size w w') : Loc w' N A mk lk M T K L := h.kept (grown_of_below hb none) (fun k e => by cases e)
theorem Loc.drew {w : World} {N : Nat} {A : Int} {mk : Bool} {lk M T : Int} {K : Bool} {L : Int} (h : Loc w N A mk lk M T K L) : Loc w.drew N A mk lk M T K L := ⟨h.r1, h.r2, h.r3⟩
theorem Loc.lt {w : World} {N : Nat} {A : Int} {mk : Bool} {lk M T : Int} {K : Bool} {L : Int} (h : Loc w N A mk lk M T K L) : N + 3 < w.heap.size := (h.r3.lt (N + 3) rfl).2
theorem Loc.set4 {w w' : World} {N : Nat} {A : Int} {mk : Bool} {lk M T : Int} {K : Bool} {L a b : Int} {c : Bool} {d : Int} (h : Loc w N A mk lk M T K L)
  (F : w'.ownsRow N 157 4 (.slice (some ⟨N + 3, 0, none⟩) 1 1) 1 [.int .i64 a, .int .i64 b, .bool c, .int .i64 d] ∧ w.grownBy w' (some (N + 3))) : Loc w' N A mk lk a b c d :=
 ⟨h.r1.kept F.2 (.inr (show some N ≠ some (N + 3) from fun e => by have := Option.some.inj e; omega)), h.r2.kept F.2 (.inr (show some (N + 1) ≠ some (N + 3) from fun e => by have := Option.some.inj e; omega)), F.1⟩
def accM : Option (Int × Nat) → Int | none => -1 | some (m, _) => m
def accT : Option (Int × Nat) → Int | none => 0 | some (_, t) => t
def accK (xs : List DItem) : Option (Int × Nat) → Bool | none => false | some (_, t) => (it xs t).mark
def accL (xs : List DItem) (wd : Int) (a : Nat) : Option (Int × Nat) → Int | none => 0 | some (_, t) => looksV (setB (lineG xs a t) wd).2 (setB (lineG xs a t) wd).1
theorem valV_at {xs : List DItem} {wd most : Int} {a : Nat} {lk : Int} (h : a < xs.length) : valV xs wd most a lk = .agg #[.int .i64 (accM (best xs wd most a lk)), .int .i64 (accT (best xs wd most a lk)), .bool (accK xs (best xs wd most a lk)), .int .i64 (accL xs wd a (best xs wd most a lk))] := by
 unfold valV
 rw [if_neg (by omega)]
 cases best xs wd most a lk with
 | none => rfl
 | some p => rfl
theorem valV_end {xs : List DItem} {wd most : Int} {a : Nat} {lk : Int} (h : xs.length ≤ a) : valV xs wd most a lk = .agg #[.int .i64 0, .int .i64 0, .bool false, .int .i64 0] := by
 unfold valV
 rw [if_pos h]
theorem valV_form (xs : List DItem) (wd most : Int) (a : Nat) (lk : Int) : ∃ (t : Int) (k : Bool) (l : Int), valV xs wd most a lk = .agg #[.int .i64 (accM (best xs wd most a lk)), .int .i64 t, .bool k, .int .i64 l] := by
 by_cases h : a < xs.length
 ·exact ⟨_, _, _, valV_at h⟩
 ·refine ⟨0, false, 0, ?_⟩
  rw [valV_end (by omega), best_end _ _ _ _ _ (by omega)]
  rfl
end Go.Proofs.YtofnchdijanikaaGreatDoor
/- PrE3: PROVED HERE: the best lines behind a line, as the program finds them. Conditions: each theorem's own. -/
namespace Go.Proofs.YtofnchdijanikaaGreatDoor
open Go.RowKit
def BestPost (xs : List DItem) (wd most : Int) (a : Nat) (lk : Int) (B : Nat) (w : World) (e : Ending) (w' : World) : Prop := e = .returned (valV xs wd most a lk) ∧ Memo w' B KS61 (MOk xs wd most) ∧ w.grownBy w' (some B)
set_option maxRecDepth 100000 in
set_option maxHeartbeats 16000000 in
theorem best_last (cb b off cap n : Nat) (xs : List DItem) (wd most : Int) (B : Nat) (A lk : Int) (mk : Bool) (w : World) (hA : A = (n : Int) - 1) (hn : n = xs.length) (n60 : n ≤ 60) (hc : Chs w cb b off cap n xs wd most B) :
  Calls Tryz.prog 138 #[.pointer (some ⟨cb, 0, none⟩), .agg #[.int .i64 A, .bool mk, .int .i64 lk]] w (BestPost xs wd most n lk B w) := by
 have AL1 := (Below.refl w.heap.size w).alloc (Nat.le_refl _) (.cells #[.int .i64 A, .bool mk, .int .i64 lk] 155)
 have AL2 := AL1.alloc (by simp) (.cells #[.int .i64 0, .int .i64 0, .bool false, .int .i64 0] 157)
 have R1 := (own3_made w (B := w.heap.size) (Nat.le_refl _) 155 (.int .i64 A) (.bool mk) (.int .i64 lk)).alloc (.cells #[.int .i64 0, .int .i64 0, .bool false, .int .i64 0] 157)
 have R2 := own4_made (w.alloc (.cells #[.int .i64 A, .bool mk, .int .i64 lk] 155)) (B := w.heap.size) (by simp) 157 (.int .i64 0) (.int .i64 0) (.bool false) (.int .i64 0)
 rw [show (w.alloc (.cells #[.int .i64 A, .bool mk, .int .i64 lk] 155)).heap.size = w.heap.size + 1 by simp] at R2
 have C2 := hc.below AL2
 have c0 := C2.c0
 obtain ⟨r0, r1, r2⟩ := own3 R1
 obtain ⟨s0, s1, s2, s3⟩ := own4 R2
 have z0 := World.ownsRow.frozenAt R2 0
 have z1 := World.ownsRow.frozenAt R2 1
 have z2 := World.ownsRow.frozenAt R2 2
 have z3 := World.ownsRow.frozenAt R2 3
 have HV := Lib.hid (valV_end (xs := xs) (wd := wd) (most := most) (a := n) (lk := lk) (by omega))
 have hlt := hc.lts
 have GR := Lib.hid (grown_of_below AL2 (some B))
 have MM := Lib.hid C2.mm
 clear R1 R2 AL1 AL2 hc C2 hlt
 go_enter Tryz.func138, Tryz.ntmps138
 have hAn : (A == (n : Int) - 1) = true := by rw [beq_iff_eq]; exact hA
 clear hA hn
 go_wp2
 go_region
 go_wp2
 refine bodyPost_ret (v := .agg #[.int .i64 0, .int .i64 0, .bool false, .int .i64 0]) (by simp [results, Tryz.results138, go_sem, s0, s1, s2, s3]) rfl ⟨by rw [HV.out], Memo.drew MM.out, grownBy_drew GR.out⟩
end Go.Proofs.YtofnchdijanikaaGreatDoor

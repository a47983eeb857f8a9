/-
  PROVED HERE: what the printer's lines need, part C17. Conditions: each theorem's own.
-/
import Derived.Test.YtofnchdijanikaaGreatDoorC15
import Derived.Test.YtofnchdijanikaaGreatDoorC16
set_option linter.unusedVariables false
set_option linter.unusedSimpArgs false
set_option maxRecDepth 100000
namespace Go.Proofs.YtofnchdijanikaaGreatDoor
open Go.RowKit
def tabV (m : Nat) (f : Nat → Value) : List Value := (List.range m).map f
theorem tabV_set (m : Nat) (f : Nat → Value) (i : Nat) (x : Value) : (tabV m f).set i x = tabV m (fun j => if j = i then x else f j) := by
 refine List.ext_getElem (by simp [tabV]) fun k h1 h2 => ?_
 simp only [tabV, List.getElem_set, List.getElem_map, List.getElem_range]
 by_cases hi : i = k
 ·subst hi; simp
 ·rw [if_neg hi, if_neg (fun e => hi e.symm)]
theorem tabV_congr {m : Nat} {f g : Nat → Value} (h : ∀ j, j < m → f j = g j) : tabV m f = tabV m g := by
 unfold tabV
 exact List.map_congr_left (fun j hj => h j (List.mem_range.1 hj))
def Tv (w : World) (B g m : Nat) (E : TypeId) (f : Nat → Value) : Prop := w.ownsRow B E 4 (.slice (some ⟨g, 0, none⟩) m m) m (tabV (m * 4) f)
section
variable {w w' : World} {B g m : Nat} {E : TypeId} {f : Nat → Value}
theorem Tv.at (h : Tv w B g m E f) {j : Nat} (hj : j < m * 4) : w.cell? ⟨g, j, none⟩ = some (f j) := by
 rw [World.ownsRow.cellAt h j (by omega)]
 simp [tabV, hj]
theorem Tv.lt (h : Tv w B g m E f) : B ≤ g ∧ g < w.heap.size := World.ownsRow.lt h g rfl
theorem Tv.put (h : Tv w B g m E f) (j : Nat) (x : Value) : Tv (w.setCell ⟨g, j, none⟩ x) B g m E (fun i => if i = j then x else f i) ∧ w.grownBy (w.setCell ⟨g, j, none⟩ x) (some g) := by
 have := World.ownsRow.stored h j x
 rw [tabV_set] at this
 exact this
theorem Tv.kept {row : Option Nat} (h : Tv w B g m E f) (hg : w.grownBy w' row) (hne : some g ≠ row) : Tv w' B g m E f := World.ownsRow.kept h hg (.inr hne)
theorem Tv.below (h : Tv w B g m E f) (hb : Below w.heap.size w w') : Tv w' B g m E f := owns_below h hb
theorem Tv.frozen (h : Tv w B g m E f) (j : Nat) : w.frozen? ⟨g, j, none⟩ = false := World.ownsRow.frozenAt h j
theorem Tv.drewN (h : Tv w B g m E f) (q : Nat) : Tv (w.drewN q) B g m E f := h
theorem Tv.congr {f' : Nat → Value} (h : Tv w B g m E f) (e : ∀ j, j < m * 4 → f j = f' j) : Tv w B g m E f' := by
 unfold Tv at h ⊢
 rw [← tabV_congr e]
 exact h
end
theorem made4 (m : Nat) (z : Value) : (List.range (m * 4)).map (fun x => (Value.agg #[z, z, z, z]).cells[x % (Value.agg #[z, z, z, z]).cells.size]!) = tabV (m * 4) (fun _ => z) := by
 unfold tabV
 refine List.map_congr_left (fun x _ => ?_)
 show (#[z, z, z, z])[x % 4]! = z
 have h4 : x % 4 < 4 := Nat.mod_lt _ (by decide)
 rcases (by omega : x % 4 = 0 ∨ x % 4 = 1 ∨ x % 4 = 2 ∨ x % 4 = 3) with h | h | h | h <;> rw [h] <;> rfl
abbrev Stt := Nat → Nat → Option (Int × Nat)
def cst0 : Option (Int × Nat) → Int | none => 0 | some (m, _) => m
def fB (S : Stt) (i : Nat) : Value := .bool (S (i / 4) (i % 4)).isSome
def fC (S : Stt) (i : Nat) : Value := .int .i64 (cst0 (S (i / 4) (i % 4)))
def fN (n : Nat) (S : Stt) (i : Nat) : Value := .int .i64 (if i / 4 = n then 0 else nxt (S (i / 4) (i % 4)))
def upd (S : Stt) (r l : Nat) (x : Option (Int × Nat)) : Stt := fun r' l' => if r' = r ∧ l' = l then x else S r' l'
theorem ix4 (r l : Nat) (h : l < 4) : (r * 4 + l) / 4 = r ∧ (r * 4 + l) % 4 = l := by omega
theorem fB_at (S : Stt) (r l : Nat) (h : l < 4) : fB S (r * 4 + l) = .bool (S r l).isSome := by unfold fB; rw [(ix4 r l h).1, (ix4 r l h).2]
theorem fC_at (S : Stt) (r l : Nat) (h : l < 4) : fC S (r * 4 + l) = .int .i64 (cst0 (S r l)) := by unfold fC; rw [(ix4 r l h).1, (ix4 r l h).2]
theorem fN_at (n : Nat) (S : Stt) (r l : Nat) (h : l < 4) (hr : r ≠ n) : fN n S (r * 4 + l) = .int .i64 (nxt (S r l)) := by unfold fN; rw [(ix4 r l h).1, (ix4 r l h).2, if_neg hr]
theorem fB_upd (S : Stt) (r l : Nat) (h : l < 4) (x : Option (Int × Nat)) (hx : x.isSome = true) : (fun j => if j = r * 4 + l then Value.bool true else fB S j) = fB (upd S r l x) := by
 funext j
 by_cases e : j = r * 4 + l
 ·rw [if_pos e, e, fB_at _ _ _ h]; simp [upd, hx]
 ·rw [if_neg e]
  unfold fB upd
  rw [if_neg (by omega)]
theorem fC_upd (S : Stt) (r l : Nat) (h : l < 4) (c : Int) (t : Nat) : (fun j => if j = r * 4 + l then Value.int .i64 c else fC S j) = fC (upd S r l (some (c, t))) := by
 funext j
 by_cases e : j = r * 4 + l
 ·rw [if_pos e, e, fC_at _ _ _ h]; simp [upd, cst0]
 ·rw [if_neg e]
  unfold fC upd
  rw [if_neg (by omega)]
theorem fN_upd (n : Nat) (S : Stt) (r l : Nat) (h : l < 4) (hr : r ≠ n) (c : Int) (t : Nat) : (fun j => if j = r * 4 + l then Value.int .i64 t else fN n S j) = fN n (upd S r l (some (c, t))) := by
 funext j
 by_cases e : j = r * 4 + l
 ·rw [if_pos e, e, fN_at _ _ _ _ h hr]; simp [upd, nxt]
 ·rw [if_neg e]
  unfold fN upd
  by_cases e2 : j / 4 = n
  ·rw [if_pos e2, if_pos e2]
  ·rw [if_neg e2, if_neg e2, if_neg (by omega)]
structure TT (w : World) (B g1 g2 g3 n : Nat) (S : Stt) : Prop where
 t1 : Tv w B g1 (n + 1) 140 (fB S)
 t2 : Tv w B g2 (n + 1) 146 (fC S)
 t3 : Tv w B g3 (n + 1) 146 (fN n S)
section
variable {w w' : World} {B g1 g2 g3 n : Nat} {S S' : Stt}
theorem TT.kept {row : Option Nat} (h : TT w B g1 g2 g3 n S) (hg : w.grownBy w' row) (h1 : some g1 ≠ row) (h2 : some g2 ≠ row) (h3 : some g3 ≠ row) : TT w' B g1 g2 g3 n S := ⟨h.t1.kept hg h1, h.t2.kept hg h2, h.t3.kept hg h3⟩
theorem TT.below (h : TT w B g1 g2 g3 n S) (hb : Below w.heap.size w w') : TT w' B g1 g2 g3 n S := ⟨h.t1.below hb, h.t2.below hb, h.t3.below hb⟩
theorem TT.drewN (h : TT w B g1 g2 g3 n S) (q : Nat) : TT (w.drewN q) B g1 g2 g3 n S := ⟨h.t1, h.t2, h.t3⟩
theorem TT.congr (h : TT w B g1 g2 g3 n S) (e : ∀ r l, r ≤ n → l < 4 → S r l = S' r l) : TT w B g1 g2 g3 n S' :=
 ⟨h.t1.congr fun j hj => by unfold fB; rw [e _ _ (by omega) (by omega)], h.t2.congr fun j hj => by unfold fC; rw [e _ _ (by omega) (by omega)], h.t3.congr fun j hj => by unfold fN; rw [e _ _ (by omega) (by omega)]⟩
theorem TT.put (h : TT w B g1 g2 g3 n S) (n12 : g1 ≠ g2) (n13 : g1 ≠ g3) (n23 : g2 ≠ g3) (r l : Nat) (hl : l < 4) (hr : r ≠ n) (c : Int) (t : Nat) :
  TT (((w.setCell ⟨g1, r * 4 + l, none⟩ (.bool true)).setCell ⟨g2, r * 4 + l, none⟩ (.int .i64 c)).setCell ⟨g3, r * 4 + l, none⟩ (.int .i64 t)) B g1 g2 g3 n (upd S r l (some (c, t))) := by
 have a1 := h.t1.put (r * 4 + l) (.bool true)
 rw [fB_upd S r l hl (some (c, t)) rfl] at a1
 have a2 := (h.t2.kept a1.2 (fun e => n12 (Option.some.inj e).symm)).put (r * 4 + l) (.int .i64 c)
 rw [fC_upd S r l hl c t] at a2
 have a3 := ((h.t3.kept a1.2 (fun e => n13 (Option.some.inj e).symm)).kept a2.2 (fun e => n23 (Option.some.inj e).symm)).put (r * 4 + l) (.int .i64 t)
 rw [fN_upd n S r l hl hr c t] at a3
 exact ⟨(a1.1.kept a2.2 (fun e => n12 (Option.some.inj e))).kept a3.2 (fun e => n13 (Option.some.inj e)), a2.1.kept a3.2 (fun e => n23 (Option.some.inj e)), a3.1⟩
end
def S1 (n q : Nat) : Stt := fun r l => if r = n ∧ l < q then some (0, n) else none
def SD (_ : Nat) (T : Nat → Int → Option (Int × Nat)) (m : Nat) : Stt := fun r l => if m ≤ r then T r l else none
def SK (xs : List DItem) (wd most : Int) (T : Nat → Int → Option (Int × Nat)) (a k : Nat) : Stt := fun r l => if r = a then chooseTo xs wd most T a l k else SD xs.length T (a + 1) r l
def SQ (xs : List DItem) (wd most : Int) (T : Nat → Int → Option (Int × Nat)) (a k q : Nat) : Stt := fun r l => if r = a then (if l < q then chooseTo xs wd most T a l (k + 1) else chooseTo xs wd most T a l k) else SD xs.length T (a + 1) r l
theorem SQ_zero (xs : List DItem) (wd most : Int) (T : Nat → Int → Option (Int × Nat)) (a k : Nat) : SK xs wd most T a k = SQ xs wd most T a k 0 := by
 funext r l
 unfold SK SQ
 by_cases h : r = a
 ·rw [if_pos h, if_pos h, if_neg (by omega)]
 ·rw [if_neg h, if_neg h]
theorem SQ_four (xs : List DItem) (wd most : Int) (T : Nat → Int → Option (Int × Nat)) (a k : Nat) (r l : Nat) (hl : l < 4) : SQ xs wd most T a k 4 r l = SK xs wd most T a (k + 1) r l := by
 unfold SK SQ
 by_cases h : r = a
 ·rw [if_pos h, if_pos h, if_pos hl]
 ·rw [if_neg h, if_neg h]
theorem SQ_upd (xs : List DItem) (wd most : Int) (T : Nat → Int → Option (Int × Nat)) (a k q : Nat) : upd (SQ xs wd most T a k q) a q (chooseTo xs wd most T a q (k + 1)) = SQ xs wd most T a k (q + 1) := by
 funext r l
 unfold upd SQ
 by_cases h : r = a
 ·by_cases e : l = q
  ·rw [if_pos ⟨h, e⟩, if_pos h, if_pos (by omega), e]
  ·rw [if_neg (fun hh => e hh.2), if_pos h, if_pos h]
   by_cases e2 : l < q
   ·rw [if_pos e2, if_pos (by omega)]
   ·rw [if_neg e2, if_neg (by omega)]
 ·rw [if_neg (fun hh => h hh.1), if_neg h, if_neg h]
theorem SQ_same (xs : List DItem) (wd most : Int) (T : Nat → Int → Option (Int × Nat)) (a k q : Nat) (e : chooseTo xs wd most T a q (k + 1) = chooseTo xs wd most T a q k) : SQ xs wd most T a k q = SQ xs wd most T a k (q + 1) := by
 funext r l
 unfold SQ
 by_cases h : r = a
 ·rw [if_pos h, if_pos h]
  by_cases e2 : l = q
  ·rw [e2, if_neg (by omega), if_pos (by omega), e]
  ·by_cases e3 : l < q
   ·rw [if_pos e3, if_pos (by omega)]
   ·rw [if_neg e3, if_neg (by omega)]
 ·rw [if_neg h, if_neg h]
theorem SK_same (xs : List DItem) (wd most : Int) (T : Nat → Int → Option (Int × Nat)) (a k : Nat) (e : ∀ l : Nat, l < 4 → chooseTo xs wd most T a l (k + 1) = chooseTo xs wd most T a l k) (r l : Nat) (hl : l < 4) : SK xs wd most T a k r l = SK xs wd most T a (k + 1) r l := by
 unfold SK
 by_cases h : r = a
 ·rw [if_pos h, if_pos h, e l hl]
 ·rw [if_neg h, if_neg h]
theorem SK_zero (xs : List DItem) (wd most : Int) (T : Nat → Int → Option (Int × Nat)) (a : Nat) : SD xs.length T (a + 1) = SK xs wd most T a 0 := by
 funext r l
 unfold SK SD
 by_cases h : r = a
 ·rw [if_pos h, if_neg (by omega)]
  rfl
 ·rw [if_neg h]
theorem SK_all (xs : List DItem) (wd most : Int) (T : Nat → Int → Option (Int × Nat)) (a k : Nat) (e : ∀ l : Nat, T a l = chooseTo xs wd most T a l k) : SK xs wd most T a k = SD xs.length T a := by
 funext r l
 unfold SK SD
 by_cases h : r = a
 ·rw [if_pos h, if_pos (by omega), h, e l]
 ·rw [if_neg h]
  by_cases h2 : a ≤ r
  ·rw [if_pos h2, if_pos (by omega)]
  ·rw [if_neg h2, if_neg (by omega)]
theorem lineB_dead {xs : List DItem} {a : Nat} (h : 0 < a) (hb : brk xs (a - 1) = false) (t : Nat) : lineB xs a t = false := by
 unfold lineB
 rw [hb, decide_eq_false (by omega)]
 simp
theorem lineC_dead {xs : List DItem} {wd most : Int} {a t : Nat} (h : lineB xs a t = false) : lineC xs wd most a t = none := by
 unfold lineC
 rw [if_neg (by rw [h]; decide)]
theorem chooseTo_dead {xs : List DItem} {wd most : Int} {T : Nat → Int → Option (Int × Nat)} {a : Nat} {bf : Int} (h : ∀ t, lineB xs a t = false) : ∀ k, chooseTo xs wd most T a bf k = none
 | 0 => rfl
 | k + 1 => by
  rw [chooseTo, stepB_none (lineC_dead (h _)), chooseTo_dead h k]
theorem SD_dead (xs : List DItem) (wd most : Int) (a : Nat) (ha : a < xs.length) (h : ∀ t, lineB xs a t = false) : SD xs.length (best xs wd most) (a + 1) = SD xs.length (best xs wd most) a := by
 funext r l
 unfold SD
 by_cases h1 : a + 1 ≤ r
 ·rw [if_pos h1, if_pos (by omega)]
 ·rw [if_neg h1]
  by_cases h2 : a ≤ r
  ·rw [if_pos h2, show r = a by omega, best_at xs wd most a l ha, chooseTo_dead h]
  ·rw [if_neg h2]
theorem SD_top (xs : List DItem) (wd most : Int) (r l : Nat) (hr : r ≤ xs.length) (hl : l < 4) : S1 xs.length 4 r l = SD xs.length (best xs wd most) xs.length r l := by
 unfold S1 SD
 by_cases h : r = xs.length
 ·rw [if_pos ⟨h, hl⟩, if_pos (by omega), h, best_end xs wd most _ _ (Nat.le_refl _)]
 ·rw [if_neg (fun hh => h hh.1), if_neg (by omega)]
theorem S1_upd (n q : Nat) : upd (S1 n q) n q (some (0, n)) = S1 n (q + 1) := by
 funext r l
 unfold upd S1
 by_cases h : r = n
 ·by_cases e : l = q
  ·rw [if_pos ⟨h, e⟩, if_pos ⟨h, by omega⟩]
  ·rw [if_neg (fun hh => e hh.2)]
   by_cases e2 : l < q
   ·rw [if_pos ⟨h, e2⟩, if_pos ⟨h, by omega⟩]
   ·rw [if_neg (fun hh => e2 hh.2), if_neg (fun hh => by omega)]
 ·rw [if_neg (fun hh => h hh.1), if_neg (fun hh => h hh.1), if_neg (fun hh => h hh.1)]
theorem S1_cst (n q i : Nat) : fC (S1 n q) i = .int .i64 0 := by
 unfold fC S1
 split <;> rfl
theorem S1_nxt (n q i : Nat) : fN n (S1 n q) i = .int .i64 0 := by
 unfold fN S1
 by_cases h : i / 4 = n
 ·rw [if_pos h]
 ·rw [if_neg h, if_neg (fun hh => h hh.1)]
  rfl
theorem TT.first {w : World} {B g1 g2 g3 n q : Nat} (h : TT w B g1 g2 g3 n (S1 n q)) (n12 : g1 ≠ g2) (n13 : g1 ≠ g3) (hq : q < 4) : TT (w.setCell ⟨g1, n * 4 + q, none⟩ (.bool true)) B g1 g2 g3 n (S1 n (q + 1)) ∧ w.grownBy (w.setCell ⟨g1, n * 4 + q, none⟩ (.bool true)) (some g1) := by
 have a1 := h.t1.put (n * 4 + q) (.bool true)
 rw [fB_upd (S1 n q) n q hq (some (0, n)) rfl, S1_upd] at a1
 exact ⟨⟨a1.1, (h.t2.kept a1.2 (fun e => n12 (Option.some.inj e).symm)).congr fun j _ => by rw [S1_cst, S1_cst], (h.t3.kept a1.2 (fun e => n13 (Option.some.inj e).symm)).congr fun j _ => by rw [S1_nxt, S1_nxt]⟩, a1.2⟩
end Go.Proofs.YtofnchdijanikaaGreatDoor

/-
  PROVED HERE: what drawing a line of contents hands back: the pieces of its region. Conditions: each theorem's own.
-/
import Derived.Test.YtfallcoehmmbeaaDoorTitF
import Derived.Test.YtfallcoehmmbeaaDoorOpen
import Derived.Test.YtfallcoehmmbeaaDoorLineS
set_option linter.unusedVariables false
set_option linter.unusedSimpArgs false
namespace Go.Proofs.YtfallcoehmmbeaaDoor
open Go.RowKit
set_option maxRecDepth 100000

/-- All but two blocks is as it was. -/
def gB2 (w0 w : World) (B R : Nat) : Prop := w.os = w0.os ∧ w.tape = w0.tape ∧ w.output = w0.output ∧ w0.heap.size ≤ w.heap.size ∧ ∀ k, k < w0.heap.size → k ≠ B → k ≠ R → w.heap[k]? = w0.heap[k]?
theorem gB2.step {w0 w w' : World} {B R : Nat} {row : Option Nat} (h : gB2 w0 w B R) (hg : w.grownBy w' row) (hr : row = some B ∨ row = some R ∨ row = none) : gB2 w0 w' B R := by
  obtain ⟨h1, h2, h3, h4, h5⟩ := h
  refine ⟨hg.os.trans h1, hg.tape.trans h2, hg.output.trans h3, Nat.le_trans h4 hg.size, fun k hk a b => (hg.block k (by omega) ?_).trans (h5 k hk a b)⟩
  intro e
  rcases hr with e' | e' | e' <;> rw [e'] at e
  · injection e with e; exact a e
  · injection e with e; exact b e
  · cases e
/-- A block of numbers that the region has made. -/
def IBk (n0 N : Nat) (hi : Int) (w : World) (g : Nat) : Prop := n0 ≤ g ∧ ∃ c : Array Value, w.heap[g]? = some (.cells c 3 (0, 0)) ∧ ∀ i, i < N → ∃ n : Int, 0 ≤ n ∧ n ≤ hi ∧ c[i]? = some (.int .i64 n)
def lR (B R i : Nat) (w w' : World) : Prop := w.heap.size ≤ w'.heap.size ∧ ∀ k, k < w.heap.size → k ≠ B → (w'.heap[k]? = w.heap[k]? ∨ (i = 12 ∧ k = R))
theorem lR_refl (B R i : Nat) (w : World) : lR B R i w w := ⟨Nat.le_refl _, fun _ _ _ => .inl rfl⟩
theorem lR_of {B R i : Nat} {w w' : World} (hg : w.grownBy w' (some B)) : lR B R i w w' := ⟨hg.size, fun k hk hne => .inl (hg.block k hk (by simpa using hne))⟩
theorem IBk.kept {n0 N B R i g : Nat} {hi : Int} {w w' : World} (h : IBk n0 N hi w g) (hr : lR B R i w w') (hB : B < n0) (hR : R < n0) : IBk n0 N hi w' g := by
  obtain ⟨h0, c, h1, h2⟩ := h
  rcases hr.2 g (heap_lt h1) (by omega) with e | ⟨_, e⟩
  · exact ⟨h0, c, e.trans h1, h2⟩
  · omega
/-- What is told of each operation's value. -/
def lA (n0 B R : Nat) (l : List UInt8) (lev pg : Int) (j : Nat) (v : Value) (w : World) : Prop :=
  match j with
  | 0 => v = .agg #[.string (bs l), .int .i64 lev, .int .i64 pg]
  | 1 => v = .pointer (some ⟨B, 0, none⟩)
  | 2 => ∃ k : Int, v = .int .i64 k ∧ 0 ≤ k ∧ k ≤ 50
  | 3 => ∃ k : Int, v = .int .i64 k ∧ 0 ≤ k ∧ k ≤ 61
  | 4 => ∃ g, v = .slice (some ⟨g, 0, none⟩) 4 4 ∧ IBk n0 4 61 w g
  | 5 => ∃ g, v = .slice (some ⟨g, 0, none⟩) 7 7 ∧ IBk n0 7 3 w g
  | 6 => v = .pointer (some ⟨B, 0, none⟩)
  | 7 => ∃ k : Int, v = .int .i64 k ∧ 0 ≤ k ∧ k ≤ 6
  | 8 => ∃ g i, v = .pointer (some ⟨g, i, none⟩) ∧ i < 7 ∧ IBk n0 7 3 w g
  | 9 => ∃ k : Int, v = .int .i64 k ∧ 0 ≤ k ∧ k ≤ 3
  | 10 => ∃ g i, v = .pointer (some ⟨g, i, none⟩) ∧ i < 4 ∧ IBk n0 4 61 w g
  | 11 => ∃ k : Int, v = .int .i64 k ∧ 0 ≤ k ∧ k ≤ 61
  | 12 => w.heap[R]? = some (.cells #[.string (bs l), .int .i64 lev, .int .i64 pg] 26 (0, 0))
  | 13 => ∃ k : Int, v = .int .i64 k ∧ 0 ≤ k ∧ k ≤ 61
  | _ => True
theorem lA_kept {n0 B R : Nat} {l : List UInt8} {lev pg : Int} (hB : B < n0) (hR : R < n0) (hne : R ≠ B) : ∀ (i j : Nat) (v : Value) (w w' : World), i < 14 → j < 14 → i ≠ j → lR B R i w w' → lA n0 B R l lev pg j v w → lA n0 B R l lev pg j v w' := by
  intro i j v w w' hi hj hij hr h
  match j, hj with
  | 0, _ => exact h
  | 1, _ => exact h
  | 2, _ => exact h
  | 3, _ => exact h
  | 4, _ => obtain ⟨g, e, h1⟩ := h; exact ⟨g, e, h1.kept hr hB hR⟩
  | 5, _ => obtain ⟨g, e, h1⟩ := h; exact ⟨g, e, h1.kept hr hB hR⟩
  | 6, _ => exact h
  | 7, _ => exact h
  | 8, _ => obtain ⟨g, k, e, hk, h1⟩ := h; exact ⟨g, k, e, hk, h1.kept hr hB hR⟩
  | 9, _ => exact h
  | 10, _ => obtain ⟨g, k, e, hk, h1⟩ := h; exact ⟨g, k, e, hk, h1.kept hr hB hR⟩
  | 11, _ => exact h
  | 12, _ =>
    have h1 : w.heap[R]? = _ := h
    rcases hr.2 R (heap_lt h1) hne with e | ⟨e, _⟩
    · exact e.trans h1
    · exact absurd e hij
  | 13, _ => exact h
def RBk (w : World) (R : Nat) : Prop := ∃ (s : ByteArray) (i j : Int), w.heap[R]? = some (.cells #[.string s, .int .i64 i, .int .i64 j] 26 (0, 0))
theorem RdTo.pastT {w w' : World} {B R m : Nat} (h : RdTo B m w) (hR : RBk w R) (hne : R ≠ B) (hg : w.grownBy w' (some R)) : RdTo B m w' := by
  obtain ⟨p, hp, a, n, cap, zs, hb, hn, hc⟩ := h
  obtain ⟨s, i, k, hR⟩ := hR
  have hB : B < w.heap.size := heap_lt hb
  refine ⟨p, hp, a, n, cap, zs, (hg.block B hB (by simp; omega)).trans hb, hn, fun j hj => ?_⟩
  obtain ⟨b, off, ha, hbB, hc', h0, h1⟩ := hc j hj
  have hbR : b ≠ R := by
    rintro rfl
    rw [cell_of_row w b _ _ _ _ hR] at hc'
    match off + j, hc' with
    | 0, e => simp at e
    | 1, e => simp at e
    | 2, e => simp at e
    | q + 3, e => simp at e
  exact ⟨b, off, ha, hbB, hg.cell hc' (by simp; omega), h0, h1⟩
/-- What stands at any time. -/
def lI (w0 : World) (B R T m : Nat) (l : List UInt8) (lev pg : Int) (listed : Array Bool) (w : World) : Prop :=
  RdTo B (m + (14 - openB listed 14)) w ∧ gB2 w0 w B R ∧ w.heap[T]? = some (.cells #[.string (bs l), .int .i64 lev, .int .i64 pg] 26 (0, 0)) ∧ RBk w R
theorem open_less14 {listed : Array Bool} {i : Nat} (hi : i < 14) (hs : listed.size = 14) (hl : listed.getD i false = false) : openB (listed.setIfInBounds i true) 14 < openB listed 14 := by
  refine openB_set hi hs ?_
  simp only [Array.getD_eq_getD_getElem?] at hl ⊢
  rw [Array.getElem?_eq_getElem (by omega)] at hl ⊢
  simpa using hl
theorem lI_to {w0 w w' : World} {B R T m i : Nat} {l : List UInt8} {lev pg : Int} {listed : Array Bool} (h : lI w0 B R T m l lev pg listed w) (hi : i < 14) (hs : listed.size = 14) (hl : listed.getD i false = false)
    (hT : T ≠ B) (hR : R ≠ B) (hr : ∀ k, RdTo B k w → RdTo B (k + 1) w') (hg : w.grownBy w' (some B)) : lI w0 B R T m l lev pg (listed.setIfInBounds i true) w' := by
  obtain ⟨h1, h2, h3, s, u, v, h4⟩ := h
  have hlt := open_less14 hi hs hl
  have hle := openB_le listed 14
  exact ⟨(hr _ h1).mono (by omega), h2.step hg (.inl rfl), (hg.block T (heap_lt h3) (by simpa using hT)).trans h3, s, u, v, (hg.block R (heap_lt h4) (by simpa using hR)).trans h4⟩
theorem lI_same {w0 w : World} {B R T m i : Nat} {l : List UInt8} {lev pg : Int} {listed : Array Bool} (h : lI w0 B R T m l lev pg listed w) (hi : i < 14) (hs : listed.size = 14) (hl : listed.getD i false = false) : lI w0 B R T m l lev pg (listed.setIfInBounds i true) w := by
  have hlt := open_less14 hi hs hl
  have hle := openB_le listed 14
  exact ⟨h.1.mono (by omega), h.2⟩
theorem lI_alloc {w0 w : World} {B R T m i : Nat} {l : List UInt8} {lev pg : Int} {listed : Array Bool} (h : lI w0 B R T m l lev pg listed w) (hi : i < 14) (hs : listed.size = 14) (hl : listed.getD i false = false)
    (hT : T ≠ B) (hR : R ≠ B) (o : Obj) : lI w0 B R T m l lev pg (listed.setIfInBounds i true) (w.alloc o) :=
  lI_to h hi hs hl hT hR (fun p hp => (hp.kept (World.grownBy_alloc w o none) (by intro k h; cases h)).mono (by omega)) (World.grownBy_alloc w o (some B))
def lDst (i : Nat) : Option Nat := ([some 10, some 11, some 12, some 13, some 14, some 15, some 16, some 17, some 18, some 19, some 20, some 21, none, some 3] : List (Option Nat)).getD i none
theorem lDst_inj : ∀ i, i < 14 → ∀ j, j < 14 → ∀ t, lDst i = some t → lDst j = some t → i = j := by
  intro i hi j hj t e1 e2
  have h : ∀ i j : Fin 14, (lDst i).isSome = true → lDst i = lDst j → i = j := by decide
  have := h ⟨i, hi⟩ ⟨j, hj⟩ (by show (lDst i).isSome = true; rw [e1]; rfl) (by show lDst i = lDst j; rw [e1, e2])
  exact congrArg Fin.val this
theorem lDst_lt : ∀ i, i < 14 → ∀ t, lDst i = some t → t < 22 := by
  intro i hi t e
  have h : ∀ i : Fin 14, (lDst i).all (· < 22) = true := by decide
  have := h ⟨i, hi⟩
  change (lDst i).all (· < 22) = true at this
  rw [e] at this
  simpa using this
theorem fL {a0 a : Act} (h : FramedO lDst 14 a0 a) (t : Nat) (ht : (List.range 14).all (fun i => lDst i != some t) = true) {v : Value} (h0 : a0.tmps.getD t undef = v) : a.eval (.tmp t) = v := by
  show a.tmps.getD t undef = v
  rw [← h0, Array.getD_eq_getD_getElem?, Array.getD_eq_getD_getElem?, h.2.2 t (by intro i hi e; have := List.all_eq_true.1 ht i (List.mem_range.2 hi); rw [e] at this; simp at this)]
theorem ints4_run (w : World) (a : Act) (o : Oper) (x : Tmp) (k : Int) (ho : o.op = .buildSlice 69 4 #[(0, .tmp x), (1, .const (.int .i64 60)), (2, .const (.int .i64 0)), (3, .const (.int .i64 61))]) (hx : a.eval (.tmp x) = .int .i64 k) :
    (execOp a.eval o).run Tryd.prog w = .ok (.value (.slice (some ⟨w.heap.size, 0, none⟩) 4 4)) (w.alloc (.cells #[.int .i64 k, .int .i64 60, .int .i64 0, .int .i64 61] 3)) := by
  have hx' : a.tmps[x]?.getD undef = .int .i64 k := by simpa [Act.eval] using hx
  simp only [execOp, ho]
  simp [go_sem, hx']
theorem ints7_run (w : World) (a : Act) (o : Oper) (ho : o.op = .buildSlice 69 7 #[(0, .const (.int .i64 0)), (1, .const (.int .i64 0)), (2, .const (.int .i64 0)), (3, .const (.int .i64 0)), (4, .const (.int .i64 1)), (5, .const (.int .i64 2)), (6, .const (.int .i64 3))]) :
    (execOp a.eval o).run Tryd.prog w = .ok (.value (.slice (some ⟨w.heap.size, 0, none⟩) 7 7)) (w.alloc (.cells #[.int .i64 0, .int .i64 0, .int .i64 0, .int .i64 0, .int .i64 1, .int .i64 2, .int .i64 3] 3)) := by
  simp only [execOp, ho]
  simp [go_sem]
theorem idxi_run (w : World) (a : Act) (o : Oper) (x y : Operand) (g N : Nat) (k : Int) (h0 : 0 ≤ k) (h1 : k < N) (ho : o.op = .indexAddr 69 x y) (hx : a.eval x = .slice (some ⟨g, 0, none⟩) N N) (hy : a.eval y = .int .i64 k) :
    (execOp a.eval o).run Tryd.prog w = .ok (.value (.pointer (some ⟨g, k.toNat, none⟩))) w := by
  have ht := Tryd.underlying69
  have c1 : Tryd.prog.cellsOf 3 = 1 := by kernel_rfl
  simp only [execOp, ho, hx, hy]
  obtain ⟨u, hu⟩ : ∃ u, u = k.toNat := ⟨_, rfl⟩
  rw [← hu]
  simp [go_sem, ht, h0, h1, ← hu]
theorem loadi_run (w : World) (ad : Addr) (u : Value) (hc : w.cell? ad = some u) (a : Act) (o : Oper) (x : Operand) (ho : o.op = .load 3 x) (hx : a.eval x = .pointer (some ad)) : (execOp a.eval o).run Tryd.prog w = .ok (.value u) w := by
  simp only [execOp, ho, hx]
  simp [go_sem, hc]
theorem add10_run (w : World) (a : Act) (o : Oper) (y : Operand) (k : Int) (h0 : 0 ≤ k) (h1 : k ≤ 255) (t t' : TypeId) (ho : o.op = .binOp .add t (.const (.int .i64 10)) y t') (hy : a.eval y = .int .i64 k) : (execOp a.eval o).run Tryd.prog w = .ok (.value (.int .i64 (10 + k))) w := by
  have e : IntKind.i64.wrap (10 + k) = 10 + k := IntWalk.i64_in _ (by omega)
  simp only [execOp, ho, hy]
  simp [go_sem, e]
theorem loadT_run (w : World) (g : Nat) (u v z : Value) (h0 : w.cell? ⟨g, 0, none⟩ = some u) (h1 : w.cell? ⟨g, 1, none⟩ = some v) (h2 : w.cell? ⟨g, 2, none⟩ = some z) (a : Act) (o : Oper) (x : Operand) (ho : o.op = .load 26 x) (hx : a.eval x = .pointer (some ⟨g, 0, none⟩)) :
    (execOp a.eval o).run Tryd.prog w = .ok (.value (.agg #[u, v, z])) w := by
  simp only [execOp, ho, hx]
  simp [go_sem, h0, h1, h2]
theorem run_assign {a : Act} {w : World} {o : Oper} {v : Value} {x : Operand} (hx : a.eval x = v) (ho : o.op = .assign x := by rfl) : (execOp a.eval o).run Tryd.prog w = .ok (.value v) w := by
  rw [← hx]
  simp [execOp, ho, go_sem]
theorem IBk.at {n0 N g i : Nat} {hi : Int} {w : World} (h : IBk n0 N hi w g) (hx : i < N) : ∃ n : Int, 0 ≤ n ∧ n ≤ hi ∧ w.cell? ⟨g, i, none⟩ = some (.int .i64 n) := by
  obtain ⟨_, c, h1, h2⟩ := h
  obtain ⟨n, a, b, e⟩ := h2 i hx
  exact ⟨n, a, b, (cell_of_row w g i c _ _ h1).trans e⟩
end Go.Proofs.YtfallcoehmmbeaaDoor

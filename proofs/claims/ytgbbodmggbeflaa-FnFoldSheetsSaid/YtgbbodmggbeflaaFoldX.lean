/-
  PROVED HERE: the region that appends two numbers of a sheet to a boxed row. Conditions: each theorem's own.
-/
import Derived.Test.YtgbbodmggbeflaaFold
import Derived.Test.YtgbbodmggbeflaaRegO
import Derived.RangeFuncNested
set_option linter.unusedVariables false
set_option linter.unusedSimpArgs false
namespace Go.Proofs.Ytgbbodmggbeflaa
open Go.RowKit
set_option maxRecDepth 100000

def foldOps (p : String) (d ts : Nat) (i1 i2 : Int) : List Oper := [
  { dst := some d, op := .load 28 (.tmp 3), type := 28, pos := p, after := #[], guard := none },
  { dst := some (d + 1), op := .fieldAddr 59 (.tmp ts) 0, type := 0, pos := p, after := #[], guard := none },
  { dst := some (d + 2), op := .load 28 (.tmp (d + 1)), type := 28, pos := p, after := #[{ on := 1, ground := .data }], guard := none },
  { dst := some (d + 3), op := .indexAddr 28 (.tmp (d + 2)) (.const (.int .i64 i1)), type := 0, pos := p, after := #[{ on := 2, ground := .data }], guard := none },
  { dst := some (d + 4), op := .load 3 (.tmp (d + 3)), type := 3, pos := p, after := #[{ on := 3, ground := .data }], guard := none },
  { dst := some (d + 5), op := .fieldAddr 59 (.tmp ts) 0, type := 0, pos := p, after := #[], guard := none },
  { dst := some (d + 6), op := .load 28 (.tmp (d + 5)), type := 28, pos := p, after := #[{ on := 5, ground := .data }], guard := none },
  { dst := some (d + 7), op := .indexAddr 28 (.tmp (d + 6)) (.const (.int .i64 i2)), type := 0, pos := p, after := #[{ on := 6, ground := .data }], guard := none },
  { dst := some (d + 8), op := .load 3 (.tmp (d + 7)), type := 3, pos := p, after := #[{ on := 7, ground := .data }], guard := none },
  { dst := some (d + 9), op := .buildSlice 28 2 #[(0, .tmp (d + 4)), (1, .tmp (d + 8))], type := 28, pos := p, after := #[{ on := 4, ground := .data }, { on := 8, ground := .data }], guard := none },
  { dst := some (d + 10), op := .call { callee := .builtin .append, args := #[.tmp d, .tmp (d + 9)], argTypes := #[28, 28] }, type := 28, pos := p, after := #[{ on := 0, ground := .data }, { on := 9, ground := .data }], guard := none },
  { dst := none, op := .store 28 (.tmp 3) (.tmp (d + 10)), type := 0, pos := p, after := #[{ on := 10, ground := .data }, { on := 10, ground := .chain }, { on := 0, ground := .phase }, { on := 1, ground := .phase }, { on := 2, ground := .phase }, { on := 3, ground := .phase }, { on := 4, ground := .phase }, { on := 5, ground := .phase }, { on := 6, ground := .phase }, { on := 7, ground := .phase }, { on := 8, ground := .phase }, { on := 9, ground := .phase }, { on := 10, ground := .phase }], guard := none }]

def fDst (d : Nat) (i : Nat) : Option Nat := if i < 11 then some (d + i) else none

theorem op_val {P : Program} {ops : Array Oper} {Q : Exit → Act → World → Prop} {i : Nat} {o : Oper} {K : Act → World → Prop} {a : Act} {w w' : World} {u : Value} (ho : ops[i]? = some o) (hg : o.guard = none) (hrun : (execOp a.eval o).run P w = .ok (.value u) w') (h : K (a.put o.dst u) w') : wpOp P ops Q i K a w := by
  refine wpOp_of ho hg ?_
  unfold Oper.wp
  rw [hrun]
  exact h
theorem op_skip {P : Program} {ops : Array Oper} {Q : Exit → Act → World → Prop} {i : Nat} {o : Oper} {K : Act → World → Prop} {a : Act} {w w' : World} (ho : ops[i]? = some o) (hg : o.guard = none) (hrun : (execOp a.eval o).run P w = .ok .skip w') (h : K (a.put o.dst undef) w') : wpOp P ops Q i K a w := by
  refine wpOp_of ho hg ?_
  unfold Oper.wp
  rw [hrun]
  exact h

/-- All that is neither the box nor the row in it is as it was. -/
def Same (w0 : World) (B : Nat) (v : Value) (w : World) : Prop := ∀ j, j < w0.heap.size → j ≠ B → some j ≠ v.ownBlock → w.heap[j]? = w0.heap[j]?
theorem Same.step {w0 w w' : World} {B : Nat} {v : Value} {row : Option Nat} (h : Same w0 B v w) (hg : w.grownBy w' row) (hs : w0.heap.size ≤ w.heap.size) (hr : row = none ∨ row = v.ownBlock ∨ row = some B) : Same w0 B v w' := fun j hj h1 h2 => by
  refine (hg.block j (by omega) ?_).trans (h j hj h1 h2)
  rcases hr with rfl | rfl | rfl
  · simp
  · exact h2
  · simpa using h1
/-- What the region leaves. -/
def FoldEnd (w0 : World) (n₀ B : Nat) (v : Value) (k : Nat) (xs : List Value) (w : World) : Prop :=
  (∃ u, Boxed w B 28 u ∧ w.ownsRow n₀ 3 1 u k xs) ∧ Below n₀ w0 w ∧ KeepsOthers w0 w ∧ Same w0 B v w

section
variable {n₀ B S b off cap k : Nat} {v : Value} {xs : List Value} {p1 p2 i1 i2 : Int}

/-- What is told of each value. -/
def fXA (n₀ B S b off cap k : Nat) (v : Value) (xs : List Value) (p1 p2 i1 i2 : Int) : Nat → Value → World → Prop
  | 0, u, _ => u = v
  | 1, u, _ => u = .pointer (some ⟨S, 0, none⟩)
  | 2, u, _ => u = .slice (some ⟨b, off, none⟩) 4 cap
  | 3, u, _ => u = .pointer (some ⟨b, off + i1.toNat, none⟩)
  | 4, u, _ => u = .int .i64 p1
  | 5, u, _ => u = .pointer (some ⟨S, 0, none⟩)
  | 6, u, _ => u = .slice (some ⟨b, off, none⟩) 4 cap
  | 7, u, _ => u = .pointer (some ⟨b, off + i2.toNat, none⟩)
  | 8, u, _ => u = .int .i64 p2
  | 9, u, w => ∃ g, u = .slice (some ⟨g, 0, none⟩) 2 2 ∧ some g ≠ v.ownBlock ∧ g ≠ B ∧ w.cell? ⟨g, 0, none⟩ = some (.int .i64 p1) ∧ w.cell? ⟨g, 1, none⟩ = some (.int .i64 p2)
  | 10, u, w => some B ≠ u.ownBlock ∧ w.ownsRow n₀ 3 1 u (k + 2) (xs ++ [.int .i64 p1, .int .i64 p2])
  | _, _, _ => True
def fR (B : Nat) (v : Value) (i : Nat) (w w' : World) : Prop := w.grownBy w' none ∨ (i = 10 ∧ w.grownBy w' v.ownBlock) ∨ (i = 11 ∧ w.grownBy w' (some B))
def fI (w0 : World) (n₀ B S b off cap k : Nat) (v : Value) (xs : List Value) (p1 p2 i1 i2 : Int) (listed : Array Bool) (w : World) : Prop :=
  Below n₀ w0 w ∧ KeepsOthers w0 w ∧ w.cell? ⟨S, 0, none⟩ = some (.slice (some ⟨b, off, none⟩) 4 cap) ∧ w.cell? ⟨b, off + i1.toNat, none⟩ = some (.int .i64 p1) ∧ w.cell? ⟨b, off + i2.toNat, none⟩ = some (.int .i64 p2) ∧
  (listed.getD 10 false = false → w.ownsRow n₀ 3 1 v k xs) ∧ (listed.getD 11 false = false → Boxed w B 28 v) ∧
  (listed.getD 11 false = true → ∃ u, Boxed w B 28 u ∧ w.ownsRow n₀ 3 1 u (k + 2) (xs ++ [.int .i64 p1, .int .i64 p2])) ∧ Same w0 B v w

theorem fXA_kept {i j : Nat} {u : Value} {w w' : World} (hij : i ≠ j) (hj : j < 12) (h : fR B v i w w') (hA : fXA n₀ B S b off cap k v xs p1 p2 i1 i2 j u w) : fXA n₀ B S b off cap k v xs p1 p2 i1 i2 j u w' := by
  rcases (by omega : j = 0 ∨ j = 1 ∨ j = 2 ∨ j = 3 ∨ j = 4 ∨ j = 5 ∨ j = 6 ∨ j = 7 ∨ j = 8 ∨ j = 9 ∨ j = 10 ∨ j = 11) with rfl | rfl | rfl | rfl | rfl | rfl | rfl | rfl | rfl | rfl | rfl | rfl
  case inr.inr.inr.inr.inr.inr.inr.inr.inr.inl =>
    obtain ⟨g, e, h1, h2, c1, c2⟩ := hA
    rcases h with h | ⟨_, h⟩ | ⟨_, h⟩
    · exact ⟨g, e, h1, h2, h.cell c1 (by simp), h.cell c2 (by simp)⟩
    · exact ⟨g, e, h1, h2, h.cell c1 h1, h.cell c2 h1⟩
    · exact ⟨g, e, h1, h2, h.cell c1 (by simpa using h2), h.cell c2 (by simpa using h2)⟩
  case inr.inr.inr.inr.inr.inr.inr.inr.inr.inr.inl =>
    obtain ⟨h1, h2⟩ := hA
    rcases h with h | ⟨e, h⟩ | ⟨_, h⟩
    · exact ⟨h1, h2.kept h (by cases hv : u.ownBlock <;> simp)⟩
    · exact absurd e hij
    · exact ⟨h1, h2.kept h (.inr fun e => h1 e.symm)⟩
  all_goals exact hA

theorem getD_set {listed : Array Bool} {i j : Nat} (h : i ≠ j) : (listed.setIfInBounds i true).getD j false = listed.getD j false := by
  simp only [Array.getD_eq_getD_getElem?]
  rw [Array.getElem?_setIfInBounds]
  simp [h]

/-- An operation that turns nothing that lay. -/
theorem fI_none {w0 w w' : World} {listed : Array Bool} {i : Nat} (hi : i ≠ 10 ∧ i ≠ 11) (h : fI w0 n₀ B S b off cap k v xs p1 p2 i1 i2 listed w) (hg : w.grownBy w' none) (hn : n₀ ≤ w.heap.size) (hk : KeepsOthers w w') : fI w0 n₀ B S b off cap k v xs p1 p2 i1 i2 (listed.setIfInBounds i true) w' := by
  obtain ⟨h1, h2, h3, h4, h5, h6, h7, h8, h9⟩ := h
  refine ⟨h1.grown hg hn (fun k e => by cases e), h2.trans hk, hg.cell h3 (by simp), hg.cell h4 (by simp), hg.cell h5 (by simp), ?_, ?_, ?_, h9.step hg h2.size (.inl rfl)⟩
  · rw [getD_set hi.1]; intro e; exact (h6 e).kept hg (by cases hv : v.ownBlock <;> simp)
  · rw [getD_set hi.2]; intro e; exact (h7 e).kept hg (by simp)
  · rw [getD_set hi.2]; intro e
    obtain ⟨u, q1, q2⟩ := h8 e
    exact ⟨u, q1.kept hg (by simp), q2.kept hg (by cases hv : u.ownBlock <;> simp)⟩

theorem tmpD {a : Act} {t : Nat} {u : Value} (h : valAt a (some t) = u) : a.eval (.tmp t) = u := h
theorem elInt_run (w : World) (b off i cap : Nat) (hi : i < 4) (a : Act) (o : Oper) (x : Operand) (ho : o.op = .indexAddr 28 x (.const (.int .i64 i))) (hx : a.eval x = .slice (some ⟨b, off, none⟩) 4 cap) : (execOp a.eval o).run Try.prog w = .ok (.value (.pointer (some ⟨b, off + i, none⟩))) w := by
  have ht := Try.underlying28
  have q1 : (i : Int) < 4 := by omega
  simp only [execOp, ho, hx]
  simp [go_sem, ht, q1]
theorem loadRow_run (w : World) (ad : Addr) (u : Value) (hc : w.cell? ad = some u) (a : Act) (o : Oper) (x : Operand) (ho : o.op = .load 28 x) (hx : a.eval x = .pointer (some ad)) : (execOp a.eval o).run Try.prog w = .ok (.value u) w := by
  simp only [execOp, ho, hx]
  simp [go_sem, hc]
theorem loadInt_run (w : World) (ad : Addr) (u : Value) (hc : w.cell? ad = some u) (a : Act) (o : Oper) (x : Operand) (ho : o.op = .load 3 x) (hx : a.eval x = .pointer (some ad)) : (execOp a.eval o).run Try.prog w = .ok (.value u) w := by
  simp only [execOp, ho, hx]
  simp [go_sem, hc]
theorem field_run (w : World) (S : Nat) (a : Act) (o : Oper) (x : Operand) (ho : o.op = .fieldAddr 59 x 0) (hx : a.eval x = .pointer (some ⟨S, 0, none⟩)) : (execOp a.eval o).run Try.prog w = .ok (.value (.pointer (some ⟨S, 0, none⟩))) w := by
  simp only [execOp, ho, hx]
  simp [go_sem]
theorem build_run (w : World) (p1 p2 : Int) (a : Act) (o : Oper) (x y : Tmp) (ho : o.op = .buildSlice 28 2 #[(0, .tmp x), (1, .tmp y)]) (hx : a.tmps.getD x undef = .int .i64 p1) (hy : a.tmps.getD y undef = .int .i64 p2) : (execOp a.eval o).run Try.prog w = .ok (.value (.slice (some ⟨w.heap.size, 0, none⟩) 2 2)) (w.alloc (.cells #[.int .i64 p1, .int .i64 p2] 3)) := by
  rw [Array.getD_eq_getD_getElem?] at hx hy
  simp only [execOp, ho]
  simp [go_sem, hx, hy]
theorem store_run (w : World) (B : Nat) (g : Option Addr) (n c : Nat) (v : Value) (hb : Boxed w B 28 v) (a : Act) (o : Oper) (x y : Tmp) (ho : o.op = .store 28 (.tmp x) (.tmp y)) (hx : a.tmps.getD x undef = .pointer (some ⟨B, 0, none⟩)) (hy : a.tmps.getD y undef = .slice g n c) : (execOp a.eval o).run Try.prog w = .ok .skip (w.setCell ⟨B, 0, none⟩ (.slice g n c)) := by
  have c1 := hb.cell
  have c2 := hb.frozen
  rw [Array.getD_eq_getD_getElem?] at hx hy
  simp only [execOp, ho]
  simp [go_sem, c1, c2, hx, hy]
theorem foldLow (p : String) (d ts : Nat) (i1 i2 : Int) : ∀ (i : Nat) (o : Oper), (foldOps p d ts i1 i2).toArray[i]? = some o → ∀ e ∈ o.after, Region.binds .any e = true → Edge.on e < i := by
  intro i o ho e he _
  have h1 : ((foldOps p d ts i1 i2).map (·.after))[i]? = some o.after := by
    rw [List.getElem?_map]
    have : (foldOps p d ts i1 i2)[i]? = some o := by simpa using ho
    rw [this]
    rfl
  obtain ⟨L, hL⟩ : ∃ L : List (Array Edge), L = (foldOps p d ts i1 i2).map (·.after) ∧ (List.range L.length).all (fun i => (L.getD i #[]).toList.all fun e => decide (e.on < i)) = true := ⟨_, rfl, by kernel_rfl⟩
  rw [← hL.1] at h1
  have hi : i < L.length := (List.getElem?_eq_some_iff.1 h1).1
  have h2 := List.all_eq_true.1 hL.2 i (List.mem_range.2 hi)
  rw [List.getD_eq_getElem?_getD, h1] at h2
  exact of_decide_eq_true (List.all_eq_true.1 h2 e (by simpa using he))

set_option maxHeartbeats 4000000 in
theorem fold_any (Q : Exit → Act → World → Prop) (p : String) (d ts : Nat) (j1 j2 : Nat) (hj1 : j1 < 4) (hj2 : j2 < 4) (a0 : Act) (w0 : World) (hd3 : 3 < d) (hdt : ts < d) (hsz : d + 10 < a0.tmps.size)
    (ht3 : a0.tmps.getD 3 undef = .pointer (some ⟨B, 0, none⟩)) (hts : a0.tmps.getD ts undef = .pointer (some ⟨S, 0, none⟩))
    (hn : n₀ ≤ w0.heap.size) (hBn : n₀ ≤ B) (hk : k + 2 ≤ 100000)
    (hbx : Boxed w0 B 28 v) (how : w0.ownsRow n₀ 3 1 v k xs)
    (hSB : S ≠ B) (hSv : some S ≠ v.ownBlock) (hb : b < n₀)
    (hS : w0.cell? ⟨S, 0, none⟩ = some (.slice (some ⟨b, off, none⟩) 4 cap)) (h1 : w0.cell? ⟨b, off + j1, none⟩ = some (.int .i64 p1)) (h2 : w0.cell? ⟨b, off + j2, none⟩ = some (.int .i64 p2))
    (hend : ∀ a w, FramedO (fDst d) 12 a0 a → FoldEnd w0 n₀ B v (k + 2) (xs ++ [.int .i64 p1, .int .i64 p2]) w → Q .normal a w) :
    wpAny Try.prog .any (foldOps p d ts j1 j2).toArray Q 12 (Array.replicate 12 false) a0 w0 := by
  obtain ⟨i0, hi, hz0, hz1, hz2⟩ := info_parts info_int
  have hbv : some b ≠ v.ownBlock := fun e => by have := (how.lt b e.symm).1; omega
  have hbB : b ≠ B := by omega
  refine any_inv a0 w0 12 rfl (fI w0 n₀ B S b off cap k v xs p1 p2 j1 j2) (fXA n₀ B S b off cap k v xs p1 p2 j1 j2) (fR B v) ?_ (fDst d) ?_ ?_ ?_ ?_ ?_ ?_
  · intro i j u w w' _ hj hij h hA
    exact fXA_kept hij hj h hA
  · intro i hi j hj t e1 e2
    unfold fDst at e1 e2
    split at e1
    · split at e2
      · simp at e1 e2; omega
      · cases e2
    · cases e1
  · intro i hi t e1
    unfold fDst at e1
    split at e1
    · simp at e1; omega
    · cases e1
  · exact foldLow _ _ _ _ _
  · intro listed i o a w hls hC hl ho hF hI hA
    have e3 : a.tmps.getD 3 undef = .pointer (some ⟨B, 0, none⟩) := by
      rw [← ht3, Array.getD_eq_getD_getElem?, Array.getD_eq_getD_getElem?, hF.2.2 3 (fun i hi => by unfold fDst; split <;> simp; omega)]
    have es : a.tmps.getD ts undef = .pointer (some ⟨S, 0, none⟩) := by
      rw [← hts, Array.getD_eq_getD_getElem?, Array.getD_eq_getD_getElem?, hF.2.2 ts (fun i hi => by unfold fDst; split <;> simp; omega)]
    have hwn : n₀ ≤ w.heap.size := Nat.le_trans hn hI.2.1.size
    have same : ∀ i, i ≠ 10 ∧ i ≠ 11 → fR B v i w w ∧ fI w0 n₀ B S b off cap k v xs p1 p2 j1 j2 (listed.setIfInBounds i true) w := fun i hi => ⟨.inl (grownBy_refl _ _), fI_none hi hI (grownBy_refl _ _) hwn (KeepsOthers.refl _)⟩
    have hi12 : i < 12 := by have := (Array.getElem?_eq_some_iff.1 ho).1; simpa [foldOps] using this
    rcases (by omega : i = 0 ∨ i = 1 ∨ i = 2 ∨ i = 3 ∨ i = 4 ∨ i = 5 ∨ i = 6 ∨ i = 7 ∨ i = 8 ∨ i = 9 ∨ i = 10 ∨ i = 11) with rfl | rfl | rfl | rfl | rfl | rfl | rfl | rfl | rfl | rfl | rfl | rfl
    all_goals
      have ho' := ho
      simp only [foldOps, List.getElem?_toArray, List.getElem?_cons_succ, List.getElem?_cons_zero, Option.some.injEq] at ho'
      subst ho'
    · have h11 : listed.getD 11 false = false := by
        cases h : listed.getD 11 false
        · rfl
        · have q1 := hC 11 _ h rfl ⟨10, .data⟩ (by simp [foldOps]) rfl
          have q2 := hC 10 _ q1 rfl ⟨0, .data⟩ (by simp [foldOps]) rfl
          rw [hl] at q2
          cases q2
      exact op_val ho rfl (loadRow_run w _ _ (hI.2.2.2.2.2.2.1 h11).cell a _ _ rfl (tmpD e3)) ⟨_, rfl, fun e => (by cases e), rfl, same 0 (by omega)⟩
    · exact op_val ho rfl (field_run w S a _ _ rfl (tmpD es)) ⟨_, rfl, fun e => (by cases e), rfl, same 1 (by omega)⟩
    · have q := hA ⟨1, .data⟩ (by simp) rfl
      exact op_val ho rfl (loadRow_run w _ _ hI.2.2.1 a _ _ rfl (tmpD q)) ⟨_, rfl, fun e => (by cases e), rfl, same 2 (by omega)⟩
    · have q := hA ⟨2, .data⟩ (by simp) rfl
      exact op_val ho rfl (elInt_run w b off j1 cap hj1 a _ _ rfl (tmpD q)) ⟨_, rfl, fun e => (by cases e), rfl, same 3 (by omega)⟩
    · have q := hA ⟨3, .data⟩ (by simp) rfl
      exact op_val ho rfl (loadInt_run w _ _ hI.2.2.2.1 a _ _ rfl (tmpD q)) ⟨_, rfl, fun e => (by cases e), rfl, same 4 (by omega)⟩
    · exact op_val ho rfl (field_run w S a _ _ rfl (tmpD es)) ⟨_, rfl, fun e => (by cases e), rfl, same 5 (by omega)⟩
    · have q := hA ⟨5, .data⟩ (by simp) rfl
      exact op_val ho rfl (loadRow_run w _ _ hI.2.2.1 a _ _ rfl (tmpD q)) ⟨_, rfl, fun e => (by cases e), rfl, same 6 (by omega)⟩
    · have q := hA ⟨6, .data⟩ (by simp) rfl
      exact op_val ho rfl (elInt_run w b off j2 cap hj2 a _ _ rfl (tmpD q)) ⟨_, rfl, fun e => (by cases e), rfl, same 7 (by omega)⟩
    · have q := hA ⟨7, .data⟩ (by simp) rfl
      exact op_val ho rfl (loadInt_run w _ _ hI.2.2.2.2.1 a _ _ rfl (tmpD q)) ⟨_, rfl, fun e => (by cases e), rfl, same 8 (by omega)⟩
    · have q1 := hA ⟨4, .data⟩ (by simp) rfl
      have q2 := hA ⟨8, .data⟩ (by simp) rfl
      have hg := World.grownBy_alloc w (.cells #[.int .i64 p1, .int .i64 p2] 3) none
      refine op_val ho rfl (build_run w p1 p2 a _ _ _ rfl q1 q2) ⟨_, rfl, fun e => (by cases e), ⟨w.heap.size, rfl, ?_, ?_, World.cell?_alloc_at _ _ _ _ rfl, World.cell?_alloc_at _ _ _ _ rfl⟩, .inl hg, fI_none (by omega) hI hg hwn (KeepsOthers.alloc _ _)⟩
      · intro e
        have := (how.lt _ e.symm).2
        have := hI.2.1.size
        omega
      · have := hbx.lt
        have := hI.2.1.size
        omega
    · have q1 := hA ⟨0, .data⟩ (by simp) rfl
      obtain ⟨g, q2, _, _, c1, c2⟩ := hA ⟨9, .data⟩ (by simp) rfl
      have hown := hI.2.2.2.2.2.1 hl
      refine wpOp_of ho rfl ?_
      refine wp_append_own w (.tmp d) (.tmp (d + 9)) 28 rfl n₀ 3 i0 (.int .i64 0) 1 8 Try.underlying28 hi hz0 hz1 hz2 rfl (by decide) v k xs (tmpD q1) hown ⟨g, 0, none⟩ 2 2 [.int .i64 p1, .int .i64 p2] (tmpD q2) rfl ?_ (by intro u hu; simp at hu; rcases hu with rfl | rfl <;> rfl) (by unfold maxLen; omega) (by omega) hwn ?_
      · intro j u hu
        rcases j with _ | _ | j
        · simp at hu; subst hu; exact c1
        · simp at hu; subst hu; exact c2
        · simp at hu
      · intro v' w' hown' hg _
        have hgk : KeepsOthers w w' := KeepsOthers.of_grownBy hg fun j o ej hj => by
          rcases hown.2 with ⟨rfl, _⟩ | ⟨g, cap, cur, rfl, _, hgb, _⟩
          · simp [Value.ownBlock] at ej
          · obtain rfl : g = j := by simpa [Value.ownBlock] using ej
            rw [hgb] at hj; cases hj; rfl
        obtain ⟨r1, r2, r3, r4, r5, r6, r7, r8, r9⟩ := hI
        have h11 : listed.getD 11 false = false := by
          cases h : listed.getD 11 false
          · rfl
          · have q1 := hC 11 _ h rfl ⟨10, .data⟩ (by simp [foldOps]) rfl
            rw [hl] at q1
            cases q1
        have bx := r7 h11
        have bx' : Boxed w' B 28 v := bx.kept hg (bx.not_row (by decide) hown)
        refine ⟨_, rfl, fun e => (by cases e), ⟨bx'.not_row (by decide) hown', hown'⟩, .inr (.inl ⟨rfl, hg⟩), r1.grown hg hwn (fun j ej => (hown.lt j ej).1), r2.trans hgk, hg.cell r3 hSv, hg.cell r4 hbv, hg.cell r5 hbv, ?_, ?_, ?_, r9.step hg r2.size (.inr (.inl rfl))⟩
        · intro e
          exfalso
          simp [Array.getD_eq_getD_getElem?, hls] at e
        · intro _; exact bx'
        · rw [getD_set (by decide), h11]
          intro e; cases e
    · obtain ⟨q1, q2⟩ := hA ⟨10, .data⟩ (by simp) rfl
      have bx := hI.2.2.2.2.2.2.1 hl
      obtain ⟨g, cp, hu⟩ := ownsRow_succ q2
      obtain ⟨u, hu'⟩ : ∃ u, u = valAt a (fDst d 10) := ⟨_, rfl⟩
      rw [← hu'] at q1 q2 hu
      have ev : a.tmps.getD (d + 10) undef = .slice (some ⟨g, 0, none⟩) (k + 1 + 1) cp := by rw [← hu, hu']; rfl
      obtain ⟨r1, r2, r3, r4, r5, r6, r7, r8, r9⟩ := hI
      have hg := grownBy_setCell' w B (.slice (some ⟨g, 0, none⟩) (k + 1 + 1) cp)
      refine op_skip ho rfl (store_run w B _ _ _ v bx a _ _ _ rfl e3 ev) ⟨_, rfl, fun _ => rfl, trivial, .inr (.inr ⟨rfl, hg⟩), r1.grown hg hwn (fun j ej => by cases ej; exact hBn), r2.trans (KeepsOthers.setCell _ _ _), hg.cell r3 (by simpa using hSB), hg.cell r4 (by simpa using hbB), hg.cell r5 (by simpa using hbB), ?_, ?_, ?_, r9.step hg r2.size (.inr (.inr rfl))⟩
      · rw [getD_set (by decide)]
        intro e
        exact (r6 e).kept hg (.inr (bx.not_row (by decide) (r6 e)).symm)
      · intro e
        exfalso
        simp [Array.getD_eq_getD_getElem?, hls] at e
      · intro _
        refine ⟨u, by rw [hu]; exact bx.set _, q2.kept hg (.inr fun e => q1 e.symm)⟩
  · refine ⟨Below.refl _ _, KeepsOthers.refl _, hS, h1, h2, fun _ => how, fun _ => hbx, fun e => ?_, fun _ _ _ _ => rfl⟩
    simp [Array.getD_eq_getD_getElem?] at e
  · intro listed a w hall hF hI _
    exact hend a w hF ⟨hI.2.2.2.2.2.2.2.1 (hall 11 (by omega)), hI.1, hI.2.1, hI.2.2.2.2.2.2.2.2⟩
end
end Go.Proofs.Ytgbbodmggbeflaa

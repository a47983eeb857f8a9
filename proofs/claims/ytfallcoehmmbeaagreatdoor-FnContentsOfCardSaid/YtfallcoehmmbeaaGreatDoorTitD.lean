/-
  PROVED HERE: what drawing a title hands back. Conditions: each theorem's own.
-/
import Derived.Test.YtfallcoehmmbeaaGreatDoorDr
import Derived.Test.YtfallcoehmmbeaaGreatDoorRegO
import Derived.Test.YtfallcoehmmbeaaGreatDoorTitS
import Derived.Test.YtfallcoehmmbeaaGreatDoorCtRS
import Derived.Deep.Cut
import Derived.Deep.CutRange
set_option linter.unusedVariables false
set_option linter.unusedSimpArgs false
namespace Go.Proofs.YtfallcoehmmbeaaGreatDoor
open Go.RowKit

theorem op_val {P : Program} {ops : Array Oper} {Q : Exit → Act → World → Prop} {i : Nat} {o : Oper} {K : Act → World → Prop} {a : Act} {w w' : World} {u : Value} (ho : ops[i]? = some o) (hg : o.guard = none) (hrun : (execOp a.eval o).run P w = .ok (.value u) w') (h : K (a.put o.dst u) w') : wpOp P ops Q i K a w := by
  refine wpOp_of ho hg ?_
  unfold Oper.wp
  rw [hrun]
  exact h
theorem op_skip {P : Program} {ops : Array Oper} {Q : Exit → Act → World → Prop} {i : Nat} {o : Oper} {K : Act → World → Prop} {a : Act} {w w' : World} (ho : ops[i]? = some o) (hg : o.guard = none) (hrun : (execOp a.eval o).run P w = .ok .skip w') (h : K (a.put o.dst undef) w') : wpOp P ops Q i K a w := by
  refine wpOp_of ho hg ?_
  unfold Oper.wp
  rw [hrun]
  exact h

/-- A block that the region has made for a title · a row of six short texts. -/
def TBk (n0 : Nat) (w : World) (g : Nat) : Prop := n0 ≤ g ∧ ∃ c : Array Value, w.heap[g]? = some (.cells c 32 (0, 0)) ∧ c.size = 3
def SBk (n0 : Nat) (w : World) (g : Nat) : Prop := n0 ≤ g ∧ ∃ c : Array Value, w.heap[g]? = some (.cells c 9 (0, 0)) ∧ ∀ i, i < 6 → ∃ l : List UInt8, l.length ≤ 41 ∧ c[i]? = some (.string (bs l))
/-- What an operation may turn: the reader; and the last one a title's block. -/
def tR (n0 B i : Nat) (w w' : World) : Prop := w.heap.size ≤ w'.heap.size ∧ ∀ k, k < w.heap.size → k ≠ B → (w'.heap[k]? = w.heap[k]? ∨ (i = 12 ∧ TBk n0 w k ∧ TBk n0 w' k))
theorem heap_lt {w : World} {g : Nat} {o : Obj} (h : w.heap[g]? = some o) : g < w.heap.size := (Array.getElem?_eq_some_iff.1 h).1
theorem TBk.lt {n0 g : Nat} {w : World} (h : TBk n0 w g) : g < w.heap.size := by obtain ⟨_, c, h1, _⟩ := h; exact heap_lt h1
theorem SBk.notT {n0 g : Nat} {w : World} (h : SBk n0 w g) : ¬ TBk n0 w g := by
  intro k
  obtain ⟨_, c, h1, _⟩ := h
  obtain ⟨_, d, k1, _⟩ := k
  rw [h1] at k1
  injection k1 with k1
  injection k1 with _ k2 _
  exact absurd k2 (by decide)
theorem SBk.kept {n0 B i g : Nat} {w w' : World} (h : SBk n0 w g) (hr : tR n0 B i w w') (hB : B < n0) : SBk n0 w' g := by
  have hn := h.notT
  obtain ⟨h0, c, h1, h2⟩ := h
  rcases hr.2 g (heap_lt h1) (by omega) with e | ⟨_, e, _⟩
  · exact ⟨h0, c, e.trans h1, h2⟩
  · exact absurd e hn
theorem TBk.kept {n0 B i g : Nat} {w w' : World} (h : TBk n0 w g) (hr : tR n0 B i w w') (hB : B < n0) : TBk n0 w' g := by
  have hl := h.lt
  obtain ⟨h0, c, h1, h2⟩ := h
  rcases hr.2 g hl (by omega) with e | ⟨_, _, e⟩
  · exact ⟨h0, c, e.trans h1, h2⟩
  · exact e
/-- What is told of each operation's value. -/
def tA (n0 B : Nat) (j : Nat) (v : Value) (w : World) : Prop :=
  match j with
  | 0 => ∃ g, v = .slice (some ⟨g, 0, none⟩) 6 6 ∧ SBk n0 w g
  | 1 => v = .pointer (some ⟨B, 0, none⟩)
  | 2 => ∃ k : Int, v = .int .i64 k ∧ 0 ≤ k ∧ k ≤ 5
  | 3 => ∃ g i, v = .pointer (some ⟨g, i, none⟩) ∧ i < 6 ∧ SBk n0 w g
  | 4 => ∃ l : List UInt8, v = .string (bs l) ∧ l.length ≤ 41
  | 5 => v = .pointer (some ⟨B, 0, none⟩)
  | 6 => ∃ k : Int, v = .int .i64 k ∧ 0 ≤ k ∧ k ≤ 255
  | 7 => v = .pointer (some ⟨B, 0, none⟩)
  | 8 => ∃ k : Int, v = .int .i64 k ∧ 0 ≤ k ∧ k ≤ 255
  | 9 => ∃ k : Int, v = .int .i64 k ∧ 0 ≤ k ∧ k ≤ 256
  | 10 => ∃ (l : List UInt8) (a b : Int), v = .agg #[.string (bs l), .int .i64 a, .int .i64 b] ∧ l.length ≤ 41
  | 11 => ∃ g, v = .pointer (some ⟨g, 0, none⟩) ∧ TBk n0 w g
  | 12 => ∃ (g : Nat) (l : List UInt8) (a b : Int), n0 ≤ g ∧ w.heap[g]? = some (.cells #[.string (bs l), .int .i64 a, .int .i64 b] 32 (0, 0)) ∧ l.length ≤ 41
  | _ => True
theorem tA_kept {n0 B : Nat} (hB : B < n0) : ∀ (i j : Nat) (v : Value) (w w' : World), i < 13 → j < 13 → i ≠ j → tR n0 B i w w' → tA n0 B j v w → tA n0 B j v w' := by
  intro i j v w w' hi hj hij hr h
  match j, hj with
  | 0, _ => obtain ⟨g, e, h1⟩ := h; exact ⟨g, e, h1.kept hr hB⟩
  | 1, _ => exact h
  | 2, _ => exact h
  | 3, _ => obtain ⟨g, k, e, hk, h1⟩ := h; exact ⟨g, k, e, hk, h1.kept hr hB⟩
  | 4, _ => exact h
  | 5, _ => exact h
  | 6, _ => exact h
  | 7, _ => exact h
  | 8, _ => exact h
  | 9, _ => exact h
  | 10, _ => exact h
  | 11, _ => obtain ⟨g, e, h1⟩ := h; exact ⟨g, e, h1.kept hr hB⟩
  | 12, _ =>
    obtain ⟨g, l, a, b, h0, h1, h2⟩ := h
    refine ⟨g, l, a, b, h0, ?_, h2⟩
    rcases hr.2 g (heap_lt h1) (by omega) with e | ⟨e, _, _⟩
    · exact e.trans h1
    · exact absurd e hij
/-- What stands at any time. -/
def tI (w0 : World) (B m : Nat) (listed : Array Bool) (w : World) : Prop :=
  RdTo B (m + (13 - openB listed 13)) w ∧ w0.grownBy w (some B) ∧ (∀ g g', TBk w0.heap.size w g → TBk w0.heap.size w g' → g = g') ∧ (listed.getD 11 false = false → ∀ g, ¬ TBk w0.heap.size w g)
theorem openB_le (listed : Array Bool) (n : Nat) : openB listed n ≤ n := by
  unfold openB
  exact Nat.le_trans (List.length_filter_le _ _) (by simp)
theorem getD_set (listed : Array Bool) (i j : Nat) (hij : i ≠ j) : (listed.setIfInBounds i true).getD j false = listed.getD j false := by
  simp only [Array.getD_eq_getD_getElem?]
  rw [Array.getElem?_setIfInBounds, if_neg hij]
theorem open_less {listed : Array Bool} {i : Nat} (hi : i < 13) (hs : listed.size = 13) (hl : listed.getD i false = false) : openB (listed.setIfInBounds i true) 13 < openB listed 13 := by
  refine openB_set hi hs ?_
  simp only [Array.getD_eq_getD_getElem?] at hl ⊢
  rw [Array.getElem?_eq_getElem (by omega)] at hl ⊢
  simpa using hl
theorem tI_to {w0 w w' : World} {B m i : Nat} {listed : Array Bool} (h : tI w0 B m listed w) (hi : i < 13) (hs : listed.size = 13) (hl : listed.getD i false = false) (hi11 : i ≠ 11)
    (hr : ∀ k, RdTo B k w → RdTo B (k + 1) w') (hg : w0.grownBy w' (some B)) (ht : ∀ g, TBk w0.heap.size w' g → TBk w0.heap.size w g) : tI w0 B m (listed.setIfInBounds i true) w' := by
  obtain ⟨h1, h2, h3, h4⟩ := h
  have hlt := open_less hi hs hl
  have hle := openB_le listed 13
  refine ⟨(hr _ h1).mono (by omega), hg, fun g g' a b => h3 g g' (ht g a) (ht g' b), fun e g a => h4 ?_ g (ht g a)⟩
  rw [getD_set _ _ _ hi11] at e
  exact e
theorem tI_same {w0 w : World} {B m i : Nat} {listed : Array Bool} (h : tI w0 B m listed w) (hi : i < 13) (hs : listed.size = 13) (hl : listed.getD i false = false) (hi11 : i ≠ 11) : tI w0 B m (listed.setIfInBounds i true) w :=
  tI_to h hi hs hl hi11 (fun k hk => hk.mono (by omega)) h.2.1 (fun _ h => h)
theorem tR_refl (n0 B i : Nat) (w : World) : tR n0 B i w w := ⟨Nat.le_refl _, fun _ _ _ => .inl rfl⟩
theorem tR_of {n0 B i : Nat} {w w' : World} (hg : w.grownBy w' (some B)) : tR n0 B i w w' := ⟨hg.size, fun k hk hne => .inl (hg.block k hk (by simpa using hne))⟩
theorem grown_step {w0 w w' : World} {B : Nat} (h : w0.grownBy w (some B)) (hg : w.grownBy w' (some B)) : w0.grownBy w' (some B) := grownBy_trans h hg
theorem region_invO {P : Program} {ops : Array Oper} {Q : Exit → Act → World → Prop} {id : Nat} (hm : P.follows .mixedOrders = true) (a0 : Act) (w0 : World) (n : Nat) (hn : ops.size = n)
    (I : Array Bool → World → Prop) (A : Nat → Value → World → Prop) (R : Nat → World → World → Prop)
    (hR : ∀ i j v w w', i < n → j < n → i ≠ j → R i w w' → A j v w → A j v w')
    (dst : Nat → Option Nat) (hinj : ∀ i, i < n → ∀ j, j < n → ∀ t, dst i = some t → dst j = some t → i = j) (hsz : ∀ i, i < n → ∀ t, dst i = some t → t < a0.tmps.size)
    (hlow : ∀ (i : Nat) (o : Oper), ops[i]? = some o → ∀ e ∈ o.after, Region.binds .any e = true → Edge.on e < i)
    (hst : ∀ (listed : Array Bool) (i : Nat) (o : Oper) (a : Act) (w : World), listed.size = n → Closed ops listed → listed.getD i false = false → ops[i]? = some o → FramedO dst n a0 a → I listed w →
      (∀ e ∈ o.after, Region.binds .any e = true → A e.on (valAt a (dst e.on)) w) →
      wpOp P ops Q i (fun a' w' => ∃ v, a' = a.put (dst i) v ∧ (dst i = none → v = undef) ∧ A i v w' ∧ R i w w' ∧ I (listed.setIfInBounds i true) w') a w)
    (h0 : I (Array.replicate n false) w0.drew)
    (hend : ∀ listed a w, (∀ i, i < n → listed.getD i false = true) → FramedO dst n a0 a → I listed w → (∀ i, i < n → A i (valAt a (dst i)) w) → Q .normal a w) :
    (Code.region id ops true).wp P Q a0 w0 := by
  refine wp_region_any hm ?_
  rw [hn]
  exact any_inv a0 w0.drew n hn I A R hR dst hinj hsz hlow hst h0 hend
def tDst (i : Nat) : Option Nat := ([some 6, some 7, some 8, some 9, some 10, some 11, some 12, some 13, some 14, some 15, some 16, some 5] : List (Option Nat)).getD i none
end Go.Proofs.YtfallcoehmmbeaaGreatDoor

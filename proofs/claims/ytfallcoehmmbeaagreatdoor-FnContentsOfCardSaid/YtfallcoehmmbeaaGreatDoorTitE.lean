/-
  PROVED HERE: what drawing a title hands back. Conditions: each theorem's own.
-/
import Derived.Test.YtfallcoehmmbeaaGreatDoorTitD
set_option linter.unusedVariables false
set_option linter.unusedSimpArgs false
namespace Go.Proofs.YtfallcoehmmbeaaGreatDoor
open Go.RowKit
set_option maxRecDepth 100000

theorem fD {a0 a : Act} (h : FramedO tDst 13 a0 a) {v : Value} (h0 : a0.tmps.getD 0 undef = v) : a.eval (.tmp 0) = v := by
  show a.tmps.getD 0 undef = v
  rw [← h0, Array.getD_eq_getD_getElem?, Array.getD_eq_getD_getElem?, h.2.2 0 (by intro i hi; revert i; decide)]
theorem tpick {o : Oper} {a : Act} {w : World} {Q : Exit → Act → World → Prop} {ops : Array Oper} {i B m : Nat} {K : Act → World → Prop} {n : Int} (x : Tmp) (t : Array TypeId) (h : ops[i]? = some o) (hg : o.guard = none)
    (ho : o.op = .call { callee := .value (.func 11), args := #[.tmp x, .const (.int .i64 n)], argTypes := t }) (hI : RdTo B m w) (hm : m ≤ 1000000000)
    (hx : a.eval (.tmp x) = .pointer (some ⟨B, 0, none⟩)) (hn : 1 ≤ n) (hn' : n ≤ 9223372036854775807)
    (hK : ∀ (k : Int) (w' : World), 0 ≤ k → k < n → (∀ p, RdTo B p w → RdTo B (p + 1) w') → w.grownBy w' (some B) → w'.heap.size = w.heap.size → K (a.put o.dst (.int .i64 k)) w') : wpOp Tryz.prog ops Q i K a w := by
  refine wpOp_of h hg ?_
  obtain ⟨p, hp, hr⟩ := hI
  have hrun : (execOp a.eval o).run Tryz.prog w = .ok (.enter 11 #[.pointer (some ⟨B, 0, none⟩), .int .i64 n]) w := by
    simp only [execOp, ho]
    simp [go_sem]
    simpa [Act.eval] using hx
  unfold Oper.wp
  rw [hrun, Oper.upon_enter]
  refine (pick_any B p n w hr (by omega) hn hn').mono ?_
  rintro e w1 ⟨k, h1, h2, rfl, r1, g1, s1⟩
  refine hK k w1 h1 h2 (fun q hq => ?_) g1 s1
  obtain ⟨p', hp', hr'⟩ := hq
  have e : p = p' := by
    obtain ⟨a1, n1, c1, z1, k1, _⟩ := hr
    obtain ⟨a2, n2, c2, z2, k2, _⟩ := hr'
    rw [k1] at k2
    simp at k2
    omega
  exact ⟨p' + 1, by omega, by rw [← e]; exact r1⟩
theorem TBk.back {n0 B g : Nat} {w w' : World} (hB : B < n0) (hg : w.grownBy w' (some B)) (hs : w'.heap.size = w.heap.size) (h : TBk n0 w' g) : TBk n0 w g := by
  have hl := h.lt
  obtain ⟨h0, c, h1, h2⟩ := h
  exact ⟨h0, c, (hg.block g (by omega) (by simp; omega)).symm.trans h1, h2⟩
theorem strs6_run (w : World) (a : Act) (o : Oper) (ho : o.op = .buildSlice 26 6 #[(0, .const (.string ⟨#[97]⟩)), (1, .const (.string ⟨#[79, 110, 32, 108, 105, 110, 101, 115]⟩)), (2, .const (.string ⟨#[79, 102, 32, 112, 97, 103, 101, 115, 44, 32, 97, 110, 100, 32, 111, 102, 32, 109, 111, 114, 101]⟩)), (3, .const (.string ⟨#[120, 46, 121]⟩)), (4, .const (.string ⟨#[49, 32, 50, 32, 51]⟩)), (5, .const (.string ⟨#[46, 46, 122]⟩))]) :
    (execOp a.eval o).run Tryz.prog w = .ok (.value (.slice (some ⟨w.heap.size, 0, none⟩) 6 6)) (w.alloc (.cells #[.string (bs [97]), .string (bs [79, 110, 32, 108, 105, 110, 101, 115]), .string (bs [79, 102, 32, 112, 97, 103, 101, 115, 44, 32, 97, 110, 100, 32, 111, 102, 32, 109, 111, 114, 101]), .string (bs [120, 46, 121]), .string (bs [49, 32, 50, 32, 51]), .string (bs [46, 46, 122])] 9)) := by
  simp only [execOp, ho]
  simp [go_sem]
theorem idxs_run (w : World) (a : Act) (o : Oper) (x y : Operand) (g : Nat) (k : Int) (h0 : 0 ≤ k) (h1 : k < 6) (ho : o.op = .indexAddr 26 x y) (hx : a.eval x = .slice (some ⟨g, 0, none⟩) 6 6) (hy : a.eval y = .int .i64 k) :
    (execOp a.eval o).run Tryz.prog w = .ok (.value (.pointer (some ⟨g, k.toNat, none⟩))) w := by
  have ht := Tryz.underlying26
  have c1 : Tryz.prog.cellsOf 9 = 1 := by kernel_rfl
  simp only [execOp, ho, hx, hy]
  obtain ⟨u, hu⟩ : ∃ u, u = k.toNat := ⟨_, rfl⟩
  rw [← hu]
  simp [go_sem, ht, h0, h1, ← hu]
theorem loads_run (w : World) (ad : Addr) (u : Value) (hc : w.cell? ad = some u) (a : Act) (o : Oper) (x : Operand) (ho : o.op = .load 9 x) (hx : a.eval x = .pointer (some ad)) : (execOp a.eval o).run Tryz.prog w = .ok (.value u) w := by
  simp only [execOp, ho, hx]
  simp [go_sem, hc]
theorem add1_run (w : World) (a : Act) (o : Oper) (y : Operand) (k : Int) (h0 : 0 ≤ k) (h1 : k ≤ 255) (t t' : TypeId) (ho : o.op = .binOp .add t (.const (.int .i64 1)) y t') (hy : a.eval y = .int .i64 k) : (execOp a.eval o).run Tryz.prog w = .ok (.value (.int .i64 (1 + k))) w := by
  have e : IntKind.i64.wrap (1 + k) = 1 + k := IntWalk.i64_in _ (by omega)
  simp only [execOp, ho, hy]
  simp [go_sem, e]
theorem buildT_run (w : World) (a : Act) (o : Oper) (x y z : Tmp) (l : List UInt8) (p q : Int) (ho : o.op = .build 32 #[(0, .tmp x), (1, .tmp y), (2, .tmp z)]) (hx : a.eval (.tmp x) = .string (bs l)) (hy : a.eval (.tmp y) = .int .i64 p) (hz : a.eval (.tmp z) = .int .i64 q) :
    (execOp a.eval o).run Tryz.prog w = .ok (.value (.agg #[.string (bs l), .int .i64 p, .int .i64 q])) w := by
  have hx' : a.tmps[x]?.getD undef = .string (bs l) := by simpa [Act.eval] using hx
  have hy' : a.tmps[y]?.getD undef = .int .i64 p := by simpa [Act.eval] using hy
  have hz' : a.tmps[z]?.getD undef = .int .i64 q := by simpa [Act.eval] using hz
  simp only [execOp, ho]
  simp [go_sem, hx', hy', hz']
theorem allocT_run (w : World) (a : Act) (o : Oper) (ho : o.op = .alloc 32) : (execOp a.eval o).run Tryz.prog w = .ok (.value (.pointer (some ⟨w.heap.size, 0, none⟩))) (w.alloc (.cells #[.string ⟨#[]⟩, .int .i64 0, .int .i64 0] 32)) := by
  simp only [execOp, ho]
  simp [go_sem]
theorem storeT_run (w : World) (g : Nat) (hc : ∃ x y z, w.cell? ⟨g, 0, none⟩ = some x ∧ w.cell? ⟨g, 1, none⟩ = some y ∧ w.cell? ⟨g, 2, none⟩ = some z) (hf : w.frozen? ⟨g, 0, none⟩ = false ∧ w.frozen? ⟨g, 1, none⟩ = false ∧ w.frozen? ⟨g, 2, none⟩ = false) (a : Act) (o : Oper) (x y : Operand) (l : List UInt8) (p q : Int)
    (ho : o.op = .store 32 x y) (hx : a.eval x = .pointer (some ⟨g, 0, none⟩)) (hy : a.eval y = .agg #[.string (bs l), .int .i64 p, .int .i64 q]) :
    (execOp a.eval o).run Tryz.prog w = .ok .skip (((w.setCell ⟨g, 0, none⟩ (.string (bs l))).setCell ⟨g, 1, none⟩ (.int .i64 p)).setCell ⟨g, 2, none⟩ (.int .i64 q)) := by
  obtain ⟨c0, c1, c2, h0, h1, h2⟩ := hc
  obtain ⟨f0, f1, f2⟩ := hf
  simp only [execOp, ho, hx, hy]
  simp [go_sem, h0, h1, h2, f0, f1, f2]
end Go.Proofs.YtfallcoehmmbeaaGreatDoor

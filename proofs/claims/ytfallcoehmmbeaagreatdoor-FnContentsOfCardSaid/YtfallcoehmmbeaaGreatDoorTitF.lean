/-
  PROVED HERE: what drawing a title hands back. Conditions: each theorem's own.
-/
import Derived.Test.YtfallcoehmmbeaaGreatDoorTitE
set_option linter.unusedVariables false
set_option linter.unusedSimpArgs false
namespace Go.Proofs.YtfallcoehmmbeaaGreatDoor
open Go.RowKit
set_option maxRecDepth 100000

def lowB (ops : Array Oper) : Bool := (List.range ops.size).all fun i => match ops[i]? with | some o => o.after.all fun e => !Region.binds .any e || decide (e.on < i) | none => true
theorem low_of {ops : Array Oper} (h : lowB ops = true) : ∀ (i : Nat) (o : Oper), ops[i]? = some o → ∀ e ∈ o.after, Region.binds .any e = true → Edge.on e < i := by
  intro i o ho e he hb
  unfold lowB at h
  rw [List.all_eq_true] at h
  have h1 := h i (List.mem_range.2 (Array.getElem?_eq_some_iff.1 ho).1)
  rw [ho] at h1
  have h2 := (Array.all_eq_true'.1 h1) e he
  rw [hb] at h2
  simpa using h2
theorem tDst_inj : ∀ i, i < 13 → ∀ j, j < 13 → ∀ t, tDst i = some t → tDst j = some t → i = j := by
  intro i hi j hj t e1 e2
  have h : ∀ i j : Fin 13, (tDst i).isSome = true → tDst i = tDst j → i = j := by decide
  have := h ⟨i, hi⟩ ⟨j, hj⟩ (by show (tDst i).isSome = true; rw [e1]; rfl) (by show tDst i = tDst j; rw [e1, e2])
  exact congrArg Fin.val this
theorem tDst_lt : ∀ i, i < 13 → ∀ t, tDst i = some t → t < 17 := by
  intro i hi t e
  have h : ∀ i : Fin 13, (tDst i).all (· < 17) = true := by decide
  have := h ⟨i, hi⟩
  change (tDst i).all (· < 17) = true at this
  rw [e] at this
  simpa using this
theorem tDst_out {t : Nat} (ht : ¬ (5 ≤ t ∧ t < 17)) : ∀ i, i < 13 → tDst i ≠ some t := by
  intro i hi e
  have h : ∀ i : Fin 13, (tDst i).all (fun t => decide (5 ≤ t ∧ t < 17)) = true := by decide
  have := h ⟨i, hi⟩
  change (tDst i).all (fun t => decide (5 ≤ t ∧ t < 17)) = true at this
  rw [e] at this
  exact ht (by simpa using this)
def fillR (t : Array Value) (d : Nat) : List Value → Array Value
  | [] => t
  | u :: us => fillR (t.setIfInBounds d u) (d + 1) us
theorem fillR_get : ∀ (us : List Value) (t : Array Value) (d k : Nat), (fillR t d us)[k]? = if d ≤ k ∧ k < d + us.length ∧ k < t.size then us[k - d]? else t[k]?
  | [], t, d, k => by rw [fillR, if_neg (by simp; omega)]
  | u :: us, t, d, k => by
    rw [fillR, fillR_get us, Array.getElem?_setIfInBounds]
    by_cases h : d = k
    · subst h
      rw [if_neg (by omega), if_pos rfl]
      by_cases hk : d < t.size
      · rw [if_pos hk, if_pos ⟨Nat.le_refl _, by simp, hk⟩, Nat.sub_self]
        rfl
      · rw [if_neg hk, if_neg (by omega), Array.getElem?_eq_none (by omega)]
    · by_cases hin : d + 1 ≤ k ∧ k < d + 1 + us.length ∧ k < (t.setIfInBounds d u).size
      · rw [if_pos hin, if_pos (by simp at hin; simp; omega)]
        obtain ⟨j, rfl⟩ : ∃ j, k = d + 1 + j := ⟨k - (d + 1), by omega⟩
        rw [show d + 1 + j - (d + 1) = j by omega, show d + 1 + j - d = j + 1 by omega]
        rfl
      · rw [if_neg hin, if_neg h, if_neg (by simp at hin; simp; omega)]
theorem tFill {a0 a : Act} (h : FramedO tDst 13 a0 a) (hd : 17 ≤ a0.tmps.size) : ∃ x5 x6 x7 x8 x9 x10 x11 x12 x13 x14 x15 x16, a = { tmps := fillR a0.tmps 5 [x5, x6, x7, x8, x9, x10, x11, x12, x13, x14, x15, x16], defers := a0.defers } := by
  refine ⟨a.tmps.getD 5 undef, a.tmps.getD 6 undef, a.tmps.getD 7 undef, a.tmps.getD 8 undef, a.tmps.getD 9 undef, a.tmps.getD 10 undef, a.tmps.getD 11 undef, a.tmps.getD 12 undef, a.tmps.getD 13 undef, a.tmps.getD 14 undef, a.tmps.getD 15 undef, a.tmps.getD 16 undef, ?_⟩
  have e : a.tmps = fillR a0.tmps 5 [a.tmps.getD 5 undef, a.tmps.getD 6 undef, a.tmps.getD 7 undef, a.tmps.getD 8 undef, a.tmps.getD 9 undef, a.tmps.getD 10 undef, a.tmps.getD 11 undef, a.tmps.getD 12 undef, a.tmps.getD 13 undef, a.tmps.getD 14 undef, a.tmps.getD 15 undef, a.tmps.getD 16 undef] := by
    apply Array.ext_getElem?
    intro k
    rw [fillR_get]
    by_cases hk : 5 ≤ k ∧ k < 17
    · rw [if_pos ⟨hk.1, by simpa using hk.2, by omega⟩]
      have hs : k < a.tmps.size := by rw [h.1]; omega
      have key : ∀ k, k < a.tmps.size → a.tmps[k]? = some (a.tmps.getD k undef) := fun k hk => by
        rw [Array.getD_eq_getD_getElem?, Array.getElem?_eq_getElem hk]; rfl
      rw [key k hs]
      rcases (by omega : k = 5 ∨ k = 6 ∨ k = 7 ∨ k = 8 ∨ k = 9 ∨ k = 10 ∨ k = 11 ∨ k = 12 ∨ k = 13 ∨ k = 14 ∨ k = 15 ∨ k = 16) with rfl | rfl | rfl | rfl | rfl | rfl | rfl | rfl | rfl | rfl | rfl | rfl <;> rfl
    · rw [if_neg (fun e => hk ⟨e.1, by simpa using e.2.1⟩)]
      exact h.2.2 k (tDst_out hk)
  rw [← e, ← h.2.1]
theorem arr3 (c : Array Value) (h : c.size = 3) : ∃ x y z, c = #[x, y, z] := by
  obtain ⟨l⟩ := c
  match l, h with
  | [x, y, z], _ => exact ⟨x, y, z, rfl⟩
theorem run_move_rd {a : Act} {w : World} {o : Oper} {v : Value} {x : Operand} (hx : a.eval x = v) (ho : o.op = .move x := by rfl) : (execOp a.eval o).run Tryz.prog w = .ok (.value v) w := by
  rw [← hx]
  simp [execOp, ho, go_sem]
theorem row3_heap {w : World} {n0 g : Nat} {x y z : Value} (h : w.ownsRow n0 32 3 (.slice (some ⟨g, 0, none⟩) 1 1) 1 [x, y, z]) : w.heap[g]? = some (.cells #[x, y, z] 32 (0, 0)) := by
  rcases h.2 with ⟨e, _⟩ | ⟨g', cap, cur, e, _, hh, _, _, hs, ht⟩
  · cases e
  · simp only [Value.slice.injEq, Option.some.injEq, Addr.mk.injEq, and_true, true_and] at e
    obtain ⟨rfl, rfl⟩ := e
    have hl : cur.toList.length = 3 := by simpa using hs
    have : cur.toList = [x, y, z] := by
      rw [List.take_of_length_le (by omega)] at ht
      exact ht
    have e2 : cur = #[x, y, z] := by
      obtain ⟨l⟩ := cur
      simp at this
      rw [this]
    rw [hh, e2]
theorem valAt_fill (t : Array Value) (ds : _) (x : Value) (us : List Value) (h : 5 < t.size) : valAt { tmps := fillR t 5 (x :: us), defers := ds } (some 5) = x := by
  show (fillR t 5 (x :: us)).getD 5 undef = x
  rw [Array.getD_eq_getD_getElem?, fillR_get, if_pos ⟨by omega, by simp, h⟩]
  rfl
/-- A title's block, as a row of one. -/
theorem row3 {w : World} {n0 g : Nat} {x y z : Value} (h0 : n0 ≤ g) (h : w.heap[g]? = some (.cells #[x, y, z] 32 (0, 0))) : w.ownsRow n0 32 3 (.slice (some ⟨g, 0, none⟩) 1 1) 1 [x, y, z] :=
  ⟨rfl, .inr ⟨g, 1, #[x, y, z], rfl, h0, h, Nat.le_refl _, by unfold maxLen; omega, by simp, rfl⟩⟩
/-- What drawing a title leaves. -/
def TitTo (m : Nat) (w : World) (B : Nat) (e : Ending) (w' : World) : Prop :=
  ∃ (l : List UInt8) (lev pg : Int), l.length ≤ 41 ∧ e = .returned (.agg #[.string (bs l), .int .i64 lev, .int .i64 pg]) ∧ Dr w w' B (m + 20)

set_option maxHeartbeats 8000000 in
theorem l20Title_to (B m : Nat) (n : Int) (w : World) (h : RdTo B m w) (hm : m ≤ 900000) (hn : 0 ≤ n) (hn' : n ≤ 1000000) :
    Calls Tryz.prog 12 #[.pointer (some ⟨B, 0, none⟩), .int .i64 n] w (TitTo m w B) := by
  have hBw := h.lt
  have hD0 := (Dr.start h).alloc (.cells #[.string ⟨#[]⟩, .int .i64 0, .int .i64 0] 32)
  have hR0 := owns_lit3 w w.heap.size 32 3 1 [.string ⟨#[]⟩, .int .i64 0, .int .i64 0] (Nat.le_refl _) (by unfold maxLen; omega) rfl
  have hsA : (w.alloc (.cells #[.string ⟨#[]⟩, .int .i64 0, .int .i64 0] 32)).heap.size = w.heap.size + 1 := by simp
  have D0 := Lib.hid hD0
  have R0 := Lib.hid hR0
  have SA := Lib.hid hsA
  obtain ⟨wA, hwA⟩ : ∃ wA, wA = w.alloc (.cells #[.string ⟨#[]⟩, .int .i64 0, .int .i64 0] 32) := ⟨_, rfl⟩
  rw [← hwA] at D0 SA
  have R0 : Hid (wA.ownsRow w.heap.size 32 3 (.slice (some ⟨w.heap.size, 0, none⟩) 1 1) 1 [.string ⟨#[]⟩, .int .i64 0, .int .i64 0]) := by rw [hwA]; exact R0.out
  clear hD0 hR0 hsA h
  go_enter Tryz.func12, Tryz.ntmps12
  go_wp2_with fail
  rw [← hwA]
  clear hwA
  have hBn : B < wA.heap.size := by have := SA.out; omega
  refine region_invO (by kernel_rfl) _ wA 13 rfl (tI wA B m) (tA wA.heap.size B) (tR wA.heap.size B) (tA_kept hBn) tDst tDst_inj (fun i hi t e => by have := tDst_lt i hi t e; show t < 45; omega) (low_of (by kernel_rfl)) ?_ ?_ ?_
  · intro listed i o a wx hls hC hl ho hF hI hA
    have hrd : a.eval (.tmp 0) = .pointer (some ⟨B, 0, none⟩) := fD hF rfl
    have hle := openB_le listed 13
    match i, ho with
    | 0, ho =>
      obtain rfl := Option.some.inj ho
      have hg := World.grownBy_alloc wx (.cells #[.string (bs [97]), .string (bs [79, 110, 32, 108, 105, 110, 101, 115]), .string (bs [79, 102, 32, 112, 97, 103, 101, 115, 44, 32, 97, 110, 100, 32, 111, 102, 32, 109, 111, 114, 101]), .string (bs [120, 46, 121]), .string (bs [49, 32, 50, 32, 51]), .string (bs [46, 46, 122])] 9) (some B)
      refine op_val rfl rfl (strs6_run wx a _ rfl) ⟨_, rfl, fun e => (by cases e), ⟨wx.heap.size, rfl, hI.2.1.size, _, heap_alloc_new wx _, fun i hi => ?_⟩, tR_of hg, tI_to hI (by omega) hls hl (by omega) (fun p hp => (hp.kept (World.grownBy_alloc wx _ none) (by intro k h; cases h)).mono (by omega)) (grown_step hI.2.1 hg) (fun g hT => ?_)⟩
      · rcases (by omega : i = 0 ∨ i = 1 ∨ i = 2 ∨ i = 3 ∨ i = 4 ∨ i = 5) with rfl | rfl | rfl | rfl | rfl | rfl <;> exact ⟨_, by simp, rfl⟩
      · obtain ⟨g0, c, g1, g2⟩ := hT
        by_cases hgs : g < wx.heap.size
        · exact ⟨g0, c, (Below.heap_alloc wx _ g hgs).symm.trans g1, g2⟩
        · exfalso
          have hgl := heap_lt g1
          have hge : g = wx.heap.size := by simp at hgl; omega
          rw [hge, heap_alloc_new] at g1
          injection g1 with g1
          injection g1 with _ g3 _
          exact absurd g3 (by decide)
    | 1, ho =>
      obtain rfl := Option.some.inj ho
      exact op_val rfl rfl (run_move_rd hrd) ⟨_, rfl, fun e => (by cases e), rfl, tR_refl _ _ _ _, tI_same hI (by omega) hls hl (by omega)⟩
    | 2, ho =>
      obtain rfl := Option.some.inj ho
      have q := hA ⟨1, .data⟩ (by simp) rfl
      refine tpick 7 _ rfl rfl rfl hI.1 (by omega) q (by decide) (by decide) (fun k w' h0 h1 hr hg hs => ?_)
      exact ⟨_, rfl, fun e => (by cases e), ⟨k, rfl, h0, by omega⟩, tR_of hg, tI_to hI (by omega) hls hl (by omega) (fun p hp => hr p hp) (grown_step hI.2.1 hg) (fun g hT => hT.back hBn hg hs)⟩
    | 3, ho =>
      obtain rfl := Option.some.inj ho
      obtain ⟨g, q0, hS⟩ := hA ⟨0, .data⟩ (by simp) rfl
      obtain ⟨k, q1, h0, h1⟩ := hA ⟨2, .data⟩ (by simp) rfl
      exact op_val rfl rfl (idxs_run wx a _ _ _ g k h0 (by omega) rfl q0 q1) ⟨_, rfl, fun e => (by cases e), ⟨g, k.toNat, rfl, by omega, hS⟩, tR_refl _ _ _ _, tI_same hI (by omega) hls hl (by omega)⟩
    | 4, ho =>
      obtain rfl := Option.some.inj ho
      obtain ⟨g, k, q0, hk, hS⟩ := hA ⟨3, .data⟩ (by simp) rfl
      obtain ⟨_, c, hc, hcs⟩ := id hS
      obtain ⟨l, hl41, hcl⟩ := hcs k hk
      have hcell : wx.cell? ⟨g, k, none⟩ = some (.string (bs l)) := (cell_of_row wx g k c _ _ hc).trans hcl
      exact op_val rfl rfl (loads_run wx _ _ hcell a _ _ rfl q0) ⟨_, rfl, fun e => (by cases e), ⟨l, rfl, hl41⟩, tR_refl _ _ _ _, tI_same hI (by omega) hls hl (by omega)⟩
    | 5, ho =>
      obtain rfl := Option.some.inj ho
      exact op_val rfl rfl (run_move_rd hrd) ⟨_, rfl, fun e => (by cases e), rfl, tR_refl _ _ _ _, tI_same hI (by omega) hls hl (by omega)⟩
    | 6, ho =>
      obtain rfl := Option.some.inj ho
      have q := hA ⟨5, .data⟩ (by simp) rfl
      refine tpick 11 _ rfl rfl rfl hI.1 (by omega) q (by decide) (by decide) (fun k w' h0 h1 hr hg hs => ?_)
      exact ⟨_, rfl, fun e => (by cases e), ⟨k, rfl, h0, by omega⟩, tR_of hg, tI_to hI (by omega) hls hl (by omega) (fun p hp => hr p hp) (grown_step hI.2.1 hg) (fun g hT => hT.back hBn hg hs)⟩
    | 7, ho =>
      obtain rfl := Option.some.inj ho
      exact op_val rfl rfl (run_move_rd hrd) ⟨_, rfl, fun e => (by cases e), rfl, tR_refl _ _ _ _, tI_same hI (by omega) hls hl (by omega)⟩
    | 8, ho =>
      obtain rfl := Option.some.inj ho
      have q := hA ⟨7, .data⟩ (by simp) rfl
      refine tpick 13 _ rfl rfl rfl hI.1 (by omega) q (by decide) (by decide) (fun k w' h0 h1 hr hg hs => ?_)
      exact ⟨_, rfl, fun e => (by cases e), ⟨k, rfl, h0, by omega⟩, tR_of hg, tI_to hI (by omega) hls hl (by omega) (fun p hp => hr p hp) (grown_step hI.2.1 hg) (fun g hT => hT.back hBn hg hs)⟩
    | 9, ho =>
      obtain rfl := Option.some.inj ho
      obtain ⟨k, q1, h0, h1⟩ := hA ⟨8, .data⟩ (by simp) rfl
      exact op_val rfl rfl (add1_run wx a _ _ k h0 h1 _ _ rfl q1) ⟨_, rfl, fun e => (by cases e), ⟨1 + k, rfl, by omega, by omega⟩, tR_refl _ _ _ _, tI_same hI (by omega) hls hl (by omega)⟩
    | 10, ho =>
      obtain rfl := Option.some.inj ho
      obtain ⟨l, q1, hl41⟩ := hA ⟨4, .data⟩ (by simp) rfl
      obtain ⟨k1, q2, _, _⟩ := hA ⟨6, .data⟩ (by simp) rfl
      obtain ⟨k2, q3, _, _⟩ := hA ⟨9, .data⟩ (by simp) rfl
      exact op_val rfl rfl (buildT_run wx a _ _ _ _ l k1 k2 rfl q1 q2 q3) ⟨_, rfl, fun e => (by cases e), ⟨l, k1, k2, rfl, hl41⟩, tR_refl _ _ _ _, tI_same hI (by omega) hls hl (by omega)⟩
    | 11, ho =>
      obtain rfl := Option.some.inj ho
      have hg := World.grownBy_alloc wx (.cells #[.string ⟨#[]⟩, .int .i64 0, .int .i64 0] 32) (some B)
      have hlt := open_less (by omega) hls hl
      have only : ∀ g, TBk wA.heap.size (wx.alloc (.cells #[.string ⟨#[]⟩, .int .i64 0, .int .i64 0] 32)) g → g = wx.heap.size := fun g hT => by
        obtain ⟨g0, c, g1, g2⟩ := hT
        have hgl := heap_lt g1
        by_cases hgs : g < wx.heap.size
        · exact absurd ⟨g0, c, (Below.heap_alloc wx _ g hgs).symm.trans g1, g2⟩ (hI.2.2.2 hl g)
        · simp at hgl; omega
      exact op_val rfl rfl (allocT_run wx a _ rfl) ⟨_, rfl, fun e => (by cases e), ⟨wx.heap.size, rfl, hI.2.1.size, _, heap_alloc_new wx _, rfl⟩, tR_of hg, (hI.1.kept (World.grownBy_alloc wx _ none) (by intro k h; cases h)).mono (by omega), grown_step hI.2.1 hg, fun g g' h1 h2 => by rw [only g h1, only g' h2], fun e => absurd e (by simp only [Array.getD_eq_getD_getElem?]; rw [Array.getElem?_setIfInBounds]; simp [hls])⟩
    | 12, ho =>
      obtain rfl := Option.some.inj ho
      obtain ⟨g, q1, hT⟩ := hA ⟨11, .data⟩ (by simp) rfl
      obtain ⟨l, k1, k2, q2, hl41⟩ := hA ⟨10, .data⟩ (by simp) rfl
      obtain ⟨g0, c, gc, gs⟩ := id hT
      obtain ⟨x, y, z, rfl⟩ : ∃ x y z, c = #[x, y, z] := arr3 c gs
      have O := row3 g0 gc
      have s0 := O.stored 0 (.string (bs l))
      have s1 := s0.1.stored 1 (.int .i64 k1)
      have s2 := s1.1.stored 2 (.int .i64 k2)
      obtain ⟨y0, y1, y2⟩ := own3 O
      have hgn : g ≠ B := by omega
      have fin := row3_heap s2.1
      have hsz := Nat.le_trans s0.2.size (Nat.le_trans s1.2.size s2.2.size)
      have oth : ∀ j, j < wx.heap.size → j ≠ g → (((wx.setCell ⟨g, 0, none⟩ (.string (bs l))).setCell ⟨g, 1, none⟩ (.int .i64 k1)).setCell ⟨g, 2, none⟩ (.int .i64 k2)).heap[j]? = wx.heap[j]? := fun j hj hne => ((s2.2.block j (Nat.lt_of_lt_of_le hj (Nat.le_trans s0.2.size s1.2.size)) (by simp; exact hne)).trans (s1.2.block j (Nat.lt_of_lt_of_le hj s0.2.size) (by simp; exact hne))).trans (s0.2.block j hj (by simp; exact hne))
      have heq : (((wx.setCell ⟨g, 0, none⟩ (.string (bs l))).setCell ⟨g, 1, none⟩ (.int .i64 k1)).setCell ⟨g, 2, none⟩ (.int .i64 k2)).heap.size = wx.heap.size := by simp
      have hT' : TBk wA.heap.size (((wx.setCell ⟨g, 0, none⟩ (.string (bs l))).setCell ⟨g, 1, none⟩ (.int .i64 k1)).setCell ⟨g, 2, none⟩ (.int .i64 k2)) g := ⟨g0, _, fin, rfl⟩
      refine op_skip rfl rfl (storeT_run wx g ⟨x, y, z, y0, y1, y2⟩ ⟨O.frozenAt 0, O.frozenAt 1, O.frozenAt 2⟩ a _ _ _ l k1 k2 rfl q1 q2) ⟨_, rfl, fun _ => rfl, ⟨g, l, k1, k2, g0, fin, hl41⟩, ⟨hsz, fun j hj hne => ?_⟩, tI_to hI (by omega) hls hl (by omega) (fun p hp => ?_) ?_ (fun g' hg' => ?_)⟩
      · by_cases hjg : j = g
        · subst hjg
          exact .inr ⟨rfl, hT, hT'⟩
        · exact .inl (oth j hj hjg)
      · have k0 := hp.past s0.2 (fun k hk => by cases hk; omega)
        have k1' := k0.past s1.2 (fun k hk => by cases hk; omega)
        exact (k1'.past s2.2 (fun k hk => by cases hk; omega)).mono (by omega)
      · refine ⟨s2.2.os.trans (s1.2.os.trans (s0.2.os.trans hI.2.1.os)), s2.2.tape.trans (s1.2.tape.trans (s0.2.tape.trans hI.2.1.tape)), s2.2.output.trans (s1.2.output.trans (s0.2.output.trans hI.2.1.output)), Nat.le_trans hI.2.1.size hsz, fun k hk hne => (oth k (Nat.lt_of_lt_of_le hk hI.2.1.size) (by omega)).trans (hI.2.1.block k hk hne)⟩
      · by_cases hjg : g' = g
        · rw [hjg]; exact hT
        · obtain ⟨a0, c', a1, a2⟩ := hg'
          exact ⟨a0, c', (oth g' (by have := heap_lt a1; omega) hjg).symm.trans a1, a2⟩
    | _ + 13, ho => exact absurd ho (by simp)
  · refine ⟨D0.out.1.mono (by omega), grownBy_drewN (grownBy_refl wA (some B)) 1, fun g g' hg => absurd hg.lt (by have := hg.1; show ¬ _ < wA.heap.size; omega), fun _ g hg => absurd hg.lt (by have := hg.1; show ¬ _ < wA.heap.size; omega)⟩
  · intro listed a wR hall hF hI hA
    obtain ⟨x5, x6, x7, x8, x9, x10, x11, x12, x13, x14, x15, x16, rfl⟩ := tFill hF (by show 17 ≤ 45; omega)
    obtain ⟨g, e5, hT⟩ := hA 11 (by omega)
    obtain ⟨g', l, p, q, hg0, hgc, hll⟩ := hA 12 (by omega)
    obtain rfl : g = g' := hI.2.2.1 g g' hT ⟨hg0, _, hgc, rfl⟩
    have e5 := (valAt_fill _ _ x5 _ (by show 5 < 45; omega)).symm.trans e5
    subst e5
    have DR : Hid (Dr w wR B (m + 13)) := ⟨hI.1.mono (by omega), grownBy_trans D0.out.2.1 ⟨hI.2.1.os, hI.2.1.tape, hI.2.1.output, hI.2.1.size, fun k hk hne => hI.2.1.block k hk hne⟩ , hBw⟩
    have OT := Lib.hid (row3 (n0 := w.heap.size + 1) (by have := SA.out; omega) hgc)
    have OR := Lib.hid (R0.out.kept hI.2.1 (.inr (by simp [Value.ownBlock]; omega)))
    clear hall hF hI hA hT hgc D0 R0
    have hgw : w.heap.size + 1 ≤ g := by have := SA.out; omega
    have HLL := Lib.hid hll
    clear hg0 hll SA
    simp only [fillR, List.setIfInBounds_toArray, List.set_cons_zero, List.set_cons_succ]
    go_wp2_with fail
    refine (odd_to B (m + 13) n _ DR.out.1 (by omega) hn hn').mono ?_
    rintro e w2 ⟨b, rfl, r2, g2⟩
    have D2 := Lib.hid (DR.out.pick g2 r2)
    have OT2 := Lib.hid (OT.out.kept g2 (.inr (by simp [Value.ownBlock]; omega)))
    have OR2 := Lib.hid (OR.out.kept g2 (.inr (by simp [Value.ownBlock]; omega)))
    clear r2 g2 DR OT OR
    cases b
    · obtain ⟨tc0, tc1, tc2⟩ := own3 OT2.out
      obtain ⟨rc0, rc1, rc2⟩ := own3 OR2.out
      have rz0 := OR2.out.frozenAt 0
      have rz1 := OR2.out.frozenAt 1
      have rz2 := OR2.out.frozenAt 2
      obtain ⟨rf0, rf1, rf2⟩ := own3_read OR2.out (.string (bs l)) (.int .i64 p) (.int .i64 q)
      have s0 := OR2.out.stored 0 (.string (bs l))
      have s1 := s0.1.stored 1 (.int .i64 p)
      have s2 := s1.1.stored 2 (.int .i64 q)
      have DF := Lib.hid (((D2.out.push OR2.out (Nat.le_refl _) s0.2).push s0.1 (Nat.le_refl _) s1.2).push s1.1 (Nat.le_refl _) s2.2)
      clear s0 s1 s2
      go_wp2
      refine bodyPost_ret (v := .agg #[(.string (bs l)), (.int .i64 p), (.int .i64 q)]) (by simp [results, Tryz.results12, go_sem, rf0, rf1, rf2]) rfl ⟨l, p, q, HLL.out, rfl, DF.out.mono (by omega)⟩
    · go_wp2_with fail
      refine (pick_to B (m + 14) 3 _ D2.out.1 (by omega) (by omega) (by omega)).mono ?_
      rintro e w3 ⟨k, k0, k1, rfl, r3, g3⟩
      have D3 := Lib.hid (D2.out.pick g3 r3)
      have OT3 := Lib.hid (OT2.out.kept g3 (.inr (by simp [Value.ownBlock]; omega)))
      have OR3 := Lib.hid (OR2.out.kept g3 (.inr (by simp [Value.ownBlock]; omega)))
      clear r3 g3 D2 OT2 OR2
      rcases (by omega : k = 0 ∨ k = 1 ∨ k = 2) with rfl | rfl | rfl
      · have dA := D3.out.alloc (.cells #[.string ⟨#[]⟩, .string ⟨#[97, 46]⟩, .string ⟨#[32, 97]⟩, .string ⟨#[97, 32]⟩, .string ⟨#[97, 32, 32, 98]⟩, .string ⟨#[97, 10]⟩, .string ⟨#[49, 50, 51, 52, 53, 54, 55, 56, 57, 48, 49, 50, 51, 52, 53, 54, 55, 56, 57, 48, 49, 50, 51, 52, 53, 54, 55, 56, 57, 48, 49, 50, 51, 52, 53, 54, 55, 56, 57, 48, 49]⟩] 9)
        have oTA := OT3.out.alloc (.cells #[.string ⟨#[]⟩, .string ⟨#[97, 46]⟩, .string ⟨#[32, 97]⟩, .string ⟨#[97, 32]⟩, .string ⟨#[97, 32, 32, 98]⟩, .string ⟨#[97, 10]⟩, .string ⟨#[49, 50, 51, 52, 53, 54, 55, 56, 57, 48, 49, 50, 51, 52, 53, 54, 55, 56, 57, 48, 49, 50, 51, 52, 53, 54, 55, 56, 57, 48, 49, 50, 51, 52, 53, 54, 55, 56, 57, 48, 49]⟩] 9)
        have oRA := OR3.out.alloc (.cells #[.string ⟨#[]⟩, .string ⟨#[97, 46]⟩, .string ⟨#[32, 97]⟩, .string ⟨#[97, 32]⟩, .string ⟨#[97, 32, 32, 98]⟩, .string ⟨#[97, 10]⟩, .string ⟨#[49, 50, 51, 52, 53, 54, 55, 56, 57, 48, 49, 50, 51, 52, 53, 54, 55, 56, 57, 48, 49, 50, 51, 52, 53, 54, 55, 56, 57, 48, 49, 50, 51, 52, 53, 54, 55, 56, 57, 48, 49]⟩] 9)
        go_wp2_with fail
        refine (pick_to B (m + 15) 7 _ dA.1 (by omega) (by omega) (by omega)).mono ?_
        rintro e w4 ⟨q', q0, q1, rfl, r4, g4⟩
        have hc := fun i (u : Value) (hu : (#[.string ⟨#[]⟩, .string ⟨#[97, 46]⟩, .string ⟨#[32, 97]⟩, .string ⟨#[97, 32]⟩, .string ⟨#[97, 32, 32, 98]⟩, .string ⟨#[97, 10]⟩, .string ⟨#[49, 50, 51, 52, 53, 54, 55, 56, 57, 48, 49, 50, 51, 52, 53, 54, 55, 56, 57, 48, 49, 50, 51, 52, 53, 54, 55, 56, 57, 48, 49, 50, 51, 52, 53, 54, 55, 56, 57, 48, 49]⟩] : Array Value)[i]? = some u) => g4.cell (a := ⟨w3.heap.size, i, none⟩) (v := u) ((World.cell?_alloc_at _ _ _ _ rfl).trans hu) (by have := D3.out.1.lt; simp; omega)
        have D4 := Lib.hid (dA.pick g4 r4)
        have OT4 := Lib.hid (oTA.kept g4 (.inr (by simp [Value.ownBlock]; omega)))
        have OR4 := Lib.hid (oRA.kept g4 (.inr (by simp [Value.ownBlock]; omega)))
        obtain ⟨X, hX, cz⟩ : ∃ X : List UInt8, X.length ≤ 41 ∧ w4.cell? ⟨w3.heap.size, q'.toNat, none⟩ = some (.string (bs X)) := by
          rcases (by omega : q' = 0 ∨ q' = 1 ∨ q' = 2 ∨ q' = 3 ∨ q' = 4 ∨ q' = 5 ∨ q' = 6) with rfl | rfl | rfl | rfl | rfl | rfl | rfl
          · exact ⟨[], by simp, hc 0 _ rfl⟩
          · exact ⟨[97, 46], by simp, hc 1 _ rfl⟩
          · exact ⟨[32, 97], by simp, hc 2 _ rfl⟩
          · exact ⟨[97, 32], by simp, hc 3 _ rfl⟩
          · exact ⟨[97, 32, 32, 98], by simp, hc 4 _ rfl⟩
          · exact ⟨[97, 10], by simp, hc 5 _ rfl⟩
          · exact ⟨[49, 50, 51, 52, 53, 54, 55, 56, 57, 48, 49, 50, 51, 52, 53, 54, 55, 56, 57, 48, 49, 50, 51, 52, 53, 54, 55, 56, 57, 48, 49, 50, 51, 52, 53, 54, 55, 56, 57, 48, 49], by simp, hc 6 _ rfl⟩
        have st := OT4.out.stored 0 (.string (bs X))
        have OT5 := Lib.hid st.1
        have OR5 := Lib.hid (OR4.out.kept st.2 (.inr (by simp [Value.ownBlock]; omega)))
        have D5 := Lib.hid (D4.out.push OT4.out (by omega) st.2)
        have tz := OT4.out.frozenAt 0
        obtain ⟨tc0', tc1', tc2'⟩ := own3 OT4.out
        clear st hc dA oTA oRA r4 g4 D3 OT3 OR3
        obtain ⟨tc0, tc1, tc2⟩ := own3 OT5.out
        obtain ⟨rc0, rc1, rc2⟩ := own3 OR5.out
        have rz0 := OR5.out.frozenAt 0
        have rz1 := OR5.out.frozenAt 1
        have rz2 := OR5.out.frozenAt 2
        obtain ⟨rf0, rf1, rf2⟩ := own3_read OR5.out (.string (bs X)) (.int .i64 p) (.int .i64 q)
        have s0 := OR5.out.stored 0 (.string (bs X))
        have s1 := s0.1.stored 1 (.int .i64 p)
        have s2 := s1.1.stored 2 (.int .i64 q)
        have DF := Lib.hid (((D5.out.push OR5.out (Nat.le_refl _) s0.2).push s0.1 (Nat.le_refl _) s1.2).push s1.1 (Nat.le_refl _) s2.2)
        clear s0 s1 s2
        go_wp2
        refine bodyPost_ret (v := .agg #[(.string (bs X)), (.int .i64 p), (.int .i64 q)]) (by simp [results, Tryz.results12, go_sem, rf0, rf1, rf2]) rfl ⟨X, p, q, hX, rfl, DF.out.mono (by omega)⟩
      · have dA := D3.out.alloc (.cells #[.int .i64 (-1), .int .i64 5] 3)
        have oTA := OT3.out.alloc (.cells #[.int .i64 (-1), .int .i64 5] 3)
        have oRA := OR3.out.alloc (.cells #[.int .i64 (-1), .int .i64 5] 3)
        go_wp2_with fail
        refine (pick_to B (m + 15) 2 _ dA.1 (by omega) (by omega) (by omega)).mono ?_
        rintro e w4 ⟨q', q0, q1, rfl, r4, g4⟩
        have hc := fun i (u : Value) (hu : (#[.int .i64 (-1), .int .i64 5] : Array Value)[i]? = some u) => g4.cell (a := ⟨w3.heap.size, i, none⟩) (v := u) ((World.cell?_alloc_at _ _ _ _ rfl).trans hu) (by have := D3.out.1.lt; simp; omega)
        have D4 := Lib.hid (dA.pick g4 r4)
        have OT4 := Lib.hid (oTA.kept g4 (.inr (by simp [Value.ownBlock]; omega)))
        have OR4 := Lib.hid (oRA.kept g4 (.inr (by simp [Value.ownBlock]; omega)))
        obtain ⟨X, cz⟩ : ∃ X : Int, w4.cell? ⟨w3.heap.size, q'.toNat, none⟩ = some (.int .i64 X) := by
          rcases (by omega : q' = 0 ∨ q' = 1) with rfl | rfl
          · exact ⟨-1, hc 0 _ rfl⟩
          · exact ⟨5, hc 1 _ rfl⟩
        have st := OT4.out.stored 1 (.int .i64 X)
        have OT5 := Lib.hid st.1
        have OR5 := Lib.hid (OR4.out.kept st.2 (.inr (by simp [Value.ownBlock]; omega)))
        have D5 := Lib.hid (D4.out.push OT4.out (by omega) st.2)
        have tz := OT4.out.frozenAt 1
        obtain ⟨tc0', tc1', tc2'⟩ := own3 OT4.out
        clear st hc dA oTA oRA r4 g4 D3 OT3 OR3
        obtain ⟨tc0, tc1, tc2⟩ := own3 OT5.out
        obtain ⟨rc0, rc1, rc2⟩ := own3 OR5.out
        have rz0 := OR5.out.frozenAt 0
        have rz1 := OR5.out.frozenAt 1
        have rz2 := OR5.out.frozenAt 2
        obtain ⟨rf0, rf1, rf2⟩ := own3_read OR5.out (.string (bs l)) (.int .i64 X) (.int .i64 q)
        have s0 := OR5.out.stored 0 (.string (bs l))
        have s1 := s0.1.stored 1 (.int .i64 X)
        have s2 := s1.1.stored 2 (.int .i64 q)
        have DF := Lib.hid (((D5.out.push OR5.out (Nat.le_refl _) s0.2).push s0.1 (Nat.le_refl _) s1.2).push s1.1 (Nat.le_refl _) s2.2)
        clear s0 s1 s2
        go_wp2
        refine bodyPost_ret (v := .agg #[(.string (bs l)), (.int .i64 X), (.int .i64 q)]) (by simp [results, Tryz.results12, go_sem, rf0, rf1, rf2]) rfl ⟨l, X, q, HLL.out, rfl, DF.out.mono (by omega)⟩
      · have dA := D3.out.alloc (.cells #[.int .i64 0, .int .i64 1000] 3)
        have oTA := OT3.out.alloc (.cells #[.int .i64 0, .int .i64 1000] 3)
        have oRA := OR3.out.alloc (.cells #[.int .i64 0, .int .i64 1000] 3)
        go_wp2_with fail
        refine (pick_to B (m + 15) 2 _ dA.1 (by omega) (by omega) (by omega)).mono ?_
        rintro e w4 ⟨q', q0, q1, rfl, r4, g4⟩
        have hc := fun i (u : Value) (hu : (#[.int .i64 0, .int .i64 1000] : Array Value)[i]? = some u) => g4.cell (a := ⟨w3.heap.size, i, none⟩) (v := u) ((World.cell?_alloc_at _ _ _ _ rfl).trans hu) (by have := D3.out.1.lt; simp; omega)
        have D4 := Lib.hid (dA.pick g4 r4)
        have OT4 := Lib.hid (oTA.kept g4 (.inr (by simp [Value.ownBlock]; omega)))
        have OR4 := Lib.hid (oRA.kept g4 (.inr (by simp [Value.ownBlock]; omega)))
        obtain ⟨X, cz⟩ : ∃ X : Int, w4.cell? ⟨w3.heap.size, q'.toNat, none⟩ = some (.int .i64 X) := by
          rcases (by omega : q' = 0 ∨ q' = 1) with rfl | rfl
          · exact ⟨0, hc 0 _ rfl⟩
          · exact ⟨1000, hc 1 _ rfl⟩
        have st := OT4.out.stored 2 (.int .i64 X)
        have OT5 := Lib.hid st.1
        have OR5 := Lib.hid (OR4.out.kept st.2 (.inr (by simp [Value.ownBlock]; omega)))
        have D5 := Lib.hid (D4.out.push OT4.out (by omega) st.2)
        have tz := OT4.out.frozenAt 2
        obtain ⟨tc0', tc1', tc2'⟩ := own3 OT4.out
        clear st hc dA oTA oRA r4 g4 D3 OT3 OR3
        obtain ⟨tc0, tc1, tc2⟩ := own3 OT5.out
        obtain ⟨rc0, rc1, rc2⟩ := own3 OR5.out
        have rz0 := OR5.out.frozenAt 0
        have rz1 := OR5.out.frozenAt 1
        have rz2 := OR5.out.frozenAt 2
        obtain ⟨rf0, rf1, rf2⟩ := own3_read OR5.out (.string (bs l)) (.int .i64 p) (.int .i64 X)
        have s0 := OR5.out.stored 0 (.string (bs l))
        have s1 := s0.1.stored 1 (.int .i64 p)
        have s2 := s1.1.stored 2 (.int .i64 X)
        have DF := Lib.hid (((D5.out.push OR5.out (Nat.le_refl _) s0.2).push s0.1 (Nat.le_refl _) s1.2).push s1.1 (Nat.le_refl _) s2.2)
        clear s0 s1 s2
        go_wp2
        refine bodyPost_ret (v := .agg #[(.string (bs l)), (.int .i64 p), (.int .i64 X)]) (by simp [results, Tryz.results12, go_sem, rf0, rf1, rf2]) rfl ⟨l, p, X, HLL.out, rfl, DF.out.mono (by omega)⟩
end Go.Proofs.YtfallcoehmmbeaaGreatDoor

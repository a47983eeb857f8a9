/-
  PROVED HERE: the single operations of a region that draws its order, each told by the range of what it hands back. Conditions: each theorem's own.
-/
import Derived.Test.YtgbbodmggbeflaaRegion
import Derived.Test.YtgbbodmggbeflaaDraw
set_option linter.unusedVariables false
set_option linter.unusedSimpArgs false
namespace Go.Proofs.Ytgbbodmggbeflaa
open Go.RowKit

/-- What is told of a value: a number in a range; the reader; a row of n numbers in a range; the address of such a number; nothing. -/
inductive Ty where
  | num (lo hi : Int) | rd | sl (n : Nat) (lo hi : Int) | el (lo hi : Int) | non | is (v : Value)
def Ty.ok (B : Nat) : Ty → Value → World → Prop
  | .num lo hi, v, _ => ∃ k : Int, v = .int .i64 k ∧ lo ≤ k ∧ k ≤ hi
  | .rd, v, _ => v = .pointer (some ⟨B, 0, none⟩)
  | .sl n lo hi, v, w => ∃ g, v = .slice (some ⟨g, 0, none⟩) n n ∧ g ≠ B ∧ ∀ i, i < n → ∃ k, w.cell? ⟨g, i, none⟩ = some (.int .i64 k) ∧ lo ≤ k ∧ k ≤ hi
  | .el lo hi, v, w => ∃ g i, v = .pointer (some ⟨g, i, none⟩) ∧ g ≠ B ∧ ∃ k, w.cell? ⟨g, i, none⟩ = some (.int .i64 k) ∧ lo ≤ k ∧ k ≤ hi
  | .non, _, _ => True
  | .is u, v, _ => v = u

theorem Ty.ok.kept {B : Nat} {T : Ty} {v : Value} {w w' : World} (h : T.ok B v w) (hg : w.grownBy w' (some B)) : T.ok B v w' := by
  cases T with
  | num lo hi => exact h
  | rd => exact h
  | sl n lo hi =>
    obtain ⟨g, hv, hne, hc⟩ := h
    refine ⟨g, hv, hne, fun i hi => ?_⟩
    obtain ⟨k, hk, h2⟩ := hc i hi
    exact ⟨k, hg.cell hk (by simpa using hne), h2⟩
  | el lo hi =>
    obtain ⟨g, i, hv, hne, k, hk, h2⟩ := h
    exact ⟨g, i, hv, hne, k, hg.cell hk (by simpa using hne), h2⟩
  | non => trivial
  | is u => exact h

/-- The reader stands, not more than m bytes in. -/
def RdTo (B m : Nat) (w : World) : Prop := ∃ p, p ≤ m ∧ Rd w B p
theorem RdTo.mono {B m m' : Nat} {w : World} (h : RdTo B m w) (hm : m ≤ m') : RdTo B m' w := by
  obtain ⟨p, hp, hr⟩ := h
  exact ⟨p, by omega, hr⟩

/-- What one operation leaves. -/
def OkStep (B m : Nat) (T : Ty) (d : Nat) (a : Act) (w : World) (a' : Act) (w' : World) : Prop := ∃ v, a' = a.put (some d) v ∧ T.ok B v w' ∧ w.grownBy w' (some B) ∧ RdTo B (m + 1) w'

section
variable {o : Oper} {a : Act} {w : World} {Q : Exit → Act → World → Prop} {B m d : Nat} {T : Ty}

theorem step_pure {v : Value} (hd : o.dst = some d) (hI : RdTo B m w) (h : (execOp a.eval o).run Try.prog w = .ok (.value v) w) (hT : T.ok B v w) : o.wp Try.prog a w (OkStep B m T d a w) Q := by
  unfold Oper.wp
  rw [h]
  show OkStep B m T d a w (a.put o.dst v) w
  rw [hd]
  exact ⟨v, rfl, hT, grownBy_refl _ _, hI.mono (by omega)⟩

theorem step_move (x : Operand) (ho : o.op = .move x ∨ o.op = .assign x) (hd : o.dst = some d) (hI : RdTo B m w) (hT : T.ok B (a.eval x) w) : o.wp Try.prog a w (OkStep B m T d a w) Q := by
  refine step_pure hd hI ?_ hT
  rcases ho with ho | ho <;> simp [execOp, ho, go_sem]

theorem step_add (x y : Operand) (t t' : TypeId) {k l a1 b1 a2 b2 lo hi : Int} (ho : o.op = .binOp .add t x y t') (hd : o.dst = some d) (hI : RdTo B m w) (hx : a.eval x = .int .i64 k) (hk : a1 ≤ k ∧ k ≤ b1) (hy : a.eval y = .int .i64 l) (hl : a2 ≤ l ∧ l ≤ b2)
    (h1 : lo ≤ a1 + a2) (h2 : b1 + b2 ≤ hi) (h3 : -9223372036854775808 ≤ lo) (h4 : hi ≤ 9223372036854775807) : o.wp Try.prog a w (OkStep B m (.num lo hi) d a w) Q := by
  refine step_pure (v := .int .i64 (k + l)) hd hI ?_ ⟨_, rfl, by omega, by omega⟩
  have e : IntKind.i64.wrap (k + l) = k + l := IntWalk.i64_in _ (by omega)
  simp only [execOp, ho, hx, hy]
  simp [go_sem, e]
theorem step_sub (x y : Operand) (t t' : TypeId) {k l a1 b1 a2 b2 lo hi : Int} (ho : o.op = .binOp .sub t x y t') (hd : o.dst = some d) (hI : RdTo B m w) (hx : a.eval x = .int .i64 k) (hk : a1 ≤ k ∧ k ≤ b1) (hy : a.eval y = .int .i64 l) (hl : a2 ≤ l ∧ l ≤ b2)
    (h1 : lo ≤ a1 - b2) (h2 : b1 - a2 ≤ hi) (h3 : -9223372036854775808 ≤ lo) (h4 : hi ≤ 9223372036854775807) : o.wp Try.prog a w (OkStep B m (.num lo hi) d a w) Q := by
  refine step_pure (v := .int .i64 (k - l)) hd hI ?_ ⟨_, rfl, by omega, by omega⟩
  have e : IntKind.i64.wrap (k - l) = k - l := IntWalk.i64_in _ (by omega)
  simp only [execOp, ho, hx, hy]
  simp [go_sem, e]
/-- times a constant that is not negative -/
theorem step_mulc (x : Operand) (t t' : TypeId) {c k a1 b1 lo hi : Int} (ho : o.op = .binOp .mul t x (.const (.int .i64 c)) t') (hd : o.dst = some d) (hI : RdTo B m w) (hx : a.eval x = .int .i64 k) (hk : a1 ≤ k ∧ k ≤ b1) (hc : 0 ≤ c)
    (h1 : lo ≤ a1 * c) (h2 : b1 * c ≤ hi) (h3 : -9223372036854775808 ≤ lo) (h4 : hi ≤ 9223372036854775807) : o.wp Try.prog a w (OkStep B m (.num lo hi) d a w) Q := by
  have q1 : a1 * c ≤ k * c := Int.mul_le_mul_of_nonneg_right hk.1 hc
  have q2 : k * c ≤ b1 * c := Int.mul_le_mul_of_nonneg_right hk.2 hc
  refine step_pure (v := .int .i64 (k * c)) hd hI ?_ ⟨_, rfl, by omega, by omega⟩
  have e : IntKind.i64.wrap (k * c) = k * c := IntWalk.i64_in _ (by omega)
  simp only [execOp, ho, hx]
  simp [go_sem, e]
/-- a number that is not negative, by a constant -/
theorem step_quoc (x : Operand) (t t' : TypeId) {c k a1 b1 lo hi : Int} (ho : o.op = .binOp .quo t x (.const (.int .i64 c)) t') (hd : o.dst = some d) (hI : RdTo B m w) (hx : a.eval x = .int .i64 k) (hk : a1 ≤ k ∧ k ≤ b1) (h0 : 0 ≤ a1) (hc : 0 < c)
    (h1 : lo ≤ 0) (h2 : b1 / c ≤ hi) (h3 : -9223372036854775808 ≤ lo) (h4 : hi ≤ 9223372036854775807) : o.wp Try.prog a w (OkStep B m (.num lo hi) d a w) Q := by
  have q1 : 0 ≤ k / c := Int.ediv_nonneg (by omega) (by omega)
  have q2 : k / c ≤ b1 / c := Int.ediv_le_ediv hc hk.2
  refine step_pure (v := .int .i64 (k / c)) hd hI ?_ ⟨_, rfl, by omega, by omega⟩
  have e : IntKind.i64.wrap (k.tdiv c) = k / c := by
    rw [Int.tdiv_eq_ediv_of_nonneg (by omega)]
    exact IntWalk.i64_in _ (by omega)
  simp only [execOp, ho, hx]
  simp [go_sem, e]
  omega

theorem step_pick (x : Tmp) (t : Array TypeId) {n : Int} (ho : o.op = .call { callee := .value (.func 53), args := #[.tmp x, .const (.int .i64 n)], argTypes := t }) (hd : o.dst = some d) (hI : RdTo B m w) (hm : m ≤ 1000000000)
    (hx : a.eval (.tmp x) = .pointer (some ⟨B, 0, none⟩)) (hn : 1 ≤ n) (hn' : n ≤ 9223372036854775807) {hi : Int} (hh : n - 1 ≤ hi) : o.wp Try.prog a w (OkStep B m (.num 0 hi) d a w) Q := by
  obtain ⟨p, hp, hr⟩ := hI
  have hrun : (execOp a.eval o).run Try.prog w = .ok (.enter 53 #[.pointer (some ⟨B, 0, none⟩), .int .i64 n]) w := by
    simp only [execOp, ho]
    simp [go_sem]
    simpa [Act.eval] using hx
  unfold Oper.wp
  rw [hrun, Oper.upon_enter]
  refine (pick_any B p n w hr (by omega) hn hn').mono ?_
  rintro e w1 ⟨k, h1, h2, rfl, r1, g1, _⟩
  show OkStep B m (.num 0 hi) d a w (a.put o.dst (.int .i64 k)) w1
  rw [hd]
  exact ⟨_, rfl, ⟨k, rfl, h1, by omega⟩, g1, p + 1, by omega, r1⟩

theorem step_build (l : List Int) (n : Nat) (t : TypeId) {lo hi : Int} (hd : o.dst = some d) (hI : RdTo B m w) (hn : l.length = n)
    (h : (execOp a.eval o).run Try.prog w = .ok (.value (.slice (some ⟨w.heap.size, 0, none⟩) n n)) (w.alloc (.cells (l.map (Value.int .i64)).toArray t)))
    (hl : ∀ z ∈ l, lo ≤ z ∧ z ≤ hi) : o.wp Try.prog a w (OkStep B m (.sl n lo hi) d a w) Q := by
  obtain ⟨p, hp, hr⟩ := hI
  subst hn
  unfold Oper.wp
  rw [h]
  show OkStep B m (.sl l.length lo hi) d a w (a.put o.dst _) _
  rw [hd]
  refine ⟨_, rfl, ⟨w.heap.size, rfl, by have := hr.lt; omega, fun i hi => ?_⟩, World.grownBy_alloc _ _ _, p, by omega, hr.kept (World.grownBy_alloc _ _ none) (by intro k h; cases h)⟩
  obtain ⟨z, hz, hc⟩ := lit_cell w l t i hi
  exact ⟨z, hc, hl z hz⟩

theorem step_index (x y : Operand) (t : TypeId) {n : Nat} {lo hi a1 b1 : Int} (ho : o.op = .indexAddr t x y) (ht : Try.prog.underlying t = some (.slice 3)) (hd : o.dst = some d) (hI : RdTo B m w)
    (hx : (Ty.sl n lo hi).ok B (a.eval x) w) (hy : (Ty.num a1 b1).ok B (a.eval y) w) (h0 : 0 ≤ a1) (h1 : b1 < n) : o.wp Try.prog a w (OkStep B m (.el lo hi) d a w) Q := by
  obtain ⟨g, hx, hne, hc⟩ := hx
  obtain ⟨k, hy, hk0, hk1⟩ := hy
  obtain ⟨z, hz, hb⟩ := hc k.toNat (by omega)
  refine step_pure (v := .pointer (some ⟨g, k.toNat, none⟩)) hd hI ?_ ⟨g, k.toNat, rfl, hne, z, hz, hb⟩
  have q0 : 0 ≤ k := by omega
  have q1 : k < n := by omega
  have c1 : Try.prog.cellsOf 3 = 1 := by kernel_rfl
  simp only [execOp, ho, hx, hy]
  obtain ⟨u, hu⟩ : ∃ u, u = k.toNat := ⟨_, rfl⟩
  rw [← hu]
  simp [go_sem, ht, q0, q1, ← hu]
theorem step_load (x : Operand) {lo hi : Int} (ho : o.op = .load 3 x) (hd : o.dst = some d) (hI : RdTo B m w) (hx : (Ty.el lo hi).ok B (a.eval x) w) : o.wp Try.prog a w (OkStep B m (.num lo hi) d a w) Q := by
  obtain ⟨g, i, hx, hne, k, hc, hb⟩ := hx
  refine step_pure (v := .int .i64 k) hd hI ?_ ⟨k, rfl, hb⟩
  simp only [execOp, ho, hx]
  simp [go_sem, hc]
end

/-- The frame with the values laid in. -/
def fill : Array Value → List Nat → List Value → Array Value
  | t, d :: ds, v :: vs => fill (t.setIfInBounds d v) ds vs
  | t, _, _ => t
theorem fill_size : ∀ (ds : List Nat) (vs : List Value) (t : Array Value), (fill t ds vs).size = t.size
  | [], _, _ => by simp [fill]
  | _ :: _, [], _ => by simp [fill]
  | d :: ds, v :: vs, t => by rw [fill, fill_size ds vs]; simp
theorem fill_other : ∀ (ds : List Nat) (vs : List Value) (t : Array Value) (k : Nat), k ∉ ds → (fill t ds vs)[k]? = t[k]?
  | [], _, _, _, _ => by simp [fill]
  | _ :: _, [], _, _, _ => by simp [fill]
  | d :: ds, v :: vs, t, k, h => by
    rw [fill, fill_other ds vs _ k (fun hm => h (List.mem_cons_of_mem _ hm)), Array.getElem?_setIfInBounds, if_neg (fun e => h (by rw [e]; exact List.mem_cons_self))]
theorem fill_at : ∀ (ds : List Nat) (vs : List Value) (t : Array Value) (i : Nat), ds.Nodup → ds.length = vs.length → (∀ d ∈ ds, d < t.size) → i < ds.length → (fill t ds vs)[ds.getD i 0]? = some (vs.getD i undef)
  | [], _, _, _, _, _, _, h => by simp at h
  | _ :: _, [], _, _, _, h, _, _ => by simp at h
  | d :: ds, v :: vs, t, 0, hn, hl, hs, _ => by
    rw [fill, List.getD_cons_zero, List.getD_cons_zero, fill_other ds vs _ d (List.nodup_cons.1 hn).1]
    simp [hs d List.mem_cons_self]
  | d :: ds, v :: vs, t, i + 1, hn, hl, hs, hi => by
    rw [fill, List.getD_cons_succ, List.getD_cons_succ]
    exact fill_at ds vs _ i (List.nodup_cons.1 hn).2 (by simpa using hl) (fun x hx => by simpa using hs x (List.mem_cons_of_mem _ hx)) (by simpa using hi)

/-- What a kernel reckons of a region: its size; its slots, all other; its edges lead back. -/
def shapeB (ops : Array Oper) (n : Nat) (dst : List Nat) (size : Nat) : Bool :=
  (ops.size == n) && (dst.length == n) && decide dst.Nodup && dst.all (· < size) && (List.range n).all fun i => match ops[i]? with | some o => o.after.all fun e => !Region.binds .any e || decide (e.on < i) | none => true

theorem draw_region {ops : Array Oper} {Q : Exit → Act → World → Prop} {id : Nat} (a0 : Act) (w0 : World) (B p0 n : Nat) (dst : List Nat) (tys : List Ty)
    (hm : Try.prog.follows .mixedOrders = true) (hB : shapeB ops n dst a0.tmps.size = true) (h0 : Rd w0 B p0) (hp : p0 + n ≤ 1000000000)
    (hst : ∀ (m i : Nat) (o : Oper) (a : Act) (w : World), m ≤ 1000000000 → ops[i]? = some o → Framed (fun i => dst.getD i 0) n a0 a → RdTo B m w →
      (∀ e ∈ o.after, Region.binds .any e = true → (tys.getD e.on .non).ok B (a.tmps.getD (dst.getD e.on 0) undef) w) → wpOp Try.prog ops Q i (OkStep B m (tys.getD i .non) (dst.getD i 0) a w) a w)
    (hend : ∀ vs w, vs.length = n → (∀ i, i < n → (tys.getD i .non).ok B (vs.getD i undef) w) → RdTo B (p0 + n) w → w0.grownBy w (some B) → Q .normal { tmps := fill a0.tmps dst vs, defers := a0.defers } w) :
    (Code.region id ops true).wp Try.prog Q a0 w0 := by
  simp only [shapeB, Bool.and_eq_true, beq_iff_eq, decide_eq_true_eq, List.all_eq_true] at hB
  obtain ⟨⟨⟨⟨hn, hdl⟩, hnd⟩, hsz⟩, hlow⟩ := hB
  have hinj : ∀ i, i < n → ∀ j, j < n → dst.getD i 0 = dst.getD j 0 → i = j := by
    intro i hi j hj h
    have e1 : dst.getD i 0 = dst[i] := by simp [List.getD, hdl, hi]
    have e2 : dst.getD j 0 = dst[j] := by simp [List.getD, hdl, hj]
    rw [e1, e2] at h
    exact (List.getElem_inj hnd).1 h
  have hmem : ∀ i, i < n → dst.getD i 0 ∈ dst := by
    intro i hi
    have e1 : dst.getD i 0 = dst[i] := by simp [List.getD, hdl, hi]
    rw [e1]
    exact List.getElem_mem _
  refine region_inv hm a0 w0 n hn (fun c w => RdTo B (p0 + c) w ∧ w0.grownBy w (some B)) (fun i v w => (tys.getD i .non).ok B v w) (fun w w' => w.grownBy w' (some B))
    (fun j v w w' hR h => h.kept hR) (fun i => dst.getD i 0) hinj (fun i hi => hsz _ (hmem i hi)) ?_ (fun c w hc h => ⟨h.1.mono (by omega), h.2⟩) ?_ ⟨⟨p0, by omega, h0⟩, ⟨rfl, rfl, rfl, Nat.le_refl _, fun _ _ _ => rfl⟩⟩ ?_
  · intro i o ho e he hb
    have hi : i < n := by have := (Array.getElem?_eq_some_iff.1 ho).1; omega
    have h := hlow i (List.mem_range.2 hi)
    rw [ho] at h
    have h2 := (Array.all_eq_true'.1 h) e he
    rw [hb] at h2
    simpa using h2
  · intro c i o a w hc ho hF hI hA
    refine wpOp_mono ?_ (hst (p0 + c) i o a w (by omega) ho hF hI.1 hA)
    rintro a' w' ⟨v, rfl, hT, hg, hr⟩
    exact ⟨v, rfl, hT, hg, hr, grownBy_trans hI.2 hg⟩
  · intro a w hF hI hA
    have key : a = { tmps := fill a0.tmps dst (dst.map fun d => a.tmps.getD d undef), defers := a0.defers } := by
      obtain ⟨t, df⟩ := a
      obtain ⟨h1, h2, h3⟩ := hF
      simp only at h1 h2 h3 ⊢
      subst h2
      congr 1
      apply Array.ext_getElem?
      intro k
      by_cases hk : k ∈ dst
      · obtain ⟨i, hi, rfl⟩ := List.getElem_of_mem hk
        have e := fill_at dst (dst.map fun d => t.getD d undef) a0.tmps i hnd (by simp) hsz hi
        have e1 : dst.getD i 0 = dst[i] := by simp [List.getD, hi]
        rw [e1] at e
        rw [e]
        have hlt : dst[i] < t.size := by rw [h1]; exact hsz _ (List.getElem_mem _)
        simp [List.getD, hi, Array.getD, hlt]
      · rw [fill_other dst _ _ k hk]
        refine h3 k (fun i hi e => hk (by rw [← e]; exact hmem i hi))
    rw [key]
    refine hend _ w (by simpa using hdl) (fun i hi => ?_) hI.1 hI.2
    have h := hA i hi
    have e1 : dst.getD i 0 = dst[i] := by simp [List.getD, hdl, hi]
    have e2 : (dst.map fun d => a.tmps.getD d undef).getD i undef = a.tmps.getD (dst.getD i 0) undef := by
      rw [e1]; simp [List.getD, hdl, hi]
    rw [e2]
    exact h
end Go.Proofs.Ytgbbodmggbeflaa

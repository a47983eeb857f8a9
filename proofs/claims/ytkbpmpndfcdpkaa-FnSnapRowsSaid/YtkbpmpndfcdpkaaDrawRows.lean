/-
  PROVED HERE: what the drawing functions of rows hand back. Conditions: each theorem's own.
-/
import Derived.Test.YtkbpmpndfcdpkaaRegDraw
import Derived.Test.YtkbpmpndfcdpkaaRowC
import Derived.Test.YtkbpmpndfcdpkaaSnapR
import Derived.Deep.Cut
namespace Go.Proofs.Ytkbpmpndfcdpkaa
open Go.RowKit

/-- A pick: some number below n; the reader goes on. -/
def PickTo (n : Int) (m : Nat) (w : World) (B : Nat) (e : Ending) (w' : World) : Prop :=
  ∃ k : Int, 0 ≤ k ∧ k < n ∧ e = .returned (.int .i64 k) ∧ RdTo B (m + 1) w' ∧ w.grownBy w' (some B)
theorem pick_to (B m : Nat) (n : Int) (w : World) (h : RdTo B m w) (hm : m ≤ 1000000000) (hn : 1 ≤ n) (hn' : n ≤ 9223372036854775807) :
    Calls Try.prog 32 #[.pointer (some ⟨B, 0, none⟩), .int .i64 n] w (PickTo n m w B) := by
  obtain ⟨p, hp, hr⟩ := h
  refine (pick_any B p n w hr (by omega) hn hn').mono ?_
  rintro e w1 ⟨k, h1, h2, rfl, r1, g1, _⟩
  exact ⟨k, h1, h2, rfl, ⟨p + 1, by omega, r1⟩, g1⟩
def OddTo (m : Nat) (w : World) (B : Nat) (e : Ending) (w' : World) : Prop :=
  ∃ b : Bool, e = .returned (.bool b) ∧ RdTo B (m + 1) w' ∧ w.grownBy w' (some B)
theorem odd_to (B m : Nat) (n : Int) (w : World) (h : RdTo B m w) (hm : m ≤ 1000000000) (hn : 0 ≤ n) (hn' : n ≤ 1000000) :
    Calls Try.prog 44 #[.pointer (some ⟨B, 0, none⟩), .int .i64 n] w (OddTo m w B) := by
  by_cases h0 : 0 < n
  · go_enter Try.func44, Try.ntmps44
    go_wp2_with fail
    refine (pick_to B m n w h hm (by omega) (by omega)).mono ?_
    rintro e w1 ⟨k, h1, h2, rfl, r1, g1⟩
    go_wp2
    go_ret
    exact ⟨_, rfl, r1, g1⟩
  · go_enter Try.func44, Try.ntmps44
    go_wp2
    go_ret
    exact ⟨_, rfl, h.mono (by omega), grownBy_refl _ _⟩

theorem RdTo.kept {w w' : World} {B m : Nat} {row : Option Nat} (h : RdTo B m w) (hg : w.grownBy w' row) (hr : ∀ k, row = some k → w.heap.size ≤ k) : RdTo B m w' := by
  obtain ⟨p, hp, hr'⟩ := h
  exact ⟨p, hp, hr'.kept hg hr⟩
theorem RdTo.past {w w' : World} {B m : Nat} {row : Option Nat} (h : RdTo B m w) (hg : w.grownBy w' row) (hr : ∀ k, row = some k → B < k) : RdTo B m w' := by
  obtain ⟨p, hp, hr'⟩ := h
  exact ⟨p, hp, hr'.past hg hr⟩
theorem RdTo.lt {w : World} {B m : Nat} (h : RdTo B m w) : B < w.heap.size := by
  obtain ⟨p, _, hr⟩ := h
  exact hr.lt

/-- It returns one row; the reader goes on. -/
def RowTo (m : Nat) (w : World) (B : Nat) (e : Ending) (w' : World) : Prop :=
  ∃ x : DRow, e = .returned (.agg #[.int .i64 x.f0, .bool x.f1, .int .i64 x.f2, .int .i64 x.f3]) ∧ RdTo B (m + 10) w' ∧ w.grownBy w' (some B)

/-- A local struct of four cells (number, bool, number, number) at block D. -/
def At (w : World) (D : Nat) : Prop := ∃ x : DRow, w.heap[D]? = some (.cells #[.int .i64 x.f0, .bool x.f1, .int .i64 x.f2, .int .i64 x.f3] 44 (0, 0))
/-- In the midst of drawing a row: the result's cell at R, the local at D. -/
def St (w wx : World) (B R D m : Nat) : Prop := At wx R ∧ At wx D ∧ RdTo B m wx ∧ w.grownBy wx (some B) ∧ w.heap.size ≤ R ∧ R < D ∧ B < w.heap.size

theorem At.kept {w w' : World} {D : Nat} {row : Option Nat} (h : At w D) (hg : w.grownBy w' row) (hne : some D ≠ row) : At w' D := by
  obtain ⟨x, hx⟩ := h
  exact ⟨x, by rw [hg.block D (Array.getElem?_eq_some_iff.1 hx).1 hne]; exact hx⟩
theorem At.cell {w : World} {D : Nat} (h : At w D) : ∃ x : DRow, w.cell? ⟨D, 0, none⟩ = some (.int .i64 x.f0) ∧ w.cell? ⟨D, 1, none⟩ = some (.bool x.f1) ∧ w.cell? ⟨D, 2, none⟩ = some (.int .i64 x.f2) ∧ w.cell? ⟨D, 3, none⟩ = some (.int .i64 x.f3) ∧ ∀ i, w.frozen? ⟨D, i, none⟩ = false := by
  obtain ⟨x, hx⟩ := h
  refine ⟨x, ?_, ?_, ?_, ?_, fun i => frozen_of_row w D i _ _ hx⟩ <;> rw [cell_of_row w D _ _ _ _ hx] <;> rfl
theorem At.lt {w : World} {D : Nat} (h : At w D) : D < w.heap.size := by
  obtain ⟨x, hx⟩ := h
  exact (Array.getElem?_eq_some_iff.1 hx).1
theorem St.pick {w wx w' : World} {B R D m : Nat} (h : St w wx B R D m) (hg : wx.grownBy w' (some B)) (hr : RdTo B (m + 1) w') : St w w' B R D (m + 1) := by
  obtain ⟨h1, h2, h3, h4, h5, h6, h7⟩ := h
  exact ⟨h1.kept hg (by simp; omega), h2.kept hg (by simp; omega), hr, grownBy_trans h4 hg, h5, h6, h7⟩
theorem St.set {w wx : World} {B R D m o : Nat} {E : Nat} (h : St w wx B R D m) (hE : E = R ∨ E = D) (u : Value) (ho : (∃ k, u = .int .i64 k ∧ (o = 0 ∨ o = 2 ∨ o = 3)) ∨ ∃ b, u = .bool b ∧ o = 1) : St w (wx.setCell ⟨E, o, none⟩ u) B R D m := by
  obtain ⟨h1, h2, ⟨p, hp, hr⟩, h4, h5, h6, h7⟩ := h
  have hAtE : At wx E := by rcases hE with rfl | rfl <;> assumption
  have hlt := hAtE.lt
  have hgs : wx.grownBy (wx.setCell ⟨E, o, none⟩ u) (some E) := ⟨rfl, rfl, rfl, by simp [World.setCell], fun k _ hne => Below.heap_setCell _ _ _ _ (fun e => hne (by rw [e]))⟩
  have hAt : At (wx.setCell ⟨E, o, none⟩ u) E := by
    obtain ⟨x, hx⟩ := hAtE
    have e : ∀ c : Array Value, wx.heap[E]? = some (.cells c 44 (0, 0)) → (wx.setCell ⟨E, o, none⟩ u).heap[E]? = some (.cells (c.setIfInBounds o u) 44 (0, 0)) := fun c hc => heap_setCell_same wx E o c _ u hc
    have e2 := e _ hx
    rcases ho with ⟨k, rfl, rfl | rfl | rfl⟩ | ⟨b, rfl, rfl⟩
    · exact ⟨⟨k, x.f1, x.f2, x.f3⟩, by simpa using e2⟩
    · exact ⟨⟨x.f0, x.f1, k, x.f3⟩, by simpa using e2⟩
    · exact ⟨⟨x.f0, x.f1, x.f2, k⟩, by simpa using e2⟩
    · exact ⟨⟨x.f0, b, x.f2, x.f3⟩, by simpa using e2⟩
  have hEB : E ≠ B := by rcases hE with rfl | rfl <;> omega
  have hR2 : At (wx.setCell ⟨E, o, none⟩ u) R := by
    by_cases hER : E = R
    · subst hER; exact hAt
    · exact h1.kept hgs (by simpa using fun e => hER e.symm)
  have hD2 : At (wx.setCell ⟨E, o, none⟩ u) D := by
    by_cases hED : E = D
    · subst hED; exact hAt
    · exact h2.kept hgs (by simpa using fun e => hED e.symm)
  refine ⟨hR2, hD2, ⟨p, hp, hr.past hgs (fun k hk => by cases hk; rcases hE with rfl | rfl <;> omega)⟩, ?_, h5, h6, h7⟩
  · refine ⟨h4.os, h4.tape, h4.output, by simpa [World.setCell] using h4.size, fun k hk hne => ?_⟩
    rw [hgs.block k (by have := h4.size; omega) (by simp; rcases hE with rfl | rfl <;> omega)]
    exact h4.block k hk hne

theorem St.alloc {w wx : World} {B R D m : Nat} (h : St w wx B R D m) (o : Obj) : St w (wx.alloc o) B R D m := by
  obtain ⟨h1, h2, h3, h4, h5, h6, h7⟩ := h
  exact ⟨h1.kept (World.grownBy_alloc wx o none) (by simp), h2.kept (World.grownBy_alloc wx o none) (by simp), h3.kept (World.grownBy_alloc wx o none) (by intro k h; cases h), grownBy_trans h4 (World.grownBy_alloc wx o _), h5, h6, h7⟩
theorem St.set4 {w wx : World} {B R D m : Nat} {E : Nat} (h : St w wx B R D m) (hE : E = R ∨ E = D) (u0 : Int) (u1 : Bool) (u2 u3 : Int) :
    St w ((((wx.setCell ⟨E, 0, none⟩ (.int .i64 u0)).setCell ⟨E, 1, none⟩ (.bool u1)).setCell ⟨E, 2, none⟩ (.int .i64 u2)).setCell ⟨E, 3, none⟩ (.int .i64 u3)) B R D m :=
  (((h.set hE _ (.inl ⟨u0, rfl, .inl rfl⟩)).set hE _ (.inr ⟨u1, rfl, rfl⟩)).set hE _ (.inl ⟨u2, rfl, .inr (.inl rfl)⟩)).set hE _ (.inl ⟨u3, rfl, .inr (.inr rfl)⟩)
theorem St.got {w wx : World} {B R D m : Nat} (h : St w wx B R D m) (u0 : Int) (u1 : Bool) (u2 u3 : Int) :
    let W := (((wx.setCell ⟨R, 0, none⟩ (.int .i64 u0)).setCell ⟨R, 1, none⟩ (.bool u1)).setCell ⟨R, 2, none⟩ (.int .i64 u2)).setCell ⟨R, 3, none⟩ (.int .i64 u3)
    W.cell? ⟨R, 0, none⟩ = some (.int .i64 u0) ∧ W.cell? ⟨R, 1, none⟩ = some (.bool u1) ∧ W.cell? ⟨R, 2, none⟩ = some (.int .i64 u2) ∧ W.cell? ⟨R, 3, none⟩ = some (.int .i64 u3) := by
  obtain ⟨x, hx⟩ := h.1
  have e := heap_setCell_same _ R 3 _ _ (.int .i64 u3) (heap_setCell_same _ R 2 _ _ (.int .i64 u2) (heap_setCell_same _ R 1 _ _ (.bool u1) (heap_setCell_same wx R 0 _ _ (.int .i64 u0) hx)))
  have c := fun o => cell_of_row _ R o _ _ _ e
  exact ⟨c 0, c 1, c 2, c 3⟩

set_option maxHeartbeats 8000000 in
theorem l20Row_to (B m : Nat) (n : Int) (w : World) (h : RdTo B m w) (hm : m ≤ 900000000) (hn : 0 ≤ n) (hn' : n ≤ 1000000) :
    Calls Try.prog 43 #[.pointer (some ⟨B, 0, none⟩), .int .i64 n] w (RowTo m w B) := by
  have hBw := h.lt
  go_enter Try.func43, Try.ntmps43
  go_wp2_with fail
  have h0 := h.kept (World.grownBy_alloc w (.cells #[.int .i64 0, .bool false, .int .i64 0, .int .i64 0] 44) none) (by intro k h; cases h)
  refine (pick_to B m 6 _ h0 (by omega) (by omega) (by omega)).mono ?_
  rintro e w1 ⟨k1, a1, b1, rfl, r1, g1⟩
  go_wp2_with fail
  refine (pick_to B (m + 1) 4 _ r1 (by omega) (by omega) (by omega)).mono ?_
  rintro e w2 ⟨k2, a2, b2, rfl, r2, g2⟩
  have aR0 : At (w.alloc (.cells #[.int .i64 0, .bool false, .int .i64 0, .int .i64 0] 44)) w.heap.size := ⟨⟨0, false, 0, 0⟩, heap_alloc_new w _⟩
  have aR : At w2 w.heap.size := (aR0.kept g1 (by simp; omega)).kept g2 (by simp; omega)
  have gg : w.grownBy w2 (some B) := grownBy_trans (grownBy_trans (World.grownBy_alloc _ _ _) g1) g2
  have AR := Lib.hid aR
  have GG := Lib.hid gg
  have R2 := Lib.hid r2
  clear aR aR0 gg g1 g2 r1 r2 h0 h
  go_wp2_with fail
  have st0 : St w (w2.alloc (.cells #[.int .i64 (1 + k1), .bool (k2 == 0), .int .i64 0, .int .i64 0] 44)) B w.heap.size w2.heap.size (m + 2) :=
    ⟨AR.out.kept (World.grownBy_alloc _ _ none) (by simp), ⟨⟨1 + k1, k2 == 0, 0, 0⟩, heap_alloc_new w2 _⟩, R2.out.kept (World.grownBy_alloc _ _ none) (by intro k h; cases h), grownBy_trans GG.out (World.grownBy_alloc _ _ _), Nat.le_refl _, AR.out.lt, hBw⟩
  obtain ⟨R, hR⟩ : ∃ R, R = w.heap.size := ⟨_, rfl⟩
  obtain ⟨D, hD⟩ : ∃ D, D = w2.heap.size := ⟨_, rfl⟩
  rw [← hR, ← hD] at st0
  rw [← hR, ← hD]
  clear hR hD
  have r0 := st0.2.2.1
  refine (pick_to B (m + 2) 4 _ r0 (by omega) (by omega) (by omega)).mono ?_
  rintro e w3 ⟨k3, a3, b3, rfl, r3, g3⟩
  have st1 := st0.pick g3 r3
  have S1 := Lib.hid st1
  clear st0 st1 r0 r3 g3 AR GG R2
  go_upto_if 15 with (fail)
  go_cut [] from 13 (fun wx => St w wx B R D (m + 4))
  case first =>
    cases hk : (k3 == 0)
    · go_wp2_with fail
      go_meet
      have st1 := S1.out
      exact ⟨st1.1, st1.2.1, st1.2.2.1.mono (by omega), st1.2.2.2⟩
    · go_wp2_with fail
      have st1 := S1.out
      have r3 := st1.2.2.1
      refine (pick_to B (m + 3) 9 _ r3 (by omega) (by omega) (by omega)).mono ?_
      rintro e w4 ⟨k4, a4, b4, rfl, r4, g4⟩
      have st2 := st1.pick g4 r4
      obtain ⟨x, c0, c1, c2, c3, cf⟩ := st2.2.1.cell
      go_wp2_with fail
      go_meet
      exact st2.set (.inr rfl) _ (.inl ⟨_, rfl, .inr (.inl rfl)⟩)
  case rest =>
    clear S1
    have r4 := hcut.2.2.1
    have S2 := Lib.hid hcut
    clear hcut
    go_wp2_with fail
    refine (pick_to B (m + 4) 4 _ r4 (by omega) (by omega) (by omega)).mono ?_
    rintro e w5 ⟨k5, a5, b5, rfl, r5, g5⟩
    have st3 := S2.out.pick g5 r5
    have S3 := Lib.hid st3
    clear st3 r4 r5 g5 S2
    go_upto_if 22 with (fail)
    go_cut [] from 20 (fun wx => St w wx B R D (m + 6))
    case first =>
      cases hk : (k5 == 0)
      · go_wp2_with fail
        go_meet
        have st1 := S3.out
        exact ⟨st1.1, st1.2.1, st1.2.2.1.mono (by omega), st1.2.2.2⟩
      · go_wp2_with fail
        have st1 := S3.out
        have r3 := st1.2.2.1
        refine (pick_to B (m + 5) 9 _ r3 (by omega) (by omega) (by omega)).mono ?_
        rintro e w4 ⟨k4, a4, b4, rfl, r4, g4⟩
        have st2 := st1.pick g4 r4
        obtain ⟨x, c0, c1, c2, c3, cf⟩ := st2.2.1.cell
        go_wp2_with fail
        go_meet
        exact st2.set (.inr rfl) _ (.inl ⟨_, rfl, .inr (.inr rfl)⟩)
    case rest =>
      clear S3
      have r6 := hcut.2.2.1
      have S4 := Lib.hid hcut
      clear hcut
      go_wp2_with fail
      refine (odd_to B (m + 6) n _ r6 (by omega) hn hn').mono ?_
      rintro e w7 ⟨b7, rfl, r7, g7⟩
      have st4 := S4.out.pick g7 r7
      have S5 := Lib.hid st4
      clear st4 r6 r7 g7 S4
      go_upto_if 29 with (fail)
      go_cut [] from 27 (fun wx => St w wx B R D (m + 8))
      case first =>
        cases b7
        · go_wp2_with fail
          go_meet
          have st1 := S5.out
          exact ⟨st1.1, st1.2.1, st1.2.2.1.mono (by omega), st1.2.2.2⟩
        · go_wp2_with fail
          have st6 := S5.out.alloc (.cells #[.int .i64 0, .bool false, .int .i64 0, .int .i64 0, .int .i64 1001, .bool false, .int .i64 0, .int .i64 0, .int .i64 1, .bool false, .int .i64 (-1), .int .i64 0, .int .i64 1, .bool false, .int .i64 0, .int .i64 1001] 44)
          have hT := heap_alloc_new w7 (.cells #[.int .i64 0, .bool false, .int .i64 0, .int .i64 0, .int .i64 1001, .bool false, .int .i64 0, .int .i64 0, .int .i64 1, .bool false, .int .i64 (-1), .int .i64 0, .int .i64 1, .bool false, .int .i64 0, .int .i64 1001] 44)
          have hTD : D < w7.heap.size := S5.out.2.1.lt
          have r8 := st6.2.2.1
          refine (pick_to B (m + 7) 4 _ r8 (by omega) (by omega) (by omega)).mono ?_
          rintro e w9 ⟨k9, a9, b9, rfl, r9, g9⟩
          have st7 := st6.pick g9 r9
          have hT9 := (g9.block w7.heap.size (by show _ < (w7.heap.push _).size; simp) (by have := S5.out.2.2.1.lt; simp; omega)).trans hT
          obtain ⟨x, c0, c1, c2, c3, cf⟩ := st7.2.1.cell
          have tc := fun o => cell_of_row w9 _ o _ _ _ hT9
          obtain ⟨T, hTe⟩ : ∃ T, T = w7.heap.size := ⟨_, rfl⟩
          rw [← hTe] at tc
          rw [← hTe]
          clear st6 r8 r9 g9 hT hT9 S5 hTe
          rcases (by omega : k9 = 0 ∨ k9 = 1 ∨ k9 = 2 ∨ k9 = 3) with rfl | rfl | rfl | rfl
          · have e0 := tc 0
            have e1 := tc 1
            have e2 := tc 2
            have e3 := tc 3
            simp at e0 e1 e2 e3
            clear tc
            go_wp2_with fail
            go_meet
            exact st7.set4 (.inr rfl) _ _ _ _
          · have e0 := tc 4
            have e1 := tc 5
            have e2 := tc 6
            have e3 := tc 7
            simp at e0 e1 e2 e3
            clear tc
            go_wp2_with fail
            go_meet
            exact st7.set4 (.inr rfl) _ _ _ _
          · have e0 := tc 8
            have e1 := tc 9
            have e2 := tc 10
            have e3 := tc 11
            simp at e0 e1 e2 e3
            clear tc
            go_wp2_with fail
            go_meet
            exact st7.set4 (.inr rfl) _ _ _ _
          · have e0 := tc 12
            have e1 := tc 13
            have e2 := tc 14
            have e3 := tc 15
            simp at e0 e1 e2 e3
            clear tc
            go_wp2_with fail
            go_meet
            exact st7.set4 (.inr rfl) _ _ _ _
      case rest =>
        have st5 := hcut
        obtain ⟨x, c0, c1, c2, c3, cf⟩ := st5.2.1.cell
        obtain ⟨y, d0, d1, d2, d3, df⟩ := st5.1.cell
        go_wp2_with fail
        have st9 := st5.set4 (.inl rfl) x.f0 x.f1 x.f2 x.f3
        have stR : _ := st5.got x.f0 x.f1 x.f2 x.f3
        obtain ⟨f0, f1, f2, f3⟩ := stR
        refine bodyPost_ret (v := .agg #[.int .i64 x.f0, .bool x.f1, .int .i64 x.f2, .int .i64 x.f3]) (by simp [results, Try.results43, go_sem, f0, f1, f2, f3]) rfl ?_
        exact ⟨x, rfl, st9.2.2.1.mono (by omega), st9.2.2.2.1⟩

/-- Drawing rows: n of them lie in an own row; the reader goes on. -/
def Lr (w wx : World) (B m : Nat) (v : Value) (n : Nat) : Prop :=
  ∃ xs : List DRow, xs.length = n ∧ wx.ownsRow w.heap.size 44 4 v n (xs.flatMap encRow) ∧ RdTo B m wx ∧ w.grownBy wx (some B) ∧ B < w.heap.size
theorem Lr.pick {w wx w' : World} {B m m' n : Nat} {v : Value} (h : Lr w wx B m v n) (hg : wx.grownBy w' (some B)) (hr : RdTo B m' w') : Lr w w' B m' v n := by
  obtain ⟨xs, h1, h2, h3, h4, h5⟩ := h
  refine ⟨xs, h1, h2.kept hg ?_, hr, grownBy_trans h4 hg, h5⟩
  right
  exact (owns_ne h2 (.inl h5)).symm
theorem Lr.mono {w wx : World} {B m m' n : Nat} {v : Value} (h : Lr w wx B m v n) (hm : m ≤ m') : Lr w wx B m' v n := by
  obtain ⟨xs, h1, h2, h3, h4, h5⟩ := h
  exact ⟨xs, h1, h2, h3.mono hm, h4, h5⟩
theorem Lr.push {w wx w' : World} {B m n : Nat} {v v' : Value} {xs : List DRow} (h1 : xs.length = n) (h2 : wx.ownsRow w.heap.size 44 4 v n (xs.flatMap encRow)) (h3 : RdTo B m wx) (h4 : w.grownBy wx (some B)) (h5 : B < w.heap.size) (o : Obj) (x : DRow) (hg : (wx.alloc o).grownBy w' v.ownBlock)
    (hx : w'.ownsRow w.heap.size 44 4 v' (n + 1) (xs.flatMap encRow ++ encRow x)) : Lr w w' B m v' (n + 1) := by
  have g1 := World.grownBy_alloc wx o none
  refine ⟨xs ++ [x], by simp [h1], by simpa using hx, ((h3.past g1 (by intro k h; cases h)).past hg (fun k hk => ?_)), ?_, h5⟩
  · have := (h2.lt k hk).1
    omega
  · have hs := h4.size
    have hs1 := g1.size
    refine ⟨(hg.os.trans g1.os).trans h4.os, (hg.tape.trans g1.tape).trans h4.tape, (hg.output.trans g1.output).trans h4.output, Nat.le_trans hs (Nat.le_trans hs1 hg.size), fun k hk hne => ?_⟩
    exact (hg.block k (by omega) (owns_ne h2 (.inl hk))).trans ((g1.block k (by omega) (by simp)).trans (h4.block k hk hne))

theorem Lr.slice {w wx : World} {B m n : Nat} {v : Value} (h : Lr w wx B m v n) : ∃ a cap, v = .slice a n cap := by
  obtain ⟨xs, h1, h2, _⟩ := h
  rcases h2.2 with ⟨rfl, e⟩ | ⟨g, cap, _, e, _⟩
  · subst e; exact ⟨_, _, rfl⟩
  · exact ⟨_, _, e⟩
def lenV : Value → Nat
  | .slice _ n _ => n
  | _ => 0

/-- What drawing rows leaves. -/
def RowsTo (m : Nat) (w : World) (B : Nat) (e : Ending) (w' : World) : Prop := ∃ n v, n ≤ 40 ∧ e = .returned v ∧ Lr w w' B (m + 200) v n

set_option maxHeartbeats 8000000 in
theorem l20Rows_to (B m : Nat) (n : Int) (w : World) (h : RdTo B m w) (hm : m ≤ 900000) (hn : 0 ≤ n) (hn' : n ≤ 1000000) :
    Calls Try.prog 38 #[.pointer (some ⟨B, 0, none⟩), .int .i64 n] w (RowsTo m w B) := by
  have hBw := h.lt
  obtain ⟨i0, hi, hz0, hz1, hz2⟩ := info_parts info_Row
  go_enter Try.func38, Try.ntmps38
  go_wp2_with fail
  have h0 := h.kept (World.grownBy_alloc w (.cells #[] 44) none) (by intro k h; cases h)
  refine (pick_to B m 12 _ h0 (by omega) (by omega) (by omega)).mono ?_
  rintro e w1 ⟨k1, a1, b1, rfl, r1, g1⟩
  have L0 : Lr w w1 B (m + 1) (.slice (some ⟨w.heap.size, 0, none⟩) 0 0) 0 := by
    refine Lr.pick (wx := w.alloc (.cells #[] 44)) (m := m) ⟨[], rfl, ?_, h0, World.grownBy_alloc _ _ _, hBw⟩ g1 r1
    have := World.ownsRow_made (e := 44) (size := 4) (base := w.heap.size) w #[] 0 (Nat.le_refl _) (by unfold maxLen; omega) rfl
    simpa using this
  have L1 := Lib.hid L0
  clear L0 h0 r1 g1 h
  go_wp2_with fail
  go_loopw [5, 6] (fun v i wr => ∃ k j : Nat, k + j ≤ 11 ∧ i = .int .i64 j ∧ Hid (Lr w wr B (m + 1 + 10 * k) v k)) (fun _ i _ => (intOf i).toNat)
  case atStart => exact ⟨0, k1.toNat, by omega, by simp; omega, L1.out⟩
  case round =>
    obtain ⟨k, j, hk, rfl, L2⟩ := hrel
    clear L1
    by_cases hj : 0 < j
    · have r2 := L2.out.choose_spec.2.2.1
      go_wp2_with fail
      refine (l20Row_to B (m + 1 + 10 * k) 0 _ r2 (by omega) (by omega) (by omega)).mono ?_
      rintro e w2 ⟨x, rfl, r3, g3⟩
      obtain ⟨xs, q1, q2, q3, q4, q5⟩ := L2.out.pick g3 r3
      clear L2 r2 g3 r3
      have Q4 := Lib.hid q4
      have Q5 := Lib.hid q5
      have Q3 := Lib.hid q3
      have q6 := q4.size
      clear q3 q4 q5
      go_wp2_with (at_builtin; refine wpList_append_own _ rfl _ _ 34 rfl w.heap.size 44 i0 (.agg #[.int .i64 0, .bool false, .int .i64 0, .int .i64 0]) 4 32 Try.underlying34 hi hz0 hz1 hz2 rfl (by decide) _ _ _ rfl (q2.alloc _) ⟨w2.heap.size, 0, none⟩ 1 1 [.int .i64 x.f0, .bool x.f1, .int .i64 x.f2, .int .i64 x.f3] rfl rfl (cells_new _ [_, _, _, _] _) (by intro u hu; simp at hu; rcases hu with rfl | rfl | rfl | rfl <;> rfl) (by unfold maxLen; omega) (by omega) (by simp; omega) ?_; intro v' w3 hown' hgrow _)
      go_roundw
      case rel => exact ⟨k + 1, j - 1, by omega, by go_num, Lr.mono (Lr.push q1 q2 Q3.out Q4.out Q5.out _ x hgrow hown') (by omega)⟩
      case measure => simp [intOf]; omega
    · obtain rfl : j = 0 := by omega
      have r2 := L2.out.choose_spec.2.2.1
      go_wp2_with fail
      refine (odd_to B (m + 1 + 10 * k) n _ r2 (by omega) hn hn').mono ?_
      rintro e w2 ⟨b, rfl, r3, g3⟩
      have L3 := Lib.hid (L2.out.pick g3 r3)
      clear L2 r2 g3 r3
      cases b
      · go_wp2_with fail
        go_ret
        exact ⟨k, _, by omega, rfl, L3.out.mono (by omega)⟩
      · have r2 := L3.out.choose_spec.2.2.1
        go_wp2_with fail
        refine (pick_to B (m + 1 + 10 * k + 1) 2 _ r2 (by omega) (by omega) (by omega)).mono ?_
        rintro e w3 ⟨k3, a3, b3, rfl, r3, g3⟩
        have L4 := Lib.hid (L3.out.pick g3 r3)
        clear L3 r2 g3 r3
        cases hk3 : (k3 == 0)
        · go_wp2_with fail
          go_loopw [5] (fun v wr => ∃ k' : Nat, k' ≤ 31 ∧ Hid (Lr w wr B (m + 200) v k')) (fun v _ => 31 - lenV v)
          case atStart => exact ⟨k, by omega, L4.out.mono (by omega)⟩
          case round =>
            obtain ⟨k', hk', L5⟩ := hrel
            obtain ⟨a, cap, rfl⟩ := L5.out.slice
            clear L4
            by_cases hlt : k' ≤ 30
            · obtain ⟨xs, q1, q2, q3, q4, q5⟩ := L5.out
              clear L5
              have Q4 := Lib.hid q4
              have Q5 := Lib.hid q5
              have Q3 := Lib.hid q3
              have q6 := q4.size
              clear q3 q4 q5
              go_wp2_with (at_builtin; refine wpList_append_own _ rfl _ _ 34 rfl w.heap.size 44 i0 (.agg #[.int .i64 0, .bool false, .int .i64 0, .int .i64 0]) 4 32 Try.underlying34 hi hz0 hz1 hz2 rfl (by decide) _ _ _ rfl (q2.alloc _) ⟨wr.heap.size, 0, none⟩ 1 1 [.int .i64 1, .bool false, .int .i64 0, .int .i64 0] rfl rfl (cells_new _ [_, _, _, _] _) (by intro u hu; simp at hu; rcases hu with rfl | rfl | rfl | rfl <;> rfl) (by unfold maxLen; omega) (by omega) (by simp; omega) ?_; intro v' w5 hown' hgrow _)
              have L6 := Lr.push q1 q2 Q3.out Q4.out Q5.out _ ⟨1, false, 0, 0⟩ hgrow hown'
              obtain ⟨a2, cap2, rfl⟩ := L6.slice
              go_roundw
              case rel => exact ⟨k' + 1, by omega, L6⟩
              case measure => simp [lenV]; omega
            · go_wp2_with fail
              go_ret
              exact ⟨k', _, by omega, rfl, L5.out⟩
        · have r2 := L4.out.choose_spec.2.2.1
          go_wp2_with fail
          refine (l20Row_to B (m + 1 + 10 * k + 1 + 1) 1 _ r2 (by omega) (by omega) (by omega)).mono ?_
          rintro e w4 ⟨x, rfl, r3, g3⟩
          obtain ⟨xs, q1, q2, q3, q4, q5⟩ := L4.out.pick g3 r3
          clear L4 r2 g3 r3
          have Q4 := Lib.hid q4
          have Q5 := Lib.hid q5
          have Q3 := Lib.hid q3
          have q6 := q4.size
          clear q3 q4 q5
          go_wp2_with (at_builtin; refine wpList_append_own _ rfl _ _ 34 rfl w.heap.size 44 i0 (.agg #[.int .i64 0, .bool false, .int .i64 0, .int .i64 0]) 4 32 Try.underlying34 hi hz0 hz1 hz2 rfl (by decide) _ _ _ rfl (q2.alloc _) ⟨w4.heap.size, 0, none⟩ 1 1 [.int .i64 x.f0, .bool x.f1, .int .i64 x.f2, .int .i64 x.f3] rfl rfl (cells_new _ [_, _, _, _] _) (by intro u hu; simp at hu; rcases hu with rfl | rfl | rfl | rfl <;> rfl) (by unfold maxLen; omega) (by omega) (by simp; omega) ?_; intro v' w3 hown' hgrow _)
          go_ret
          exact ⟨k + 1, _, by omega, rfl, Lr.mono (Lr.push q1 q2 Q3.out Q4.out Q5.out _ x hgrow hown') (by omega)⟩
end Go.Proofs.Ytkbpmpndfcdpkaa

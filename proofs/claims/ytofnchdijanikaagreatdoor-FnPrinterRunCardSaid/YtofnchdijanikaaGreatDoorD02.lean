/-
  PROVED HERE: what the printer's lines need, part D02. Conditions: each theorem's own.
-/
import Derived.Test.YtofnchdijanikaaGreatDoorD01
import Derived.Test.YtofnchdijanikaaGreatDoorV04
import Derived.Deep.Cut
import Derived.Deep.RegionHeld3
import Derived.Test.YtofnchdijanikaaGreatDoorV01
set_option linter.unusedVariables false
set_option linter.unusedSimpArgs false
set_option maxRecDepth 100000
namespace Go.Proofs.YtofnchdijanikaaGreatDoor
open Go.RowKit
structure Bf (w wx : World) (B m g n1 : Nat) (pv qv : Value) (us : List Value) (b : DBook) : Prop where
 dr : Dr w wx B m
 kb : wx.ownsRow (w.heap.size + 1) 27 5 (.slice (some ⟨g, 0, none⟩) 1 1) 1 [pv, qv, .int .i64 b.w, .int .i64 b.most, .int .i64 b.lines]
 kr : wx.ownsRow w.heap.size 27 5 (.slice (some ⟨w.heap.size, 0, none⟩) 1 1) 1 [.slice none 0 0, .slice none 0 0, .int .i64 0, .int .i64 0, .int .i64 0]
 p : OwnSU wx n1 wx.heap.size pv b.pars us
 q : OwnT wx (w.heap.size + 1) qv b.pats
 gn : w.heap.size < g ∧ g < n1 ∧ n1 ≤ wx.heap.size
structure Bk (w wx : World) (B m g n1 : Nat) (pv qv : Value) (us : List Value) (b : DBook) : Prop where
 f : Bf w wx B m g n1 pv qv us b
 qk : ∀ k, qv.ownBlock = some k → k ≠ g ∧ k < n1
theorem grown_to {a b c : World} {r : Option Nat} {g : Nat} (h : a.grownBy b r) (k : b.grownBy c (some g)) (hg : a.heap.size ≤ g) : a.grownBy c r :=
 ⟨k.os.trans h.os, k.tape.trans h.tape, k.output.trans h.output, Nat.le_trans h.size k.size, fun j hj hne => (k.block j (Nat.lt_of_lt_of_le hj h.size) (by intro e; have := Option.some.inj e; omega)).trans (h.block j hj hne)⟩
def BookO (w : World) (base hi : Nat) (v : Value) (b : DBook) : Prop := ∃ pv qv us, v = .agg #[pv, qv, .int .i64 b.w, .int .i64 b.most, .int .i64 b.lines] ∧ OwnSU w base hi pv b.pars us ∧ OwnT w base qv b.pats ∧ ∀ k, qv.ownBlock = some k → k < hi
theorem BookO.read {w : World} {base hi : Nat} {v : Value} {b : DBook} (h : BookO w base hi v b) : BookR w v b := by
 obtain ⟨pv, qv, us, rfl, h1, h2, _⟩ := h
 exact ⟨pv, qv, rfl, h1.read, h2.row⟩
theorem BookO.below {w w' : World} {base hi : Nat} {v : Value} {b : DBook} (h : BookO w base hi v b) (hb : Below w.heap.size w w') : BookO w' base hi v b := by
 obtain ⟨pv, qv, us, rfl, h1, h2, h3⟩ := h
 exact ⟨pv, qv, us, rfl, h1.below hb, owns_below h2 hb, h3⟩
theorem BookO.grown {w w' : World} {base hi g : Nat} {v : Value} {b : DBook} (h : BookO w base hi v b) (hg : w.grownBy w' (some g)) (hB : g < base ∨ hi ≤ g) : BookO w' base hi v b := by
 obtain ⟨pv, qv, us, rfl, h1, h2, h3⟩ := h
 exact ⟨pv, qv, us, rfl, h1.grown hg (fun k hk => by cases hk; exact hB), World.ownsRow.kept h2 hg (.inr fun e => by have := (World.ownsRow.lt h2 g e).1; have := h3 g e; omega), h3⟩
theorem OwnSU.form' {w : World} {base hi : Nat} {v : Value} {xss : List (List (List UInt8))} {us : List Value} (h : OwnSU w base hi v xss us) : ∃ z n c, v = .slice z n c := by
 obtain ⟨z, c, e⟩ := h.form
 exact ⟨z, _, c, e⟩
section
variable {w wx w' : World} {B m m' g n1 : Nat} {pv qv : Value} {us : List Value} {b : DBook}
theorem Bk.pick (h : Bk w wx B m g n1 pv qv us b) (hg : wx.grownBy w' (some B)) (hr : RdTo B m' w') : Bk w w' B m' g n1 pv qv us b := by
 obtain ⟨h, hq⟩ := h
 have hB := h.dr.2.2
 have hn := h.gn
 exact ⟨⟨h.dr.pick hg hr, own_pick h.kb (by omega) hg, own_pick h.kr hB hg, (h.p.grown hg (fun k hk => by cases hk; omega)).wider hg.size, own_pick h.q (by omega) hg, ⟨hn.1, hn.2.1, Nat.le_trans hn.2.2 hg.size⟩⟩, hq⟩
theorem Bk.mono (h : Bk w wx B m g n1 pv qv us b) (hm : m ≤ m') : Bk w wx B m' g n1 pv qv us b := ⟨⟨h.f.dr.mono hm, h.f.kb, h.f.kr, h.f.p, h.f.q, h.f.gn⟩, h.qk⟩
theorem Bk.alloc (h : Bk w wx B m g n1 pv qv us b) (o : Obj) : Bk w (wx.alloc o) B m g n1 pv qv us b :=
 ⟨⟨h.f.dr.alloc o, h.f.kb.alloc o, h.f.kr.alloc o, (h.f.p.below ((Below.refl _ _).alloc nR o)).wider (by simp), World.ownsRow.alloc h.f.q o, ⟨h.f.gn.1, h.f.gn.2.1, by have := h.f.gn.2.2; simp; omega⟩⟩, h.qk⟩
theorem owns_type {w : World} {b b' : Nat} {E E' : TypeId} {s s' n n' : Nat} {v v' : Value} {xs xs' : List Value} (hE : E ≠ E') (h : w.ownsRow b E s v n xs) (h' : w.ownsRow b' E' s' v' n' xs') {k : Nat} (hk : v.ownBlock = some k) (hk' : v'.ownBlock = some k) : False := by
 rcases h.2 with ⟨e, _⟩ | ⟨g, cap, cur, e, _, hh, _⟩
 ·rw [e] at hk; cases hk
 rcases h'.2 with ⟨e', _⟩ | ⟨g', cap', cur', e', _, hh', _⟩
 ·rw [e'] at hk'; cases hk'
 rw [e] at hk
 rw [e'] at hk'
 have e1 : g = k := Option.some.inj hk
 have e2 : g' = k := Option.some.inj hk'
 subst e1
 rw [e2, hh] at hh'
 have h9 := Option.some.inj hh'
 injection h9 with _ h8 _
 exact hE h8
theorem ne_of {v : Value} {k : Nat} (h : ∀ j, v.ownBlock = some j → j ≠ k) : v.ownBlock ≠ some k := fun e => h k e rfl
theorem Bk.push {w5 : World} {pv' u : Value} {l : List (List UInt8)} (h : Bk w wx B m g n1 pv qv us b) (hp : OwnSU w5 n1 w5.heap.size pv' (b.pars ++ [l]) (us ++ [u])) (hg : wx.grownBy w5 pv.ownBlock) :
  w5.cell? ⟨g, 0, none⟩ = some pv ∧ w5.frozen? ⟨g, 0, none⟩ = false ∧ Bk w (w5.setCell ⟨g, 0, none⟩ pv') B m g n1 pv' qv (us ++ [u]) { b with pars := b.pars ++ [l] } := by
 obtain ⟨h, hqk⟩ := h
 have hn := h.gn
 have hB := h.dr.2.2
 have hpl : ∀ k, pv.ownBlock = some k → n1 ≤ k := fun k hk => (World.ownsRow.lt h.p.2.1 k hk).1
 have ek : (Value.slice (some ⟨g, 0, none⟩) 1 1).ownBlock = some g := rfl
 have er : (Value.slice (some ⟨w.heap.size, 0, none⟩) 1 1).ownBlock = some w.heap.size := rfl
 have kb5 := h.kb.kept hg (.inr (by rw [ek]; exact fun e => by have := hpl g e.symm; omega))
 have kr5 := h.kr.kept hg (.inr (by rw [er]; exact fun e => by have := hpl _ e.symm; omega))
 have q5 := World.ownsRow.kept h.q hg (by
  cases hq : qv.ownBlock with
  | none => exact .inl rfl
  | some k => exact .inr fun e => by have := hpl k e.symm; have := (hqk k hq).2; omega)
 have st := kb5.stored 0 pv'
 have f0 := World.ownsRow.frozenAt kb5 0
 obtain ⟨c0, _⟩ := own5 kb5
 have d5 : Dr w w5 B m := h.dr.push h.p.2.1 (by omega) hg
 have dg : Dr w (w5.setCell ⟨g, 0, none⟩ pv') B m := ⟨d5.1.past st.2 (fun k hk => by cases hk; omega), grown_to d5.2.1 st.2 (by omega), d5.2.2⟩
 have h1 := hg.size
 have h2 := st.2.size
 exact ⟨c0, f0, ⟨dg, st.1, kr5.kept st.2 (.inr (by rw [er]; exact fun e => by have := Option.some.inj e; omega)), (hp.grown st.2 (fun k hk => by cases hk; omega)).wider st.2.size, World.ownsRow.kept q5 st.2 (.inr (ne_of fun j hj => (hqk j hj).1)), ⟨hn.1, hn.2.1, by omega⟩⟩, hqk⟩
theorem Bk.put {v : Value} {b' : DBook} (j : Nat) (h : Bk w wx B m g n1 pv qv us b) (hl : ([pv, qv, .int .i64 b.w, .int .i64 b.most, .int .i64 b.lines] : List Value).set j v = [pv, qv, .int .i64 b'.w, .int .i64 b'.most, .int .i64 b'.lines]) (hp : b'.pars = b.pars) (hq : b'.pats = b.pats) :
  Bk w (wx.setCell ⟨g, j, none⟩ v) B m g n1 pv qv us b' := by
 obtain ⟨h, hqk⟩ := h
 have hn := h.gn
 have hB := h.dr.2.2
 have er : (Value.slice (some ⟨w.heap.size, 0, none⟩) 1 1).ownBlock = some w.heap.size := rfl
 have st := h.kb.stored j v
 rw [hl] at st
 have dg : Dr w (wx.setCell ⟨g, j, none⟩ v) B m := ⟨h.dr.1.past st.2 (fun k hk => by cases hk; omega), grown_to h.dr.2.1 st.2 (by omega), h.dr.2.2⟩
 refine ⟨⟨dg, st.1, h.kr.kept st.2 (.inr (by rw [er]; exact fun e => by have := Option.some.inj e; omega)), ?_, ?_, ⟨hn.1, hn.2.1, Nat.le_trans hn.2.2 st.2.size⟩⟩, hqk⟩
 ·rw [hp]; exact (h.p.grown st.2 (fun k hk => by cases hk; omega)).wider st.2.size
 ·rw [hq]; exact World.ownsRow.kept h.q st.2 (.inr (ne_of fun j hj => (hqk j hj).1))
theorem Bk.pat {w5 : World} {qv' : Value} {l : List UInt8} (h : Bk w wx B m g n1 pv qv us b) (hp : OwnT w5 (w.heap.size + 1) qv' (b.pats ++ [l])) (hg : wx.grownBy w5 qv.ownBlock) (hm : Moved wx qv qv') :
  w5.cell? ⟨g, 1, none⟩ = some qv ∧ w5.frozen? ⟨g, 1, none⟩ = false ∧ Bf w (w5.setCell ⟨g, 1, none⟩ qv') B m g n1 pv qv' us { b with pats := b.pats ++ [l] } := by
 obtain ⟨h, hqk⟩ := h
 have hn := h.gn
 have hB := h.dr.2.2
 have hql : ∀ k, qv.ownBlock = some k → w.heap.size + 1 ≤ k := fun k hk => (World.ownsRow.lt h.q k hk).1
 have ek : (Value.slice (some ⟨g, 0, none⟩) 1 1).ownBlock = some g := rfl
 have er : (Value.slice (some ⟨w.heap.size, 0, none⟩) 1 1).ownBlock = some w.heap.size := rfl
 have qk' : ∀ k, qv'.ownBlock = some k → k ≠ g := fun k hk => by
  rcases hm with e | e
  ·exact (hqk k (e.symm.trans hk)).1
  ·have := e k hk; omega
 have kb5 := h.kb.kept hg (.inr (by rw [ek]; exact fun e => (hqk g e.symm).1 rfl))
 have kr5 := h.kr.kept hg (.inr (by rw [er]; exact fun e => by have := hql _ e.symm; omega))
 have p5 := (h.p.grown hg (fun k hk => .inl (hqk k hk).2)).wider hg.size
 have st := kb5.stored 1 qv'
 have f0 := World.ownsRow.frozenAt kb5 1
 obtain ⟨_, c1, _⟩ := own5 kb5
 have d5 : Dr w w5 B m := h.dr.push h.q (by omega) hg
 have dg : Dr w (w5.setCell ⟨g, 1, none⟩ qv') B m := ⟨d5.1.past st.2 (fun k hk => by cases hk; omega), grown_to d5.2.1 st.2 (by omega), d5.2.2⟩
 have h1 := hg.size
 have h2 := st.2.size
 exact ⟨c1, f0, dg, st.1, kr5.kept st.2 (.inr (by rw [er]; exact fun e => by have := Option.some.inj e; omega)), (p5.grown st.2 (fun k hk => by cases hk; omega)).wider st.2.size, World.ownsRow.kept hp st.2 (.inr (ne_of qk')), ⟨hn.1, hn.2.1, by omega⟩⟩
theorem Bf.fin (h : Bf w wx B m g n1 pv qv us b) : Dr w (((((wx.setCell ⟨w.heap.size, 0, none⟩ pv).setCell ⟨w.heap.size, 1, none⟩ qv).setCell ⟨w.heap.size, 2, none⟩ (.int .i64 b.w)).setCell ⟨w.heap.size, 3, none⟩ (.int .i64 b.most)).setCell ⟨w.heap.size, 4, none⟩ (.int .i64 b.lines)) B m ∧
  World.ownsRow (((((wx.setCell ⟨w.heap.size, 0, none⟩ pv).setCell ⟨w.heap.size, 1, none⟩ qv).setCell ⟨w.heap.size, 2, none⟩ (.int .i64 b.w)).setCell ⟨w.heap.size, 3, none⟩ (.int .i64 b.most)).setCell ⟨w.heap.size, 4, none⟩ (.int .i64 b.lines)) w.heap.size 27 5 (.slice (some ⟨w.heap.size, 0, none⟩) 1 1) 1 [pv, qv, .int .i64 b.w, .int .i64 b.most, .int .i64 b.lines] ∧
  BookO (((((wx.setCell ⟨w.heap.size, 0, none⟩ pv).setCell ⟨w.heap.size, 1, none⟩ qv).setCell ⟨w.heap.size, 2, none⟩ (.int .i64 b.w)).setCell ⟨w.heap.size, 3, none⟩ (.int .i64 b.most)).setCell ⟨w.heap.size, 4, none⟩ (.int .i64 b.lines)) (w.heap.size + 1) (((((wx.setCell ⟨w.heap.size, 0, none⟩ pv).setCell ⟨w.heap.size, 1, none⟩ qv).setCell ⟨w.heap.size, 2, none⟩ (.int .i64 b.w)).setCell ⟨w.heap.size, 3, none⟩ (.int .i64 b.most)).setCell ⟨w.heap.size, 4, none⟩ (.int .i64 b.lines)).heap.size (.agg #[pv, qv, .int .i64 b.w, .int .i64 b.most, .int .i64 b.lines]) b ∧ BookN (.agg #[pv, qv, .int .i64 b.w, .int .i64 b.most, .int .i64 b.lines]) := by
 have hn := h.gn
 have hB := h.dr.2.2
 have FR := own5_set h.kr pv qv (.int .i64 b.w) (.int .i64 b.most) (.int .i64 b.lines)
 refine ⟨⟨h.dr.1.past FR.2 (fun k hk => by cases hk; omega), grown_to h.dr.2.1 FR.2 nR, hB⟩, FR.1, ⟨pv, qv, us, rfl, ((h.p.grown FR.2 (fun k hk => by cases hk; omega)).mono (by omega)).wider FR.2.size, World.ownsRow.kept h.q FR.2 (.inr (ne_of fun j hj => by have := (World.ownsRow.lt h.q j hj).1; omega)), fun k hk => Nat.lt_of_lt_of_le (World.ownsRow.lt h.q k hk).2 FR.2.size⟩, fun p q x y z e => ?_⟩
 injection e with e
 have := congrArg (fun s : Array Value => s[1]?) e
 simp at this
 subst this
 exact NC.own h.q
end
end Go.Proofs.YtofnchdijanikaaGreatDoor
namespace Go.Proofs.YtofnchdijanikaaGreatDoor
open Go.RowKit
def BookTo (m : Nat) (w : World) (B : Nat) (e : Ending) (w' : World) : Prop := ∃ (v : Value) (b : DBook), e = .returned v ∧ BookO w' (w.heap.size + 1) w'.heap.size v b ∧ BookN v ∧ BookSh b ∧ Dr w w' B (m + 17000)
set_option maxHeartbeats 32000000 in
theorem l20Book_to (B m : Nat) (n : Int) (w : World) (h : RdTo B m w) (hm : m ≤ 700000) (hn : 0 ≤ n) (hn' : n ≤ 1000000) :
  Calls Tryz.prog 47 #[.pointer (some ⟨B, 0, none⟩), .int .i64 n] w (BookTo m w B) := by
 have hBw : B < w.heap.size := h.lt
 have D0 := hQ ((Dr.start h).alloc (.cells #[.slice none 0 0, .slice none 0 0, .int .i64 0, .int .i64 0, .int .i64 0] 27))
 have R0 := hQ (own5_made w nR 27 (.slice none 0 0) (.slice none 0 0) (.int .i64 0) (.int .i64 0) (.int .i64 0))
 obtain ⟨wA, hwA⟩ : ∃ wA, wA = w.alloc (.cells #[.slice none 0 0, .slice none 0 0, .int .i64 0, .int .i64 0, .int .i64 0] 27) := ⟨_, rfl⟩
 have SA : wA.heap.size = w.heap.size + 1 := by rw [hwA]; simp
 rw [← hwA] at D0 R0
 clear h
 go_enter Tryz.func47, Tryz.ntmps47
 go_upto_region 1 with fail
 rw [← hwA]
 clear hwA
 refine draw_regionL _ wA B m 15 [8, 9, 10, 11, 12, 13, 14, 15, 16, 17, 18, 19, 20, 21, 5] [TyS.rd, TyS.own (w.heap.size + 1) 13, TyS.rd, TyS.num 0 39, TyS.num 40 79, TyS.sl 3 200 10000, TyS.rd, TyS.num 0 2, TyS.el 200 10000, TyS.num 200 10000, TyS.rd, TyS.num 0 5, TyS.num 3 8, TyS.bk (w.heap.size + 1) 13, TyS.bx (w.heap.size + 1)] (by kernel_rfl) (by kernel_rfl) D0.out.1 ?_ (fun vs w' => ∃ (g N : Nat) (z1 : Option Addr) (z2 : Nat) (pats : List (List UInt8)) (x y z : Int), vs.getD 14 undef = .pointer (some ⟨g, 0, none⟩) ∧ pats.length ≤ 1000 ∧ (∀ x ∈ pats, x.length ≤ 13) ∧ Bk w w' B (m + 15000) g w'.heap.size (.slice none 0 0) (.slice z1 N z2) [] ⟨[], pats, x, y, z⟩) ?_ ?_
 ·intro mm i o a wx hmm hi ho hF hI hg hA
  have hrd : a.tmps.getD 0 undef = .pointer (some ⟨B, 0, none⟩) := by
   have h := hF.2.2 0 (by intro i hi; revert i; decide)
   rw [Array.getD_eq_getD_getElem?, h]
   rfl
  match i, ho with
  | 0, ho =>
   obtain rfl := Option.some.inj ho
   refine wpOp_of rfl rfl ?_
   exact step_moveS _ (.inl rfl) rfl hI hrd
  | 1, ho =>
   obtain rfl := Option.some.inj ho
   have h0 := hA ⟨0, .data⟩ (by simp) rfl
   have h0' : a.tmps[8]?.getD undef = .pointer (some ⟨B, 0, none⟩) := by have e : a.tmps.getD 8 undef = .pointer (some ⟨B, 0, none⟩) := h0; rwa [Array.getD_eq_getD_getElem?] at e
   refine wpOp_of rfl rfl ?_
   exact step_callS (f := 70) (args := #[.pointer (some ⟨B, 0, none⟩), .int .i64 0]) rfl (by simp only [execOp]; simp [go_sem]; exact h0') ((l20Patterns_to B mm wx hI (by omega)).mono fun e w' ⟨xs, v, x1, x2, e1, x3, x4⟩ => ⟨v, e1, ⟨by omega, xs, World.ownsRow.mono x3 (by have := hg.size; omega), by omega, x2⟩, x4.2.1, x4.1.mono (by omega)⟩)
  | 2, ho =>
   obtain rfl := Option.some.inj ho
   refine wpOp_of rfl rfl ?_
   exact step_moveS _ (.inl rfl) rfl hI hrd
  | 3, ho =>
   obtain rfl := Option.some.inj ho
   have h2 := hA ⟨2, .data⟩ (by simp) rfl
   refine wpOp_of rfl rfl ?_
   exact step_pickS _ _ rfl rfl hI (by omega) h2 (by decide) (by decide) (by decide)
  | 4, ho =>
   obtain rfl := Option.some.inj ho
   have h3 := hA ⟨3, .data⟩ (by simp) rfl
   refine wpOp_of rfl rfl ?_
   obtain ⟨k3, e3, q3⟩ := h3
   exact step_addS _ _ _ _ rfl rfl hI rfl ⟨Int.le_refl _, Int.le_refl _⟩ e3 q3 (by decide) (by decide) (by decide) (by decide)
  | 5, ho =>
   obtain rfl := Option.some.inj ho
   refine wpOp_of rfl rfl ?_
   exact step_buildS [500, 10000, 200] 3 3 rfl hI rfl (by simp [go_sem]) (by decide)
  | 6, ho =>
   obtain rfl := Option.some.inj ho
   refine wpOp_of rfl rfl ?_
   exact step_moveS _ (.inl rfl) rfl hI hrd
  | 7, ho =>
   obtain rfl := Option.some.inj ho
   have h6 := hA ⟨6, .data⟩ (by simp) rfl
   refine wpOp_of rfl rfl ?_
   exact step_pickS _ _ rfl rfl hI (by omega) h6 (by decide) (by decide) (by decide)
  | 8, ho =>
   obtain rfl := Option.some.inj ho
   have h5 := hA ⟨5, .data⟩ (by simp) rfl
   have h7 := hA ⟨7, .data⟩ (by simp) rfl
   refine wpOp_of rfl rfl ?_
   exact step_indexS _ _ _ rfl Tryz.underlying72 rfl hI h5 h7 (by decide) (by decide)
  | 9, ho =>
   obtain rfl := Option.some.inj ho
   have h8 := hA ⟨8, .data⟩ (by simp) rfl
   refine wpOp_of rfl rfl ?_
   exact step_loadS _ rfl rfl hI h8
  | 10, ho =>
   obtain rfl := Option.some.inj ho
   refine wpOp_of rfl rfl ?_
   exact step_moveS _ (.inl rfl) rfl hI hrd
  | 11, ho =>
   obtain rfl := Option.some.inj ho
   have h10 := hA ⟨10, .data⟩ (by simp) rfl
   refine wpOp_of rfl rfl ?_
   exact step_pickS _ _ rfl rfl hI (by omega) h10 (by decide) (by decide) (by decide)
  | 12, ho =>
   obtain rfl := Option.some.inj ho
   have h11 := hA ⟨11, .data⟩ (by simp) rfl
   refine wpOp_of rfl rfl ?_
   obtain ⟨k11, e11, q11⟩ := h11
   exact step_addS _ _ _ _ rfl rfl hI rfl ⟨Int.le_refl _, Int.le_refl _⟩ e11 q11 (by decide) (by decide) (by decide) (by decide)
  | 13, ho =>
   obtain rfl := Option.some.inj ho
   have h1 := hA ⟨1, .data⟩ (by simp) rfl
   have h4 := hA ⟨4, .data⟩ (by simp) rfl
   have h9 := hA ⟨9, .data⟩ (by simp) rfl
   have h12 := hA ⟨12, .data⟩ (by simp) rfl
   refine wpOp_of rfl rfl ?_
   exact step_bookS _ _ _ _ rfl rfl hI h1 h4 h9 h12
  | 14, ho =>
   obtain rfl := Option.some.inj ho
   refine wpOp_of rfl rfl ?_
   exact step_boxS rfl rfl hI (by omega) (by have := hg.size; omega)
  | _ + 15, ho => exact absurd hi (by omega)
 ·intro vs w2 o a ho hvs hev hA hr2 hg2
  obtain rfl := Option.some.inj ho
  obtain ⟨qv, x, y, z, e13, _, pats, hq, hql, hqs⟩ := hA 13 (by decide)
  obtain ⟨_, g, e14, hb⟩ := hA 14 (by decide)
  obtain ⟨z1, z2, rfl⟩ := own_form hq
  obtain ⟨N, hN⟩ : ∃ N, N = pats.length := ⟨_, rfl⟩
  rw [← hN] at hq e13
  have h5 : a.eval (.tmp 5) = .pointer (some ⟨g, 0, none⟩) := (hev 14 (by decide)).trans e14
  have h21 : a.eval (.tmp 21) = .agg #[.slice none 0 0, .slice z1 N z2, .int .i64 x, .int .i64 y, .int .i64 z] := (hev 13 (by decide)).trans e13
  refine ⟨_, storeB_run w2 g hb a _ (.tmp 5) (.tmp 21) none z1 0 N 0 z2 x y z rfl h5 h21, ?_⟩
  have st := own5_set hb (.slice none 0 0) (.slice z1 N z2) (.int .i64 x) (.int .i64 y) (.int .i64 z)
  obtain ⟨wB, hwB⟩ : ∃ wB, wB = (((((w2.setCell ⟨g, 0, none⟩ (.slice none 0 0)).setCell ⟨g, 1, none⟩ (.slice z1 N z2)).setCell ⟨g, 2, none⟩ (.int .i64 x)).setCell ⟨g, 3, none⟩ (.int .i64 y)).setCell ⟨g, 4, none⟩ (.int .i64 z)) := ⟨_, rfl⟩
  rw [← hwB] at st ⊢
  clear hwB
  have gl := World.ownsRow.lt hb g rfl
  have d2 := D0.out.pick hg2 hr2
  have ls := st.2.size
  have er : (Value.slice (some ⟨w.heap.size, 0, none⟩) 1 1).ownBlock = some w.heap.size := rfl
  have qg : ∀ k, (Value.slice z1 N z2).ownBlock = some k → k ≠ g := fun k hk e => by
   subst e
   exact owns_type (by decide) hq hb hk rfl
  exact ⟨g, N, z1, z2, pats, x, y, z, e14, hql, hqs, ⟨⟨d2.1.past st.2 (fun k hk => by cases hk; omega), grown_to d2.2.1 st.2 (by omega), hBw⟩, st.1, (own_pick R0.out hBw hg2).kept st.2 (.inr (by rw [er]; exact fun e => by have := Option.some.inj e; omega)), OwnSU.nil _ _ _, World.ownsRow.kept hq st.2 (.inr (ne_of qg)), ⟨by omega, by omega, nR⟩⟩, fun k hk => ⟨qg k hk, by have := (World.ownsRow.lt hq k hk).2; omega⟩⟩
 ·intro vs wB hvs hF
  match vs, hvs with
  | x0 :: x1 :: x2 :: x3 :: x4 :: x5 :: x6 :: x7 :: x8 :: x9 :: x10 :: x11 :: x12 :: x13 :: x14 :: [], _ =>
   obtain ⟨g, N, z1, z2, pats, x, y, z, e14, hql, hqs, K0⟩ := hF
   have e14 : x14 = .pointer (some ⟨g, 0, none⟩) := e14
   subst e14
   have K0 := hQ K0
   have hNl : pats.length ≤ 4000000 := by omega
   obtain ⟨n1, hn1⟩ : ∃ n1, n1 = wB.heap.size := ⟨_, rfl⟩
   rw [← hn1] at K0
   have QS := hQ hqs
   clear D0 R0 SA hn1 hqs hql
   simp only [fill, List.setIfInBounds_toArray, List.set_cons_succ, List.set_cons_zero]
   go_wp2_with fail
   refine (pick_to B _ 4 _ K0.out.f.dr.1 (by omega) (by omega) (by omega)).mono ?_
   rintro e w2 ⟨k1, a1, b1, rfl, r2, g2⟩
   have K2 := hQ (K0.out.pick g2 r2)
   clear r2 g2 K0
   go_wp2
   go_loopw [6] (fun i wr => ∃ (j q : Nat) (pv : Value) (us : List Value) (ps : List (List (List UInt8))), q + j ≤ 3 ∧ i = .int .i64 j ∧ Hid (ps.length ≤ q) ∧ Hid (∀ p ∈ ps, ∀ x ∈ p, x.length ≤ 21) ∧ Hid (Bk w wr B (m + 15001 + 200 * q) g n1 pv (.slice z1 N z2) us ⟨ps, pats, x, y, z⟩)) (fun i _ => (intOf i).toNat)
   case atStart => exact ⟨k1.toNat, 0, _, [], [], by omega, by simp; omega, nR, (fun p hp => by cases hp), K2.out.mono (by omega)⟩
   case round =>
    obtain ⟨j, q, pv, us, ps, hqj, rfl, PL, SH, K⟩ := hrel
    clear K2
    obtain ⟨pz, pn, pc, rfl⟩ := K.out.f.p.form'
    by_cases hj : 0 < j
    ·go_wp2_with fail
     refine (l20Words_to B (m + 15001 + 200 * q) _ K.out.f.dr.1 (by omega)).mono ?_
     rintro e w3 ⟨xs, v, hxl, hx, rfl, ho, hd⟩
     have hnn := K.out.f.gn
     have K3 := hQ ((K.out.pick hd.2.1 hd.1).mono (by omega : _ ≤ m + 15001 + 200 * (q + 1)))
     have P3 := hQ (K.out.f.p.grown hd.2.1 (fun k hk => by cases hk; omega))
     obtain ⟨uz, uc, rfl⟩ := own_form ho
     obtain ⟨un, hun⟩ : ∃ un, un = xs.length := ⟨_, rfl⟩
     rw [← hun] at ho ⊢
     have hG : Hid (∀ k, (Value.slice uz un uc).ownBlock = some k → wr.heap.size ≤ k) := fun k hk => (World.ownsRow.lt ho k hk).1
     have U3 := hQ (OwnT.mono ho (by omega : n1 ≤ wr.heap.size))
     have hw3 := hd.2.1.size
     have hPL := PL.out
     have SH2 : Hid (∀ p ∈ ps ++ [xs], ∀ x ∈ p, x.length ≤ 21) := fun p hp x hxp => by
      rcases List.mem_append.1 hp with h | h
      ·exact SH.out p h x hxp
      ·rw [List.mem_singleton.1 h] at hxp
       exact hx x hxp
     clear hd hun ho hx hxl K
     by_cases hu0 : 0 < un
     ·have e0 := (own5 K3.out.f.kb).1
      go_wp2_with (at_builtin; refine append_ss w3 w3 rfl _ _ rfl n1 wr.heap.size (.slice pz pn pc) ps us uz un uc xs rfl rfl P3.out (by omega) U3.out hG.out (by omega) (by omega) (Below.refl _ _) ?_; intro v' w5 hsu hbel hmv hgr; obtain ⟨c5, f5, K6⟩ := K3.out.push hsu hgr; obtain ⟨za, na, ca, rfl⟩ := hsu.form'; have K6 := hQ K6)
      clear hsu hbel hmv hgr
      go_roundw
      case rel => exact ⟨j - 1, q + 1, _, _, ps ++ [xs], by omega, by go_num, by (show _ ≤ _; simp; omega), SH2.out, K6.out⟩
      case measure => simp [intOf]; omega
     ·obtain rfl : un = 0 := by omega
      go_wp2
      first
       | exact ⟨⟨j - 1, q + 1, _, us, ps, by omega, by go_num, by (show _ ≤ _; omega), SH.out, K3.out⟩, by simp [intOf]; omega⟩
       | (go_roundw
          case rel => exact ⟨j - 1, q + 1, _, us, ps, by omega, by go_num, by (show _ ≤ _; omega), SH.out, K3.out⟩
          case measure => simp [intOf]; omega)
    ·obtain rfl : j = 0 := by omega
     have K := hQ (K.out.mono (by omega : _ ≤ m + 15601))
     have hq3 : q ≤ 3 := by omega
     clear hqj hj
     go_wp2_with fail
     refine (odd_to B _ n _ K.out.f.dr.1 (by omega) hn hn').mono ?_
     rintro e w2 ⟨bo, rfl, r2, g2⟩
     have K2 := hQ (K.out.pick g2 r2)
     clear r2 g2 K
     cases bo
     ·have K5 := hQ K2.out.f
      have SHB := hQ (show BookSh ⟨ps, pats, x, y, z⟩ from ⟨fun p hp x hx => by have := SH.out p hp x hx; omega, fun x hx => by have := QS.out x hx; omega⟩)
      clear K2
      obtain ⟨c0, c1, c2, c3, c4⟩ := own5 K5.out.kb
      obtain ⟨r0, r1, r2, r3, r4⟩ := own5 K5.out.kr
      obtain ⟨n0, n1', n2, n3, n4⟩ := fz5 K5.out.kr
      have EN := hQ K5.out.fin
      obtain ⟨y0, y1, y2, y3, y4⟩ := own5 EN.out.2.1
      go_wp2
      refine bodyPost_ret (v := .agg #[.slice pz pn pc, .slice z1 N z2, .int .i64 x, .int .i64 y, .int .i64 z]) (by simp [results, Tryz.results47, go_sem, y0, y1, y2, y3, y4]) rfl ⟨_, ⟨ps, pats, x, y, z⟩, rfl, EN.out.2.2.1, EN.out.2.2.2, SHB.out, EN.out.1.mono (by omega)⟩
     ·go_wp2_with fail
      refine (pick_to B _ 6 _ K2.out.f.dr.1 (by omega) (by omega) (by omega)).mono ?_
      rintro e w3 ⟨k, k0, k1, rfl, r3, g3⟩
      have K3 := hQ (K2.out.pick g3 r3)
      have hPL := PL.out
      clear r3 g3 K2
      rcases (by omega : k = 0 ∨ k = 1 ∨ k = 2 ∨ k = 3 ∨ k = 4 ∨ k = 5) with rfl | rfl | rfl | rfl | rfl | rfl
      ·obtain ⟨PW, hPW⟩ : ∃ PW, PW = w3.alloc (.cells #[] 9) := ⟨_, rfl⟩
       have KA := K3.out.alloc (.cells #[] 9)
       have PA := hQ ((K3.out.f.p.below ((Below.refl _ _).alloc nR (.cells #[] 9))))
       have hnn0 := K3.out.f.gn
       have UA := hQ (OwnT.mono (OwnT.made w3 (B := w3.heap.size) nR) hnn0.2.2)
       have hnn := K3.out.f.gn
       rw [← hPW] at KA PA UA
       have KA := hQ KA
       have hPs : PW.heap.size = w3.heap.size + 1 := by rw [hPW]; simp
       have e0 := (own5 K3.out.f.kb).1
       have hPL := PL.out
       have SHB := hQ (show BookSh ⟨ps ++ [[]], pats, x, y, z⟩ from ⟨fun p hp x hx => by
        rcases List.mem_append.1 hp with h | h
        ·have := SH.out p h x hx; omega
        ·rw [List.mem_singleton.1 h] at hx
         revert x
         decide, fun x hx => by have := QS.out x hx; omega⟩)
       clear K3
       go_upto_region 21 with (at_builtin; rw [← hPW]; refine append_ss PW PW rfl _ _ rfl n1 w3.heap.size (.slice pz pn pc) ps us (some ⟨w3.heap.size, 0, none⟩) 0 0 [] rfl (by first | rfl | (show Value.slice (some ⟨w3.heap.size + 1, 0, none⟩) 1 1 = _; rw [hPs])) PA.out (by omega) UA.out (fun k hk => Nat.le_of_eq (Option.some.inj (show some w3.heap.size = some k from hk))) (by omega) (by omega) (Below.refl _ _) ?_; intro v' w5 hsu hbel hmv hgr; obtain ⟨c5, f5, K6⟩ := KA.out.push hsu hgr; obtain ⟨za, na, ca, rfl⟩ := hsu.form'; have K6 := hQ K6)
       obtain ⟨ws, hws, K5⟩ : ∃ ws, ws = w5.setCell ⟨g, 0, none⟩ (.slice za na ca) ∧ Hid (Bf w ws B _ g n1 (.slice za na ca) (.slice z1 N z2) (us ++ [Value.slice (some ⟨w3.heap.size, 0, none⟩) 0 0]) ⟨ps ++ [[]], pats, x, y, z⟩) := ⟨_, rfl, K6.out.f⟩
       rw [← hws]
       clear hws c5 f5 K6 hsu hbel hmv hgr KA PA UA e0 hPW
       obtain ⟨c0, c1, c2, c3, c4⟩ := own5 K5.out.kb
       obtain ⟨r0, r1, r2, r3, r4⟩ := own5 K5.out.kr
       obtain ⟨n0, n1', n2, n3, n4⟩ := fz5 K5.out.kr
       have EN := hQ K5.out.fin
       obtain ⟨y0, y1, y2, y3, y4⟩ := own5 EN.out.2.1
       go_wp2
       refine bodyPost_ret (v := .agg #[.slice za na ca, .slice z1 N z2, .int .i64 x, .int .i64 y, .int .i64 z]) (by simp [results, Tryz.results47, go_sem, y0, y1, y2, y3, y4]) rfl ⟨_, ⟨ps ++ [[]], pats, x, y, z⟩, rfl, EN.out.2.2.1, EN.out.2.2.2, SHB.out, EN.out.1.mono (by omega)⟩
      ·obtain ⟨PW, hPW⟩ : ∃ PW, PW = w3.alloc (.cells #[.string ⟨#[65]⟩] 9) := ⟨_, rfl⟩
       have KA := K3.out.alloc (.cells #[.string ⟨#[65]⟩] 9)
       have PA := hQ ((K3.out.f.p.below ((Below.refl _ _).alloc nR (.cells #[.string ⟨#[65]⟩] 9))))
       have hnn0 := K3.out.f.gn
       have UA := hQ (OwnT.mono (show OwnT (w3.alloc (.cells #[.string ⟨#[65]⟩] 9)) w3.heap.size (.slice (some ⟨w3.heap.size, 0, none⟩) 1 1) [[65]] from owns_one w3 9 (.string (bs [65])) nR) hnn0.2.2)
       have hnn := K3.out.f.gn
       rw [← hPW] at KA PA UA
       have KA := hQ KA
       have hPs : PW.heap.size = w3.heap.size + 1 := by rw [hPW]; simp
       have e0 := (own5 K3.out.f.kb).1
       have hPL := PL.out
       have SHB := hQ (show BookSh ⟨ps ++ [[[65]]], pats, x, y, z⟩ from ⟨fun p hp x hx => by
        rcases List.mem_append.1 hp with h | h
        ·have := SH.out p h x hx; omega
        ·rw [List.mem_singleton.1 h] at hx
         revert x
         decide, fun x hx => by have := QS.out x hx; omega⟩)
       clear K3
       go_upto_region 21 with (at_builtin; rw [← hPW]; refine append_ss PW PW rfl _ _ rfl n1 w3.heap.size (.slice pz pn pc) ps us (some ⟨w3.heap.size, 0, none⟩) 1 1 [[65]] rfl (by first | rfl | (show Value.slice (some ⟨w3.heap.size + 1, 0, none⟩) 1 1 = _; rw [hPs])) PA.out (by omega) UA.out (fun k hk => Nat.le_of_eq (Option.some.inj (show some w3.heap.size = some k from hk))) (by omega) (by omega) (Below.refl _ _) ?_; intro v' w5 hsu hbel hmv hgr; obtain ⟨c5, f5, K6⟩ := KA.out.push hsu hgr; obtain ⟨za, na, ca, rfl⟩ := hsu.form'; have K6 := hQ K6)
       obtain ⟨ws, hws, K5⟩ : ∃ ws, ws = w5.setCell ⟨g, 0, none⟩ (.slice za na ca) ∧ Hid (Bf w ws B _ g n1 (.slice za na ca) (.slice z1 N z2) (us ++ [Value.slice (some ⟨w3.heap.size, 0, none⟩) 1 1]) ⟨ps ++ [[[65]]], pats, x, y, z⟩) := ⟨_, rfl, K6.out.f⟩
       rw [← hws]
       clear hws c5 f5 K6 hsu hbel hmv hgr KA PA UA e0 hPW
       obtain ⟨c0, c1, c2, c3, c4⟩ := own5 K5.out.kb
       obtain ⟨r0, r1, r2, r3, r4⟩ := own5 K5.out.kr
       obtain ⟨n0, n1', n2, n3, n4⟩ := fz5 K5.out.kr
       have EN := hQ K5.out.fin
       obtain ⟨y0, y1, y2, y3, y4⟩ := own5 EN.out.2.1
       go_wp2
       refine bodyPost_ret (v := .agg #[.slice za na ca, .slice z1 N z2, .int .i64 x, .int .i64 y, .int .i64 z]) (by simp [results, Tryz.results47, go_sem, y0, y1, y2, y3, y4]) rfl ⟨_, ⟨ps ++ [[[65]]], pats, x, y, z⟩, rfl, EN.out.2.2.1, EN.out.2.2.2, SHB.out, EN.out.1.mono (by omega)⟩
      ·have e1 := (own5 K3.out.f.kb).2.1
       have Q3 := hQ K3.out.f.q
       have hss := K3.out.f.dr.size
       have hgg := K3.out.f.gn
       have SHB := hQ (show BookSh ⟨ps, pats ++ [[]], x, y, z⟩ from ⟨fun p hp x hx => by have := SH.out p hp x hx; omega, fun x hx => by
        rcases List.mem_append.1 hx with h | h
        ·have := QS.out x h; omega
        ·rw [List.mem_singleton.1 h]; decide⟩)
       go_upto_region 21 with (at_builtin; refine append_str w3 w3 rfl _ _ rfl (w.heap.size + 1) (.slice z1 N z2) pats [] rfl rfl Q3.out hNl (by omega) (Below.refl _ _) ?_; intro v' w5 hown' hbel hmv hgr; obtain ⟨c5, f5, K6⟩ := K3.out.pat hown' hgr (hmv.imp_right fun h k hk => by have := h k hk; simp at this; omega); obtain ⟨qa, qc, rfl⟩ := own_form hown'; have K6 := hQ K6; obtain ⟨qn, hqn⟩ : ∃ qn, qn = (pats ++ [[]]).length := ⟨_, rfl⟩; rw [← hqn] at K6; rw [← hqn]; clear hqn)
       obtain ⟨ws, hws, K5⟩ : ∃ ws, ws = w5.setCell ⟨g, 1, none⟩ (.slice qa qn qc) ∧ Hid (Bf w ws B _ g n1 (.slice pz pn pc) (.slice qa qn qc) us ⟨ps, pats ++ [[]], x, y, z⟩) := ⟨_, rfl, K6.out⟩
       rw [← hws]
       clear hws c5 f5 K6 hown' hbel hmv hgr K3 Q3 e1
       obtain ⟨c0, c1, c2, c3, c4⟩ := own5 K5.out.kb
       obtain ⟨r0, r1, r2, r3, r4⟩ := own5 K5.out.kr
       obtain ⟨n0, n1', n2, n3, n4⟩ := fz5 K5.out.kr
       have EN := hQ K5.out.fin
       obtain ⟨y0, y1, y2, y3, y4⟩ := own5 EN.out.2.1
       go_wp2
       refine bodyPost_ret (v := .agg #[.slice pz pn pc, .slice qa qn qc, .int .i64 x, .int .i64 y, .int .i64 z]) (by simp [results, Tryz.results47, go_sem, y0, y1, y2, y3, y4]) rfl ⟨_, ⟨ps, pats ++ [[]], x, y, z⟩, rfl, EN.out.2.2.1, EN.out.2.2.2, SHB.out, EN.out.1.mono (by omega)⟩
      ·go_wp2_with fail
       have dA := K3.out.alloc (.cells #[.int .i64 (-1), .int .i64 1001] 3)
       refine (pick_to B _ 2 _ dA.f.dr.1 (by omega) (by omega) (by omega)).mono ?_
       rintro e w4 ⟨y', b0, b1, rfl, r4, g4⟩
       obtain ⟨zz, _, cz⟩ := lit_pick [-1, 1001] 3 K3.out.f.dr.1 g4 y' b0 (by simpa using b1)
       have K4 := hQ (dA.pick g4 r4)
       have e2 := (own5 K4.out.f.kb).2.2.1
       have z0 := World.ownsRow.frozenAt K4.out.f.kb 2
       obtain ⟨ws, hws, K5⟩ : ∃ ws, ws = w4.setCell ⟨g, 2, none⟩ (.int .i64 zz) ∧ Hid (Bf w ws B _ g n1 (.slice pz pn pc) (.slice z1 N z2) us ⟨ps, pats, zz, y, z⟩) := ⟨_, rfl, (Bk.put (b' := ⟨ps, pats, zz, y, z⟩) 2 K4.out rfl rfl rfl).f⟩
       have SHB := hQ (show BookSh ⟨ps, pats, zz, y, z⟩ from ⟨fun p hp x hx => by have := SH.out p hp x hx; omega, fun x hx => by have := QS.out x hx; omega⟩)
       clear dA r4 g4 K3 K4
       go_upto_region 21 with fail
       rw [← hws]
       clear hws cz e2 z0
       obtain ⟨c0, c1, c2, c3, c4⟩ := own5 K5.out.kb
       obtain ⟨r0, r1, r2, r3, r4⟩ := own5 K5.out.kr
       obtain ⟨n0, n1', n2, n3, n4⟩ := fz5 K5.out.kr
       have EN := hQ K5.out.fin
       obtain ⟨y0, y1, y2, y3, y4⟩ := own5 EN.out.2.1
       go_wp2
       refine bodyPost_ret (v := .agg #[.slice pz pn pc, .slice z1 N z2, .int .i64 zz, .int .i64 y, .int .i64 z]) (by simp [results, Tryz.results47, go_sem, y0, y1, y2, y3, y4]) rfl ⟨_, ⟨ps, pats, zz, y, z⟩, rfl, EN.out.2.2.1, EN.out.2.2.2, SHB.out, EN.out.1.mono (by omega)⟩
      ·go_wp2_with fail
       have dA := K3.out.alloc (.cells #[.int .i64 (-1), .int .i64 10001] 3)
       refine (pick_to B _ 2 _ dA.f.dr.1 (by omega) (by omega) (by omega)).mono ?_
       rintro e w4 ⟨y', b0, b1, rfl, r4, g4⟩
       obtain ⟨zz, _, cz⟩ := lit_pick [-1, 10001] 3 K3.out.f.dr.1 g4 y' b0 (by simpa using b1)
       have K4 := hQ (dA.pick g4 r4)
       have e3 := (own5 K4.out.f.kb).2.2.2.1
       have z0 := World.ownsRow.frozenAt K4.out.f.kb 3
       obtain ⟨ws, hws, K5⟩ : ∃ ws, ws = w4.setCell ⟨g, 3, none⟩ (.int .i64 zz) ∧ Hid (Bf w ws B _ g n1 (.slice pz pn pc) (.slice z1 N z2) us ⟨ps, pats, x, zz, z⟩) := ⟨_, rfl, (Bk.put (b' := ⟨ps, pats, x, zz, z⟩) 3 K4.out rfl rfl rfl).f⟩
       have SHB := hQ (show BookSh ⟨ps, pats, x, zz, z⟩ from ⟨fun p hp x hx => by have := SH.out p hp x hx; omega, fun x hx => by have := QS.out x hx; omega⟩)
       clear dA r4 g4 K3 K4
       go_upto_region 21 with fail
       rw [← hws]
       clear hws cz e3 z0
       obtain ⟨c0, c1, c2, c3, c4⟩ := own5 K5.out.kb
       obtain ⟨r0, r1, r2, r3, r4⟩ := own5 K5.out.kr
       obtain ⟨n0, n1', n2, n3, n4⟩ := fz5 K5.out.kr
       have EN := hQ K5.out.fin
       obtain ⟨y0, y1, y2, y3, y4⟩ := own5 EN.out.2.1
       go_wp2
       refine bodyPost_ret (v := .agg #[.slice pz pn pc, .slice z1 N z2, .int .i64 x, .int .i64 zz, .int .i64 z]) (by simp [results, Tryz.results47, go_sem, y0, y1, y2, y3, y4]) rfl ⟨_, ⟨ps, pats, x, zz, z⟩, rfl, EN.out.2.2.1, EN.out.2.2.2, SHB.out, EN.out.1.mono (by omega)⟩
      ·go_wp2_with fail
       have dA := K3.out.alloc (.cells #[.int .i64 0, .int .i64 31] 3)
       refine (pick_to B _ 2 _ dA.f.dr.1 (by omega) (by omega) (by omega)).mono ?_
       rintro e w4 ⟨y', b0, b1, rfl, r4, g4⟩
       obtain ⟨zz, _, cz⟩ := lit_pick [0, 31] 3 K3.out.f.dr.1 g4 y' b0 (by simpa using b1)
       have K4 := hQ (dA.pick g4 r4)
       have e4 := (own5 K4.out.f.kb).2.2.2.2
       have z0 := World.ownsRow.frozenAt K4.out.f.kb 4
       obtain ⟨ws, hws, K5⟩ : ∃ ws, ws = w4.setCell ⟨g, 4, none⟩ (.int .i64 zz) ∧ Hid (Bf w ws B _ g n1 (.slice pz pn pc) (.slice z1 N z2) us ⟨ps, pats, x, y, zz⟩) := ⟨_, rfl, (Bk.put (b' := ⟨ps, pats, x, y, zz⟩) 4 K4.out rfl rfl rfl).f⟩
       have SHB := hQ (show BookSh ⟨ps, pats, x, y, zz⟩ from ⟨fun p hp x hx => by have := SH.out p hp x hx; omega, fun x hx => by have := QS.out x hx; omega⟩)
       clear dA r4 g4 K3 K4
       go_upto_region 21 with fail
       rw [← hws]
       clear hws cz e4 z0
       obtain ⟨c0, c1, c2, c3, c4⟩ := own5 K5.out.kb
       obtain ⟨r0, r1, r2, r3, r4⟩ := own5 K5.out.kr
       obtain ⟨n0, n1', n2, n3, n4⟩ := fz5 K5.out.kr
       have EN := hQ K5.out.fin
       obtain ⟨y0, y1, y2, y3, y4⟩ := own5 EN.out.2.1
       go_wp2
       refine bodyPost_ret (v := .agg #[.slice pz pn pc, .slice z1 N z2, .int .i64 x, .int .i64 y, .int .i64 zz]) (by simp [results, Tryz.results47, go_sem, y0, y1, y2, y3, y4]) rfl ⟨_, ⟨ps, pats, x, y, zz⟩, rfl, EN.out.2.2.1, EN.out.2.2.2, SHB.out, EN.out.1.mono (by omega)⟩
end Go.Proofs.YtofnchdijanikaaGreatDoor
namespace Go.Proofs.YtofnchdijanikaaGreatDoor
open Go.RowKit
theorem Dr.more {w wx w' : World} {B m : Nat} (h : Dr w wx B m) (hb : Below wx.heap.size wx w') : Dr w w' B m :=
 ⟨h.1.kept (grown_of_below hb none) (by intro k h; cases h), grownBy_trans h.2.1 (grown_of_below hb _), h.2.2⟩
theorem l20Small_to' (x : Int) (w : World) (h0 : 0 ≤ x) (h1 : x ≤ 999) : Calls Tryz.prog 73 #[.int .i64 x] w (SmallTo w) := by
 obtain ⟨n, rfl⟩ := Int.eq_ofNat_of_zero_le h0
 exact l20Small_to n w (by omega)
set_option maxHeartbeats 8000000 in
theorem l20Said_to (B m : Nat) (w : World) (h : RdTo B m w) (hm : m ≤ 800000) :
  Calls Tryz.prog 49 #[.pointer (some ⟨B, 0, none⟩)] w (StrTo 120 200 m w B) := by
 have H := hQ (Dr.start h)
 clear h
 go_enter Tryz.func49, Tryz.ntmps49
 go_wp2_with fail
 refine (odd_to B m 6 w H.out.1 (by omega) (by omega) (by omega)).mono ?_
 rintro e w1 ⟨b, rfl, r1, g1⟩
 have D1 := hQ (H.out.pick g1 r1)
 clear H r1 g1
 cases b
 ·go_wp2_with fail
  refine (pick_to B (m + 1) 5 _ D1.out.1 (by omega) (by omega) (by omega)).mono ?_
  rintro e w2 ⟨k1, a1, b1, rfl, r2, g2⟩
  have D2 := hQ (D1.out.pick g2 r2)
  clear r2 g2 D1
  go_wp2
  go_loopw [3, 4] (fun o i wr => ∃ (l : List UInt8) (j q : Nat), q + j ≤ 5 ∧ o = .string (bs l) ∧ i = .int .i64 j ∧ Hid (l.length ≤ 4 + 22 * q) ∧ Hid (Dr w wr B (m + 2 + 14 * q))) (fun _ i _ => (intOf i).toNat)
  case atStart => exact ⟨[116, 101, 120, 116], (1 + k1).toNat, 0, by omega, rfl, by simp; omega, by (show _ ≤ _; simp), D2.out.mono (by omega)⟩
  case round =>
   obtain ⟨l, j, q, hqj, rfl, rfl, hl, hd⟩ := hrel
   clear D2
   by_cases hj : 0 < j
   ·have hll := hl.out
    have c9 : ¬ 9223372036854775807 < l.length + 1 := by omega
    obtain ⟨L1, hL1⟩ : ∃ L1, L1 = l ++ [32] := ⟨_, rfl⟩
    have CAT : bs l ++ (⟨#[32]⟩ : ByteArray) = bs L1 := by rw [hL1]; exact bs_append l [32]
    have h1 : L1.length ≤ 5 + 22 * q := by rw [hL1, List.length_append]; simp; omega
    clear hL1 hll
    go_wp2_with fail
    refine (l20Text_to B (m + 2 + 14 * q) 0 _ hd.out.1 (by omega) (by omega) (by omega)).mono ?_
    rintro e w4 ⟨x, hx, rfl, d4⟩
    have D4 := hQ ((hd.out.pick d4.2.1 d4.1).mono (by omega : _ ≤ m + 2 + 14 * (q + 1)))
    have c8 : ¬ 9223372036854775807 < L1.length + x.length := by omega
    obtain ⟨L2, hL2⟩ : ∃ L2, L2 = L1 ++ x := ⟨_, rfl⟩
    have CAT2 : bs L1 ++ bs x = bs L2 := by rw [hL2]; exact bs_append L1 x
    have h2 : Hid (L2.length ≤ 4 + 22 * (q + 1)) := by show _ ≤ _; rw [hL2, List.length_append]; omega
    clear d4 hd hL2 hx h1 CAT c9
    go_wp2
    first
     | exact ⟨⟨L2, j - 1, q + 1, by omega, rfl, by go_num, h2.out, D4.out⟩, by simp [intOf]; omega⟩
     | (go_roundw
        case rel => exact ⟨L2, j - 1, q + 1, by omega, rfl, by go_num, h2.out, D4.out⟩
        case measure => simp [intOf]; omega)
   ·obtain rfl : j = 0 := by omega
    have LL : Hid (l.length ≤ 120) := by have := hl.out; show _ ≤ _; omega
    have D0 := hQ (hd.out.mono (by omega : _ ≤ m + 72))
    clear hl hd hqj hj
    go_wp2_with fail
    refine (pick_to B _ 60 _ D0.out.1 (by omega) (by omega) (by omega)).mono ?_
    rintro e w1 ⟨k1, p1, q1, rfl, r1, s1⟩
    have D1 := hQ (D0.out.pick s1 r1)
    clear r1 s1 D0
    go_wp2_with fail
    refine (l20Small_to' (30 + k1) _ (by omega) (by omega)).mono ?_
    rintro e x1 ⟨l1, hl1, rfl, b1⟩
    have E1 := hQ (D1.out.more b1)
    have g1 : ¬ 9223372036854775807 < 6 + l1.length := by omega
    obtain ⟨T1, hT1⟩ : ∃ T, T = [119, 105, 100, 116, 104, 32] ++ l1 := ⟨_, rfl⟩
    have C1 : (⟨#[119, 105, 100, 116, 104, 32]⟩ : ByteArray) ++ bs l1 = bs T1 := by rw [hT1]; exact bs_append [119, 105, 100, 116, 104, 32] l1
    have K1 : Hid (T1.length ≤ 120) := by show _ ≤ _; rw [hT1, List.length_append]; simp; omega
    clear b1 D1 hl1 hT1
    go_wp2_with fail
    refine (pick_to B _ 256 _ E1.out.1 (by omega) (by omega) (by omega)).mono ?_
    rintro e w2 ⟨k2, p2, q2, rfl, r2, s2⟩
    have D2 := hQ (E1.out.pick s2 r2)
    clear r2 s2 E1
    go_wp2_with fail
    refine (l20Small_to' (k2) _ (by omega) (by omega)).mono ?_
    rintro e x2 ⟨l2, hl2, rfl, b2⟩
    have E2 := hQ (D2.out.more b2)
    have g2 : ¬ 9223372036854775807 < 5 + l2.length := by omega
    obtain ⟨T2, hT2⟩ : ∃ T, T = [109, 111, 115, 116, 32] ++ l2 := ⟨_, rfl⟩
    have C2 : (⟨#[109, 111, 115, 116, 32]⟩ : ByteArray) ++ bs l2 = bs T2 := by rw [hT2]; exact bs_append [109, 111, 115, 116, 32] l2
    have K2 : Hid (T2.length ≤ 120) := by show _ ≤ _; rw [hT2, List.length_append]; simp; omega
    clear b2 D2 hl2 hT2
    go_wp2_with fail
    refine (pick_to B _ 9 _ E2.out.1 (by omega) (by omega) (by omega)).mono ?_
    rintro e w3 ⟨k3, p3, q3, rfl, r3, s3⟩
    have D3 := hQ (E2.out.pick s3 r3)
    clear r3 s3 E2
    go_wp2_with fail
    refine (l20Small_to' (1 + k3) _ (by omega) (by omega)).mono ?_
    rintro e x3 ⟨l3, hl3, rfl, b3⟩
    have E3 := hQ (D3.out.more b3)
    have g3 : ¬ 9223372036854775807 < 6 + l3.length := by omega
    obtain ⟨T3, hT3⟩ : ∃ T, T = [108, 105, 110, 101, 115, 32] ++ l3 := ⟨_, rfl⟩
    have C3 : (⟨#[108, 105, 110, 101, 115, 32]⟩ : ByteArray) ++ bs l3 = bs T3 := by rw [hT3]; exact bs_append [108, 105, 110, 101, 115, 32] l3
    have K3 : Hid (T3.length ≤ 120) := by show _ ≤ _; rw [hT3, List.length_append]; simp; omega
    clear b3 D3 hl3 hT3
    go_wp2_with fail
    refine (l20Pattern_to B _ 6 _ E3.out.1 (by omega) (by omega) (by omega)).mono ?_
    rintro e x4 ⟨l4, hl4, rfl, d4⟩
    have E4 := hQ (E3.out.pick d4.2.1 d4.1)
    have g4 : ¬ 9223372036854775807 < 7 + l4.length := by omega
    obtain ⟨T4, hT4⟩ : ∃ T, T = [104, 121, 112, 104, 101, 110, 32] ++ l4 := ⟨_, rfl⟩
    have C4 : (⟨#[104, 121, 112, 104, 101, 110, 32]⟩ : ByteArray) ++ bs l4 = bs T4 := by rw [hT4]; exact bs_append [104, 121, 112, 104, 101, 110, 32] l4
    have K4 : Hid (T4.length ≤ 120) := by show _ ≤ _; rw [hT4, List.length_append]; simp; omega
    clear d4 E3 hl4 hT4
    go_wp2_with fail
    refine (pick_to B _ 4 _ E4.out.1 (by omega) (by omega) (by omega)).mono ?_
    rintro e w5 ⟨k5, p5, q5, rfl, r5, s5⟩
    have D5 := hQ (E4.out.pick s5 r5)
    clear r5 s5 E4
    go_wp2_with fail
    refine (l20Small_to' (k5) _ (by omega) (by omega)).mono ?_
    rintro e x5 ⟨l5, hl5, rfl, b5⟩
    have E5 := hQ (D5.out.more b5)
    have g5 : ¬ 9223372036854775807 < 5 + l5.length := by omega
    obtain ⟨T5, hT5⟩ : ∃ T, T = [112, 97, 103, 101, 32] ++ l5 := ⟨_, rfl⟩
    have C5 : (⟨#[112, 97, 103, 101, 32]⟩ : ByteArray) ++ bs l5 = bs T5 := by rw [hT5]; exact bs_append [112, 97, 103, 101, 32] l5
    have K5 : Hid (T5.length ≤ 120) := by show _ ≤ _; rw [hT5, List.length_append]; simp; omega
    clear b5 D5 hl5 hT5
    go_wp2_with fail
    refine (pick_to B _ 8 _ (E5.out.alloc _).1 (by omega) (by omega) (by omega)).mono ?_
    rintro e w6 ⟨k, k0, k1', rfl, r6, s6⟩
    obtain ⟨z, hz, cz⟩ := litS_pick [l, l, T1, T2, T3, T4, [112, 97, 103, 101, 115], T5] 9 E5.out.1 s6 k k0 (by simpa using k1')
    have D6 := hQ (((E5.out.alloc _).pick s6 r6).mono (by omega : _ ≤ m + 200))
    have HZ : Hid (z.length ≤ 120) := by
     simp only [List.mem_cons, List.not_mem_nil, or_false] at hz
     show _ ≤ _
     rcases hz with rfl | rfl | rfl | rfl | rfl | rfl | rfl | rfl
     ·exact LL.out
     ·exact LL.out
     ·exact K1.out
     ·exact K2.out
     ·exact K3.out
     ·exact K4.out
     ·decide
     ·exact K5.out
    clear s6 r6 E5 hz
    go_wp2
    go_ret
    exact ⟨z, HZ.out, rfl, D6.out⟩
 ·go_wp2_with fail
  refine (pick_to B (m + 1) 12 _ (D1.out.alloc _).1 (by omega) (by omega) (by omega)).mono ?_
  rintro e w2 ⟨k, k0, k1, rfl, r2, g2⟩
  obtain ⟨z, hz, cz⟩ := litS_pick [[], [116, 101, 120, 116], [116, 101, 120, 116, 32], [116, 101, 120, 116, 32, 65], [119, 105, 100, 116, 104], [119, 105, 100, 116, 104, 32, 49, 48, 48, 49], [108, 105, 110, 101, 115, 32, 48], [112, 97, 103, 101, 32, 48], [112, 97, 103, 101, 32, 57, 57], [112, 97, 103, 101, 115, 32], [104, 121, 112, 104, 101, 110, 32, 97, 32, 98], [109, 111, 115, 116, 32, 48, 49, 50]] 9 D1.out.1 g2 k k0 (by simpa using k1)
  have D2 := hQ (((D1.out.alloc _).pick g2 r2).mono (by omega : _ ≤ m + 200))
  have HZ := hQ ((by decide : ∀ z ∈ [[], [116, 101, 120, 116], [116, 101, 120, 116, 32], [116, 101, 120, 116, 32, 65], [119, 105, 100, 116, 104], [119, 105, 100, 116, 104, 32, 49, 48, 48, 49], [108, 105, 110, 101, 115, 32, 48], [112, 97, 103, 101, 32, 48], [112, 97, 103, 101, 32, 57, 57], [112, 97, 103, 101, 115, 32], [104, 121, 112, 104, 101, 110, 32, 97, 32, 98], ([109, 111, 115, 116, 32, 48, 49, 50] : List UInt8)], z.length ≤ 120) z hz)
  clear g2 r2 D1 hz
  go_wp2
  go_ret
  exact ⟨z, HZ.out, rfl, D2.out⟩
end Go.Proofs.YtofnchdijanikaaGreatDoor
namespace Go.Proofs.YtofnchdijanikaaGreatDoor
open Go.RowKit
theorem OwnT.form' {w : World} {B : Nat} {v : Value} {xs : List (List UInt8)} (h : OwnT w B v xs) : ∃ z n c, v = .slice z n c := by
 obtain ⟨z, c, e⟩ := own_form h
 exact ⟨z, _, c, e⟩
structure Dq (w w1 wx : World) (B m g5 hi : Nat) (pv qv : Value) (b : DBook) : Prop where
 dr : Dr w1 wx B m
 kr : wx.ownsRow w.heap.size 27 5 (.slice (some ⟨w.heap.size, 0, none⟩) 1 1) 1 [.slice none 0 0, .slice none 0 0, .int .i64 0, .int .i64 0, .int .i64 0]
 kb : wx.ownsRow w.heap.size 27 5 (.slice (some ⟨g5, 0, none⟩) 1 1) 1 [pv, qv, .int .i64 b.w, .int .i64 b.most, .int .i64 b.lines]
 o : BookO wx (w1.heap.size + 1) hi (.agg #[pv, qv, .int .i64 b.w, .int .i64 b.most, .int .i64 b.lines]) b
 s : w.heap.size < B ∧ B < g5 ∧ hi ≤ g5 ∧ B < w1.heap.size
section
variable {w w1 wx w' : World} {B m m' g5 hi : Nat} {pv qv : Value} {b : DBook}
theorem Dq.pick (h : Dq w w1 wx B m g5 hi pv qv b) (hg : wx.grownBy w' (some B)) (hr : RdTo B m' w') : Dq w w1 w' B m' g5 hi pv qv b := by
 have hs := h.s
 have hB := h.dr.2.2
 have e1 : (Value.slice (some ⟨w.heap.size, 0, none⟩) 1 1).ownBlock = some w.heap.size := rfl
 have e2 : (Value.slice (some ⟨g5, 0, none⟩) 1 1).ownBlock = some g5 := rfl
 exact ⟨h.dr.pick hg hr, h.kr.kept hg (.inr (by rw [e1]; exact fun e => by have := Option.some.inj e; omega)), h.kb.kept hg (.inr (by rw [e2]; exact fun e => by have := Option.some.inj e; omega)), h.o.grown hg (.inl (by omega)), hs⟩
theorem Dq.alloc (h : Dq w w1 wx B m g5 hi pv qv b) (o : Obj) : Dq w w1 (wx.alloc o) B m g5 hi pv qv b := ⟨h.dr.alloc o, h.kr.alloc o, h.kb.alloc o, h.o.below ((Below.refl _ _).alloc nR o), h.s⟩
theorem Dq.mono (h : Dq w w1 wx B m g5 hi pv qv b) (hm : m ≤ m') : Dq w w1 wx B m' g5 hi pv qv b := ⟨h.dr.mono hm, h.kr, h.kb, h.o, h.s⟩
theorem Dq.push {base : Nat} {xs : List (List UInt8)} {v : Value} (h : Dq w w1 wx B m g5 hi pv qv b) (ho : OwnT wx base v xs) (hbase : g5 < base) (hw : w1.heap.size ≤ base) (hg : wx.grownBy w' v.ownBlock) : Dq w w1 w' B m g5 hi pv qv b := by
 have hs := h.s
 have hl : ∀ k, v.ownBlock = some k → base ≤ k := fun k hk => (World.ownsRow.lt ho k hk).1
 have e1 : (Value.slice (some ⟨w.heap.size, 0, none⟩) 1 1).ownBlock = some w.heap.size := rfl
 have e2 : (Value.slice (some ⟨g5, 0, none⟩) 1 1).ownBlock = some g5 := rfl
 have hq : BookO w' (w1.heap.size + 1) hi (.agg #[pv, qv, .int .i64 b.w, .int .i64 b.most, .int .i64 b.lines]) b := by
  cases hk : v.ownBlock with
  | none =>
   rw [hk] at hg
   exact h.o.below (below_of_grown hg nR)
  | some k =>
   rw [hk] at hg
   exact h.o.grown hg (.inr (by have := hl k hk; omega))
 exact ⟨h.dr.push ho hw hg, h.kr.kept hg (.inr (by rw [e1]; exact fun e => by have := hl _ e.symm; omega)), h.kb.kept hg (.inr (by rw [e2]; exact fun e => by have := hl _ e.symm; omega)), hq, hs⟩
theorem Dq.fin (h : Dq w w1 wx B m g5 hi pv qv b) (hb : Below w.heap.size w w1) : World.ownsRow (((((wx.setCell ⟨w.heap.size, 0, none⟩ (pv)).setCell ⟨w.heap.size, 1, none⟩ (qv)).setCell ⟨w.heap.size, 2, none⟩ (.int .i64 b.w)).setCell ⟨w.heap.size, 3, none⟩ (.int .i64 b.most)).setCell ⟨w.heap.size, 4, none⟩ (.int .i64 b.lines)) w.heap.size 27 5 (.slice (some ⟨w.heap.size, 0, none⟩) 1 1) 1 [pv, qv, .int .i64 b.w, .int .i64 b.most, .int .i64 b.lines] ∧
  BookR (((((wx.setCell ⟨w.heap.size, 0, none⟩ (pv)).setCell ⟨w.heap.size, 1, none⟩ (qv)).setCell ⟨w.heap.size, 2, none⟩ (.int .i64 b.w)).setCell ⟨w.heap.size, 3, none⟩ (.int .i64 b.most)).setCell ⟨w.heap.size, 4, none⟩ (.int .i64 b.lines)) (.agg #[pv, qv, .int .i64 b.w, .int .i64 b.most, .int .i64 b.lines]) b ∧ Below w.heap.size w (((((wx.setCell ⟨w.heap.size, 0, none⟩ (pv)).setCell ⟨w.heap.size, 1, none⟩ (qv)).setCell ⟨w.heap.size, 2, none⟩ (.int .i64 b.w)).setCell ⟨w.heap.size, 3, none⟩ (.int .i64 b.most)).setCell ⟨w.heap.size, 4, none⟩ (.int .i64 b.lines)) ∧ wx.grownBy (((((wx.setCell ⟨w.heap.size, 0, none⟩ (pv)).setCell ⟨w.heap.size, 1, none⟩ (qv)).setCell ⟨w.heap.size, 2, none⟩ (.int .i64 b.w)).setCell ⟨w.heap.size, 3, none⟩ (.int .i64 b.most)).setCell ⟨w.heap.size, 4, none⟩ (.int .i64 b.lines)) (some w.heap.size) := by
 have hs := h.s
 have FR := own5_set h.kr pv qv (.int .i64 b.w) (.int .i64 b.most) (.int .i64 b.lines)
 have b1 := h.dr.below hb (by omega)
 have hz := hb.size
 exact ⟨FR.1, (h.o.grown FR.2 (.inl (by omega))).read, b1.grown FR.2 b1.size (fun k hk => by cases hk; exact nR), FR.2⟩
end
theorem grown_of_none {w w' : World} (h : w.grownBy w' none) (B : Nat) : w.grownBy w' (some B) := ⟨h.os, h.tape, h.output, h.size, fun k hk _ => h.block k hk (by simp)⟩
end Go.Proofs.YtofnchdijanikaaGreatDoor

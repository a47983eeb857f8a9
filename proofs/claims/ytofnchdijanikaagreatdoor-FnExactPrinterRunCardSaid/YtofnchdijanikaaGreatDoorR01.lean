/-
  PROVED HERE: what the printer's lines need, part R01. Conditions: each theorem's own.
-/
import Derived.Test.YtofnchdijanikaaGreatDoorV09
import Derived.Test.YtofnchdijanikaaGreatDoorV06
import Derived.Test.YtofnchdijanikaaGreatDoorV08
import Derived.Deep.RegionHeld3
import Derived.Deep.Cut
import Derived.Deep.CutRange
import Derived.Test.YtofnchdijanikaaGreatDoorV01
set_option linter.unusedVariables false
set_option linter.unusedSimpArgs false
set_option maxRecDepth 100000
namespace Go.Proofs.YtofnchdijanikaaGreatDoor
open Go.RowKit
def prR (b : DBook) (ls : List (List UInt8)) : DBook × List (List UInt8) := if bookB b = true ∧ ls.length ≤ 30 then prRun b ls else (zB, [])
def RunPost (B : Nat) (r : DBook × List (List UInt8)) (w : World) (e : Ending) (w' : World) : Prop :=
 ∃ pv qv us av lo hi, e = .returned (.tuple #[bookV pv qv r.1, av]) ∧ OwnB w' lo hi pv qv us r.1 ∧ B ≤ lo ∧ hi ≤ w'.heap.size ∧ OwnT w' B av r.2 ∧ (∀ k, av.ownBlock = some k → k < lo ∨ hi ≤ k) ∧ Below w.heap.size w w'
theorem prRun_snoc (b : DBook) (xs : List (List UInt8)) (l : List UInt8) : prRun b (xs ++ [l]) = ((prLine (prRun b xs).1 l).1, (prRun b xs).2 ++ [(prLine (prRun b xs).1 l).2]) := by
 rw [prRun_app]
 rfl
theorem owns_types {w : World} {b b' : Nat} {E E' : TypeId} {s s' n n' : Nat} {v v' : Value} {xs xs' : List Value} (hE : E ≠ E') (h : w.ownsRow b E s v n xs) (h' : w.ownsRow b' E' s' v' n' xs') {k : Nat} (hk : v.ownBlock = some k) (hk' : v'.ownBlock = some k) : False := by
 rcases h.2 with ⟨e, _⟩ | ⟨g, cap, cur, e, _, hh, _⟩
 ·rw [e] at hk; cases hk
 rcases h'.2 with ⟨e', _⟩ | ⟨g', cap', cur', e', _, hh', _⟩
 ·rw [e'] at hk'; cases hk'
 rw [e] at hk
 rw [e'] at hk'
 have e1 : g = k := Option.some.inj hk
 have e2 : g' = k := Option.some.inj hk'
 subst e1
 rw [e2, hh] at hh'
 have h9 := Option.some.inj hh'
 injection h9 with _ h8 _
 exact hE h8
structure RI (w wr : World) (g4 g6 lo hi : Nat) (pv qv : Value) (us : List Value) (av : Value) (b : DBook) (ans : List (List UInt8)) : Prop where
 kr : wr.ownsRow w.heap.size 27 5 (.slice (some ⟨g4, 0, none⟩) 1 1) 1 [.slice none 0 0, .slice none 0 0, .int .i64 0, .int .i64 0, .int .i64 0]
 kb : wr.ownsRow w.heap.size 27 5 (.slice (some ⟨g6, 0, none⟩) 1 1) 1 [pv, qv, .int .i64 b.w, .int .i64 b.most, .int .i64 b.lines]
 o : OwnB wr lo hi pv qv us b
 t : OwnT wr w.heap.size av ans
 bl : Below w.heap.size w wr
 s : g4 < lo ∧ (g6 < lo ∨ hi ≤ g6) ∧ hi ≤ wr.heap.size ∧ w.heap.size ≤ lo ∧ g4 ≠ g6
 ta : ∀ k, av.ownBlock = some k → k < lo ∨ hi ≤ k
section
variable {w wr w5 w8 : World} {g4 g6 lo hi : Nat} {pv qv pv' qv' av av' : Value} {us us' : List Value} {b b' : DBook} {ans : List (List UInt8)}
theorem RI.tn (h : RI w wr g4 g6 lo hi pv qv us av b ans) : av.ownBlock ≠ some g4 ∧ av.ownBlock ≠ some g6 :=
 ⟨fun e => owns_types (by decide) h.t h.kr e rfl, fun e => owns_types (by decide) h.t h.kb e rfl⟩
theorem sl_block (g : Nat) : (Value.slice (some ⟨g, 0, none⟩) 1 1).ownBlock = some g := rfl
theorem ne_some {v : Value} {k : Nat} (h : v.ownBlock ≠ some k) : v.ownBlock = none ∨ v.ownBlock ≠ some k := .inr h
theorem RI.step (h : RI w wr g4 g6 lo hi pv qv us av b ans) (hb : Below wr.heap.size wr w5) (ho : OwnB w5 wr.heap.size w8.heap.size pv' qv' us' b') (h8 : w8.heap.size ≤ w5.heap.size) :
  RI w (((((w5.setCell ⟨g6, 0, none⟩ pv').setCell ⟨g6, 1, none⟩ qv').setCell ⟨g6, 2, none⟩ (.int .i64 b'.w)).setCell ⟨g6, 3, none⟩ (.int .i64 b'.most)).setCell ⟨g6, 4, none⟩ (.int .i64 b'.lines)) g4 g6 wr.heap.size w8.heap.size pv' qv' us' av b' ans := by
 have FF := own5_set (owns_below h.kb hb) pv' qv' (.int .i64 b'.w) (.int .i64 b'.most) (.int .i64 b'.lines)
 have l4 := World.ownsRow.lt h.kr g4 rfl
 have l6 := World.ownsRow.lt h.kb g6 rfl
 have hs := h.s
 have hz := hb.size
 have bw := h.bl.size
 exact ⟨World.ownsRow.kept (owns_below h.kr hb) FF.2 (.inr (by rw [sl_block]; exact fun e => hs.2.2.2.2 (Option.some.inj e))), FF.1, ho.grown FF.2 (.inl l6.2), World.ownsRow.kept (owns_below h.t hb) FF.2 (.inr h.tn.2),
  (below_next h.bl hb nR).grown FF.2 (by omega) (fun k hk => by cases hk; exact l6.1), ⟨l4.2, .inl l6.2, Nat.le_trans h8 FF.2.size, bw, hs.2.2.2.2⟩, fun k hk => .inl (World.ownsRow.lt h.t k hk).2⟩
theorem RI.more {l : List UInt8} {o : Obj} (h : RI w wr g4 g6 lo hi pv qv us av b ans) (ht : OwnT w8 w.heap.size av' (ans ++ [l])) (hg : wr.grownBy w8 av.ownBlock) (hm : Moved (wr.alloc o) av av') (hb : Below w.heap.size w w8) :
  RI w w8 g4 g6 lo hi pv qv us av' b (ans ++ [l]) := by
 have hs := h.s
 have hz := hg.size
 have ob : OwnB w8 lo hi pv qv us b := by
  cases hk : av.ownBlock with
  | none =>
   rw [hk] at hg
   exact h.o.below (below_of_grown hg nR)
  | some k =>
   rw [hk] at hg
   exact h.o.grown hg (h.ta k hk)
 exact ⟨h.kr.kept hg (.inr (by rw [sl_block]; exact fun e => h.tn.1 e.symm)), h.kb.kept hg (.inr (by rw [sl_block]; exact fun e => h.tn.2 e.symm)), ob, ht, hb, ⟨hs.1, hs.2.1, Nat.le_trans hs.2.2.1 hz, hs.2.2.2⟩, fun k hk => by
  rcases hm with e | e
  ·exact h.ta k (e.symm.trans hk)
  ·have := e k hk; rw [World.size_alloc] at this; exact .inr (by omega)⟩
theorem RI.fin (h : RI w wr g4 g6 lo hi pv qv us av b ans) :
  World.ownsRow (((((wr.setCell ⟨g4, 0, none⟩ pv).setCell ⟨g4, 1, none⟩ qv).setCell ⟨g4, 2, none⟩ (.int .i64 b.w)).setCell ⟨g4, 3, none⟩ (.int .i64 b.most)).setCell ⟨g4, 4, none⟩ (.int .i64 b.lines)) w.heap.size 27 5 (.slice (some ⟨g4, 0, none⟩) 1 1) 1 [pv, qv, .int .i64 b.w, .int .i64 b.most, .int .i64 b.lines] ∧
  RunPost w.heap.size (b, ans) w (.returned (.tuple #[.agg #[pv, qv, .int .i64 b.w, .int .i64 b.most, .int .i64 b.lines], av])) (((((wr.setCell ⟨g4, 0, none⟩ pv).setCell ⟨g4, 1, none⟩ qv).setCell ⟨g4, 2, none⟩ (.int .i64 b.w)).setCell ⟨g4, 3, none⟩ (.int .i64 b.most)).setCell ⟨g4, 4, none⟩ (.int .i64 b.lines)) := by
 have FF := own5_set h.kr pv qv (.int .i64 b.w) (.int .i64 b.most) (.int .i64 b.lines)
 have l4 := World.ownsRow.lt h.kr g4 rfl
 have hs := h.s
 exact ⟨FF.1, pv, qv, us, av, lo, hi, rfl, h.o.grown FF.2 (.inl hs.1), hs.2.2.2.1, Nat.le_trans hs.2.2.1 FF.2.size, World.ownsRow.kept h.t FF.2 (.inr h.tn.1), h.ta, h.bl.grown FF.2 h.bl.size (fun k hk => by cases hk; exact l4.1)⟩
end
set_option maxHeartbeats 16000000 in
theorem implPR0_any (b : DBook) (bv : Bool) (hv : bookB b = bv) (ls : List (List UInt8)) (hbad : bv = false ∨ 30 < ls.length) (hs : BookSh b) (v : Value) (w : World) (h : BookR w v b) (lv : Value) (hl : TxtS w lv ls) :
  Calls Tryz.prog 15 #[v, lv] w (RunPost w.heap.size (zB, []) w) := by
 have hz : True := trivial
 have hll : True := trivial
 obtain ⟨p1, q1, rfl, hp, hq⟩ := h
 obtain ⟨pa, pl, pc, rfl⟩ : ∃ a l c, p1 = .slice a l c := by obtain ⟨va, vc, e, _⟩ := ss_idx hp; exact ⟨_, _, _, e⟩
 obtain ⟨qa, ql, qc, rfl⟩ : ∃ a l c, q1 = .slice a l c := by obtain ⟨a, c, e, _⟩ := hq; exact ⟨_, _, _, e⟩
 obtain ⟨la, lc, rfl⟩ : ∃ a c, lv = .slice a ls.length c := by obtain ⟨a, c, e, _⟩ := hl; exact ⟨_, _, e⟩
 have CL : Hid (∀ j, j < ls.length → ∃ bq off, la = some ⟨bq, off, none⟩ ∧ w.cell? ⟨bq, off + j, none⟩ = some (.string (bs (ls.getD j [])))) := fun j hj => by
  obtain ⟨bq, off, cap, e, _, hc⟩ := txt_pos hl (by omega)
  injection e with e1
  exact ⟨bq, off, e1, hc j hj⟩
 obtain ⟨bw, hbw⟩ : ∃ y, y = b.w := ⟨_, rfl⟩
 obtain ⟨bm, hbm⟩ : ∃ y, y = b.most := ⟨_, rfl⟩
 obtain ⟨bl, hbl⟩ : ∃ y, y = b.lines := ⟨_, rfl⟩
 have VB : Hid (∀ y z, bookV y z b = .agg #[y, z, .int .i64 bw, .int .i64 bm, .int .i64 bl]) := fun y z => by rw [hbw, hbm, hbl]; rfl
 have BRB := hQ (fun w' (hb : Below w.heap.size w w') => BookR.below (b := b) ⟨_, _, rfl, hp, hq⟩ hb)
 have HBW := hQ (show bw = b.w ∧ bm = b.most ∧ bl = b.lines from ⟨hbw, hbm, hbl⟩)
 rw [← hbw, ← hbm, ← hbl] at BRB ⊢
 obtain ⟨n, hn⟩ : ∃ n, n = ls.length := ⟨_, rfl⟩
 have HN := hQ hn
 rw [← hn] at CL hbad ⊢
 obtain ⟨W2, hW⟩ : ∃ W2, W2 = ((w.alloc (.cells #[.slice pa pl pc, .slice qa ql qc, .int .i64 bw, .int .i64 bm, .int .i64 bl] 27)).alloc (.cells #[.slice none 0 0, .slice none 0 0, .int .i64 0, .int .i64 0, .int .i64 0] 27)) := ⟨_, rfl⟩
 have AW : Below w.heap.size w W2 := by rw [hW]; exact ((Below.refl _ _).alloc nR _).alloc (by simp) _
 have SW : W2.heap.size = w.heap.size + 2 := by rw [hW]; simp
 have R1 : W2.ownsRow w.heap.size 27 5 (.slice (some ⟨w.heap.size, 0, none⟩) 1 1) 1 [.slice pa pl pc, .slice qa ql qc, .int .i64 bw, .int .i64 bm, .int .i64 bl] := by rw [hW]; exact ((own5_made w nR _ _ _ _ _ _).alloc _)
 have R2 : W2.ownsRow w.heap.size 27 5 (.slice (some ⟨w.heap.size + 1, 0, none⟩) 1 1) 1 [.slice none 0 0, .slice none 0 0, .int .i64 0, .int .i64 0, .int .i64 0] := by
  have := own5_made (w.alloc (.cells #[.slice pa pl pc, .slice qa ql qc, .int .i64 bw, .int .i64 bm, .int .i64 bl] 27)) (B := w.heap.size) (by simp) 27 (.slice none 0 0) (.slice none 0 0) (.int .i64 0) (.int .i64 0) (.int .i64 0)
  rw [show (w.alloc (.cells #[.slice pa pl pc, .slice qa ql qc, .int .i64 bw, .int .i64 bm, .int .i64 bl] 27)).heap.size = w.heap.size + 1 by simp] at this
  rw [hW]
  exact this
 have HA := hQ AW
 have HSW := hQ SW
 have H1 := hQ R1
 have H2 := hQ R2
 have BV : Hid (Calls Tryz.prog 27 #[.agg #[.slice pa pl pc, .slice qa ql qc, .int .i64 bw, .int .i64 bm, .int .i64 bl]] W2 (Ret (.bool bv) W2)) := by
  have := implBook_any b hs _ W2 (BRB.out W2 AW)
  rw [hv] at this
  exact this
 have ng : bv = true → (30 : Int) < (n : Int) := fun e => by
  rcases hbad with h | h
  ·rw [h] at e; cases e
  ·omega
 clear hp hq hbw hbm hbl AW SW R1 R2 CL hn HN hbad hv hz hll HBW VB BRB
 cases bv
 ·clear ng
  go_enter Tryz.func15, Tryz.ntmps15
  go_upto_region 1 with fail
  rw [← hW]
  obtain ⟨r0, r1, r2, r3, r4⟩ := own5 H1.out
  clear hW
  go_wp2_with (go_at_call 27; refine BV.out.mono ?_; rintro e w5 ⟨rfl, hb5⟩; have KR := hQ (owns_below H2.out hb5); obtain ⟨p0, p1, p2, p3, p4⟩ := own5 KR.out; obtain ⟨n0, n1, n2, n3, n4⟩ := fz5 KR.out; have FF := hQ (own5_set KR.out (.slice none 0 0) (.slice none 0 0) (.int .i64 0) (.int .i64 0) (.int .i64 0)))
  obtain ⟨y0, y1, y2, y3, y4⟩ := own5 FF.out.1
  have hsw := HSW.out
  have B5 := below_next HA.out hb5 nR
  have FB := B5.grown FF.out.2 B5.size (fun k hk => by cases hk; omega)
  refine bodyPost_ret (v := .tuple #[.agg #[.slice none 0 0, .slice none 0 0, .int .i64 0, .int .i64 0, .int .i64 0], (.slice none 0 0)]) (by simp [results, Tryz.results15, go_sem, y0, y1, y2, y3, y4]) rfl ⟨.slice none 0 0, .slice none 0 0, [], (.slice none 0 0), _, _, rfl, ⟨OwnSU.nil _ _ _, OwnT.nil _ _, fun k hk => by cases hk⟩, FB.size, nR, OwnT.nil _ _, (fun k hk => by cases hk), FB⟩
 ·have ng := ng rfl
  go_enter Tryz.func15, Tryz.ntmps15
  go_upto_region 1 with fail
  rw [← hW]
  obtain ⟨r0, r1, r2, r3, r4⟩ := own5 H1.out
  clear hW
  go_wp2_with (go_at_call 27; refine BV.out.mono ?_; rintro e w5 ⟨rfl, hb5⟩; have KR := hQ (owns_below H2.out hb5); obtain ⟨p0, p1, p2, p3, p4⟩ := own5 KR.out; obtain ⟨n0, n1, n2, n3, n4⟩ := fz5 KR.out; have FF := hQ (own5_set KR.out (.slice none 0 0) (.slice none 0 0) (.int .i64 0) (.int .i64 0) (.int .i64 0)))
  obtain ⟨y0, y1, y2, y3, y4⟩ := own5 FF.out.1
  have hsw := HSW.out
  have B5 := below_next HA.out hb5 nR
  have FB := B5.grown FF.out.2 B5.size (fun k hk => by cases hk; omega)
  refine bodyPost_ret (v := .tuple #[.agg #[.slice none 0 0, .slice none 0 0, .int .i64 0, .int .i64 0, .int .i64 0], (.slice none 0 0)]) (by simp [results, Tryz.results15, go_sem, y0, y1, y2, y3, y4]) rfl ⟨.slice none 0 0, .slice none 0 0, [], (.slice none 0 0), _, _, rfl, ⟨OwnSU.nil _ _ _, OwnT.nil _ _, fun k hk => by cases hk⟩, FB.size, nR, OwnT.nil _ _, (fun k hk => by cases hk), FB⟩
set_option maxHeartbeats 16000000 in
theorem specPR0_any (b : DBook) (bv : Bool) (hv : bookB b = bv) (ls : List (List UInt8)) (hbad : bv = false ∨ 30 < ls.length) (hs : BookSh b) (v : Value) (w : World) (h : BookR w v b) (lv : Value) (hl : TxtS w lv ls) :
  Calls Tryz.prog 16 #[v, lv] w (RunPost w.heap.size (zB, []) w) := by
 have hz : True := trivial
 have hll : True := trivial
 obtain ⟨p1, q1, rfl, hp, hq⟩ := h
 obtain ⟨pa, pl, pc, rfl⟩ : ∃ a l c, p1 = .slice a l c := by obtain ⟨va, vc, e, _⟩ := ss_idx hp; exact ⟨_, _, _, e⟩
 obtain ⟨qa, ql, qc, rfl⟩ : ∃ a l c, q1 = .slice a l c := by obtain ⟨a, c, e, _⟩ := hq; exact ⟨_, _, _, e⟩
 obtain ⟨la, lc, rfl⟩ : ∃ a c, lv = .slice a ls.length c := by obtain ⟨a, c, e, _⟩ := hl; exact ⟨_, _, e⟩
 have CL : Hid (∀ j, j < ls.length → ∃ bq off, la = some ⟨bq, off, none⟩ ∧ w.cell? ⟨bq, off + j, none⟩ = some (.string (bs (ls.getD j [])))) := fun j hj => by
  obtain ⟨bq, off, cap, e, _, hc⟩ := txt_pos hl (by omega)
  injection e with e1
  exact ⟨bq, off, e1, hc j hj⟩
 obtain ⟨bw, hbw⟩ : ∃ y, y = b.w := ⟨_, rfl⟩
 obtain ⟨bm, hbm⟩ : ∃ y, y = b.most := ⟨_, rfl⟩
 obtain ⟨bl, hbl⟩ : ∃ y, y = b.lines := ⟨_, rfl⟩
 have VB : Hid (∀ y z, bookV y z b = .agg #[y, z, .int .i64 bw, .int .i64 bm, .int .i64 bl]) := fun y z => by rw [hbw, hbm, hbl]; rfl
 have BRB := hQ (fun w' (hb : Below w.heap.size w w') => BookR.below (b := b) ⟨_, _, rfl, hp, hq⟩ hb)
 have HBW := hQ (show bw = b.w ∧ bm = b.most ∧ bl = b.lines from ⟨hbw, hbm, hbl⟩)
 rw [← hbw, ← hbm, ← hbl] at BRB ⊢
 obtain ⟨n, hn⟩ : ∃ n, n = ls.length := ⟨_, rfl⟩
 have HN := hQ hn
 rw [← hn] at CL hbad ⊢
 obtain ⟨W3, hW⟩ : ∃ W3, W3 = (((w.alloc (.cells #[.slice pa pl pc, .slice qa ql qc, .int .i64 bw, .int .i64 bm, .int .i64 bl] 27)).alloc (.cells #[.slice none 0 0, .slice none 0 0, .int .i64 0, .int .i64 0, .int .i64 0] 27)).alloc (.cells #[] 9)) := ⟨_, rfl⟩
 have AW : Below w.heap.size w W3 := by rw [hW]; exact (((Below.refl _ _).alloc nR _).alloc (by simp) _).alloc (by simp; omega) _
 have SW : W3.heap.size = w.heap.size + 3 := by rw [hW]; simp
 have R1 : W3.ownsRow w.heap.size 27 5 (.slice (some ⟨w.heap.size, 0, none⟩) 1 1) 1 [.slice pa pl pc, .slice qa ql qc, .int .i64 bw, .int .i64 bm, .int .i64 bl] := by rw [hW]; exact ((own5_made w nR _ _ _ _ _ _).alloc _).alloc _
 have R2 : W3.ownsRow w.heap.size 27 5 (.slice (some ⟨w.heap.size + 1, 0, none⟩) 1 1) 1 [.slice none 0 0, .slice none 0 0, .int .i64 0, .int .i64 0, .int .i64 0] := by
  have := own5_made (w.alloc (.cells #[.slice pa pl pc, .slice qa ql qc, .int .i64 bw, .int .i64 bm, .int .i64 bl] 27)) (B := w.heap.size) (by simp) 27 (.slice none 0 0) (.slice none 0 0) (.int .i64 0) (.int .i64 0) (.int .i64 0)
  rw [show (w.alloc (.cells #[.slice pa pl pc, .slice qa ql qc, .int .i64 bw, .int .i64 bm, .int .i64 bl] 27)).heap.size = w.heap.size + 1 by simp] at this
  rw [hW]
  exact this.alloc _
 have R3 : OwnT W3 w.heap.size (.slice (some ⟨w.heap.size + 2, 0, none⟩) 0 0) [] := by
  have := OwnT.made ((w.alloc (.cells #[.slice pa pl pc, .slice qa ql qc, .int .i64 bw, .int .i64 bm, .int .i64 bl] 27)).alloc (.cells #[.slice none 0 0, .slice none 0 0, .int .i64 0, .int .i64 0, .int .i64 0] 27)) (B := w.heap.size) (by simp; omega)
  rw [show ((w.alloc (.cells #[.slice pa pl pc, .slice qa ql qc, .int .i64 bw, .int .i64 bm, .int .i64 bl] 27)).alloc (.cells #[.slice none 0 0, .slice none 0 0, .int .i64 0, .int .i64 0, .int .i64 0] 27)).heap.size = w.heap.size + 2 by simp] at this
  rw [hW]
  exact this
 have H3 := hQ R3
 clear R3
 have HA := hQ AW
 have HSW := hQ SW
 have H1 := hQ R1
 have H2 := hQ R2
 have BV : Hid (Calls Tryz.prog 19 #[.agg #[.slice pa pl pc, .slice qa ql qc, .int .i64 bw, .int .i64 bm, .int .i64 bl]] W3 (Ret (.bool bv) W3)) := by
  have := specBook_any b hs _ W3 (BRB.out W3 AW)
  rw [hv] at this
  exact this
 have ng : bv = true → (30 : Int) < (n : Int) := fun e => by
  rcases hbad with h | h
  ·rw [h] at e; cases e
  ·omega
 clear hp hq hbw hbm hbl AW SW R1 R2 CL hn HN hbad hv hz hll HBW VB BRB
 cases bv
 ·clear ng
  go_enter Tryz.func16, Tryz.ntmps16
  go_upto_region 2 with fail
  rw [← hW]
  obtain ⟨r0, r1, r2, r3, r4⟩ := own5 H1.out
  clear hW
  go_wp2_with (go_at_call 19; refine BV.out.mono ?_; rintro e w5 ⟨rfl, hb5⟩; have KR := hQ (owns_below H2.out hb5); obtain ⟨p0, p1, p2, p3, p4⟩ := own5 KR.out; obtain ⟨n0, n1, n2, n3, n4⟩ := fz5 KR.out; have FF := hQ (own5_set KR.out (.slice none 0 0) (.slice none 0 0) (.int .i64 0) (.int .i64 0) (.int .i64 0)))
  obtain ⟨y0, y1, y2, y3, y4⟩ := own5 FF.out.1
  have hsw := HSW.out
  have B5 := below_next HA.out hb5 nR
  have FB := B5.grown FF.out.2 B5.size (fun k hk => by cases hk; omega)
  refine bodyPost_ret (v := .tuple #[.agg #[.slice none 0 0, .slice none 0 0, .int .i64 0, .int .i64 0, .int .i64 0], (.slice (some ⟨w.heap.size + 2, 0, none⟩) 0 0)]) (by simp [results, Tryz.results16, go_sem, y0, y1, y2, y3, y4]) rfl ⟨.slice none 0 0, .slice none 0 0, [], (.slice (some ⟨w.heap.size + 2, 0, none⟩) 0 0), _, _, rfl, ⟨OwnSU.nil _ _ _, OwnT.nil _ _, fun k hk => by cases hk⟩, FB.size, nR, World.ownsRow.kept (owns_below H3.out hb5) FF.out.2 (.inr (fun e => by have := Option.some.inj (show some (w.heap.size + 2) = some (w.heap.size + 1) from e); omega)), (fun k hk => .inl (by have e : w.heap.size + 2 = k := Option.some.inj hk; have := hb5.size; have := FF.out.2.size; omega)), FB⟩
 ·have ng := ng rfl
  go_enter Tryz.func16, Tryz.ntmps16
  go_upto_region 2 with fail
  rw [← hW]
  obtain ⟨r0, r1, r2, r3, r4⟩ := own5 H1.out
  clear hW
  go_wp2_with (go_at_call 19; refine BV.out.mono ?_; rintro e w5 ⟨rfl, hb5⟩; have KR := hQ (owns_below H2.out hb5); obtain ⟨p0, p1, p2, p3, p4⟩ := own5 KR.out; obtain ⟨n0, n1, n2, n3, n4⟩ := fz5 KR.out; have FF := hQ (own5_set KR.out (.slice none 0 0) (.slice none 0 0) (.int .i64 0) (.int .i64 0) (.int .i64 0)))
  obtain ⟨y0, y1, y2, y3, y4⟩ := own5 FF.out.1
  have hsw := HSW.out
  have B5 := below_next HA.out hb5 nR
  have FB := B5.grown FF.out.2 B5.size (fun k hk => by cases hk; omega)
  refine bodyPost_ret (v := .tuple #[.agg #[.slice none 0 0, .slice none 0 0, .int .i64 0, .int .i64 0, .int .i64 0], (.slice (some ⟨w.heap.size + 2, 0, none⟩) 0 0)]) (by simp [results, Tryz.results16, go_sem, y0, y1, y2, y3, y4]) rfl ⟨.slice none 0 0, .slice none 0 0, [], (.slice (some ⟨w.heap.size + 2, 0, none⟩) 0 0), _, _, rfl, ⟨OwnSU.nil _ _ _, OwnT.nil _ _, fun k hk => by cases hk⟩, FB.size, nR, World.ownsRow.kept (owns_below H3.out hb5) FF.out.2 (.inr (fun e => by have := Option.some.inj (show some (w.heap.size + 2) = some (w.heap.size + 1) from e); omega)), (fun k hk => .inl (by have e : w.heap.size + 2 = k := Option.some.inj hk; have := hb5.size; have := FF.out.2.size; omega)), FB⟩
end Go.Proofs.YtofnchdijanikaaGreatDoor
namespace Go.Proofs.YtofnchdijanikaaGreatDoor
open Go.RowKit
theorem NC.ownB' {w : World} {base hi : Nat} {pv qv : Value} {us : List Value} {b : DBook} (h : OwnB w base hi pv qv us b) : BookN (bookV pv qv b) := fun p q x y z e => by
 injection e with e
 have := congrArg (fun s : Array Value => s[1]?) e
 simp at this
 subst this
 exact NC.own h.q
set_option maxHeartbeats 64000000 in
theorem implPR_any (b : DBook) (hv : bookB b = true) (ls : List (List UInt8)) (h30 : ls.length ≤ 30) (hll : ∀ x ∈ ls, x.length ≤ 3000000) (v : Value) (w : World) (h : BookR w v b) (hz : BookN v) (lv : Value) (hl : TxtS w lv ls) (htab : LnTab w) :
  Calls Tryz.prog 15 #[v, lv] w (RunPost w.heap.size (prRun b ls) w) := by
 obtain ⟨p1, q1, rfl, hp, hq⟩ := h
 obtain ⟨pa, pl, pc, rfl⟩ : ∃ a l c, p1 = .slice a l c := by obtain ⟨va, vc, e, _⟩ := ss_idx hp; exact ⟨_, _, _, e⟩
 obtain ⟨qa, ql, qc, rfl⟩ : ∃ a l c, q1 = .slice a l c := by obtain ⟨a, c, e, _⟩ := hq; exact ⟨_, _, _, e⟩
 obtain ⟨la, lc, rfl⟩ : ∃ a c, lv = .slice a ls.length c := by obtain ⟨a, c, e, _⟩ := hl; exact ⟨_, _, e⟩
 have CL : Hid (∀ j, j < ls.length → ∃ bq off, la = some ⟨bq, off, none⟩ ∧ w.cell? ⟨bq, off + j, none⟩ = some (.string (bs (ls.getD j [])))) := fun j hj => by
  obtain ⟨bq, off, cap, e, _, hc⟩ := txt_pos hl (by omega)
  injection e with e1
  exact ⟨bq, off, e1, hc j hj⟩
 have TK := hQ (fun k (hk : k < ls.length) => take_snoc ls [] k hk)
 have TA := hQ (show ls.take ls.length = ls from List.take_length)
 have LL : Hid (∀ k, k < ls.length → (ls.getD k []).length ≤ 3000000) := fun k hk => by
  rw [getD_eq ls [] k hk]
  exact hll _ (List.getElem_mem hk)
 obtain ⟨bw, hbw⟩ : ∃ y, y = b.w := ⟨_, rfl⟩
 obtain ⟨bm, hbm⟩ : ∃ y, y = b.most := ⟨_, rfl⟩
 obtain ⟨bl, hbl⟩ : ∃ y, y = b.lines := ⟨_, rfl⟩
 have VB : Hid (∀ y z, bookV y z b = .agg #[y, z, .int .i64 bw, .int .i64 bm, .int .i64 bl]) := fun y z => by rw [hbw, hbm, hbl]; rfl
 have BRB := hQ (fun w' (hb : Below w.heap.size w w') => BookR.below (b := b) ⟨_, _, rfl, hp, hq⟩ hb)
 have HBW := hQ (show bw = b.w ∧ bm = b.most ∧ bl = b.lines from ⟨hbw, hbm, hbl⟩)
 rw [← hbw, ← hbm, ← hbl] at BRB hz ⊢
 obtain ⟨n, hn⟩ : ∃ n, n = ls.length := ⟨_, rfl⟩
 have HN := hQ hn
 rw [← hn] at CL TK TA LL ⊢
 rw [← hn] at h30
 obtain ⟨W2, hW⟩ : ∃ W2, W2 = ((w.alloc (.cells #[.slice pa pl pc, .slice qa ql qc, .int .i64 bw, .int .i64 bm, .int .i64 bl] 27)).alloc (.cells #[.slice none 0 0, .slice none 0 0, .int .i64 0, .int .i64 0, .int .i64 0] 27)) := ⟨_, rfl⟩
 have AW : Below w.heap.size w W2 := by rw [hW]; exact ((Below.refl _ _).alloc nR _).alloc (by simp) _
 have SW : W2.heap.size = w.heap.size + 2 := by rw [hW]; simp
 have R1 : W2.ownsRow w.heap.size 27 5 (.slice (some ⟨w.heap.size, 0, none⟩) 1 1) 1 [.slice pa pl pc, .slice qa ql qc, .int .i64 bw, .int .i64 bm, .int .i64 bl] := by rw [hW]; exact ((own5_made w nR _ _ _ _ _ _).alloc _)
 have R2 : W2.ownsRow w.heap.size 27 5 (.slice (some ⟨w.heap.size + 1, 0, none⟩) 1 1) 1 [.slice none 0 0, .slice none 0 0, .int .i64 0, .int .i64 0, .int .i64 0] := by
  have := own5_made (w.alloc (.cells #[.slice pa pl pc, .slice qa ql qc, .int .i64 bw, .int .i64 bm, .int .i64 bl] 27)) (B := w.heap.size) (by simp) 27 (.slice none 0 0) (.slice none 0 0) (.int .i64 0) (.int .i64 0) (.int .i64 0)
  rw [show (w.alloc (.cells #[.slice pa pl pc, .slice qa ql qc, .int .i64 bw, .int .i64 bm, .int .i64 bl] 27)).heap.size = w.heap.size + 1 by simp] at this
  rw [hW]
  exact this
 have HA := hQ AW
 have HSW := hQ SW
 have H1 := hQ R1
 have H2 := hQ R2
 have HTB : Hid (∀ w', Below w.heap.size w w' → LnTab w') := fun w' hb => htab.below hb nR
 have BV : Hid (Calls Tryz.prog 27 #[.agg #[.slice pa pl pc, .slice qa ql qc, .int .i64 bw, .int .i64 bm, .int .i64 bl]] W2 (Ret (.bool true) W2)) := by
  have := implBook_any b (bookSh_ok (bookB_true hv)) _ W2 (BRB.out W2 AW)
  rw [hv] at this
  exact this
 have CLH : Hid (∀ w', Below w.heap.size w w' → Calls Tryz.prog 37 #[.agg #[.slice pa pl pc, .slice qa ql qc, .int .i64 bw, .int .i64 bm, .int .i64 bl]] w' fun e w2 => ∃ ya ma da yb mb dd us2, e = .returned (.agg #[.slice ya ma da, .slice yb mb dd, .int .i64 bw, .int .i64 bm, .int .i64 bl]) ∧ OwnB w2 w'.heap.size w2.heap.size (.slice ya ma da) (.slice yb mb dd) us2 b ∧ Below w'.heap.size w' w2) := fun w' hb => by
  refine Calls.mono (clone_any b hv _ w' (BRB.out w' hb) hz) ?_
  rintro e w2 ⟨pv2, qv2, us2, rfl, ho, hb⟩
  obtain ⟨ya, ma, da, yb, mb, db, rfl, rfl⟩ := ho.forms
  exact ⟨ya, ma, da, yb, mb, db, us2, by rw [VB.out], ho, hb⟩
 have LP : Hid (∀ w' lo hi pv qv us bk l, bookB bk = true → Below w.heap.size w w' → OwnB w' lo hi pv qv us bk → l.length ≤ 3000000 → Calls Tryz.prog 10 #[.agg #[pv, qv, .int .i64 bk.w, .int .i64 bk.most, .int .i64 bk.lines], .string (bs l)] w' fun e w2 => ∃ ya ma da yb mb dd us2, e = .returned (.tuple #[.agg #[.slice ya ma da, .slice yb mb dd, .int .i64 (prLine bk l).1.w, .int .i64 (prLine bk l).1.most, .int .i64 (prLine bk l).1.lines], .string (bs (prLine bk l).2)]) ∧ OwnB w2 w'.heap.size w2.heap.size (.slice ya ma da) (.slice yb mb dd) us2 (prLine bk l).1 ∧ Below w'.heap.size w' w2) := fun w' lo hi pv qv us bk l hbk hb ho hl => by
  refine Calls.mono (implPL_any bk hbk _ w' ho.read (NC.ownB' ho) l (by omega) (HTB.out w' hb)) ?_
  rintro e w2 ⟨pv2, qv2, us2, rfl, ho2, hb2⟩
  obtain ⟨ya, ma, da, yb, mb, dd, rfl, rfl⟩ := ho2.forms
  exact ⟨ya, ma, da, yb, mb, dd, us2, rfl, ho2, hb2⟩
 have RS : Hid (∀ k, k < n → prRun b (ls.take (k + 1)) = ((prLine (prRun b (ls.take k)).1 (ls.getD k [])).1, (prRun b (ls.take k)).2 ++ [(prLine (prRun b (ls.take k)).1 (ls.getD k [])).2])) := fun k hk => by rw [TK.out k hk, prRun_snoc]
 have OK : Hid (∀ k, bookB (prRun b (ls.take k)).1 = true) := fun k => prRun_ok _ _ hv
 have AL : Hid (∀ k, k < n → (prRun b (ls.take k)).2.length ≤ 4000000) := fun k hk => by rw [prRun_len, List.length_take]; omega
 have RA : Hid (prRun b (ls.take n) = prRun b ls) := by show _ = _; rw [TA.out]
 have R00 : Hid (prRun b (ls.take 0) = (b, [])) := by show _ = _; rw [List.take_zero]; rfl
 clear hp hq hbw hbm hbl AW SW R1 R2 hz hv htab hn TK TA hll hl HN VB BRB
 have ng : ¬ (30 : Int) < (n : Int) := by omega
 go_enter Tryz.func15, Tryz.ntmps15
 go_upto_region 1 with fail
 rw [← hW]
 obtain ⟨r0, r1, r2, r3, r4⟩ := own5 H1.out
 clear hW
 go_upto_region 5 with (first | (go_at_call 27; refine BV.out.mono ?_; rintro e w2 ⟨rfl, hb2⟩; have B2 := hQ (below_next HA.out hb2 nR); have I1 := hQ (owns_below H1.out hb2); have I2 := hQ (owns_below H2.out hb2); obtain ⟨i0, i1, i2, i3, i4⟩ := own5 I1.out) | (go_at_call 37; refine (CLH.out _ B2.out).mono ?_; rintro e w4 ⟨ya, ma, da, yb, mb, dd, us, rfl, ho4, hb4⟩))
 have s2 := hb2.size
 have s4 := hb4.size
 have sw := HSW.out
 have B4 := below_next B2.out hb4 nR
 obtain ⟨wc, g6, hwc, hg6, RI0⟩ : ∃ wc g6, wc = w4.alloc (.cells #[.slice ya ma da, .slice yb mb dd, .int .i64 bw, .int .i64 bm, .int .i64 bl] 27) ∧ g6 = w4.heap.size ∧ Hid (RI w wc (w.heap.size + 1) g6 w2.heap.size w4.heap.size (.slice ya ma da) (.slice yb mb dd) us (.slice none 0 0) b []) :=
  ⟨_, _, rfl, rfl, (owns_below I2.out hb4).alloc _, (by obtain ⟨e1, e2, e3⟩ := HBW.out; rw [e1, e2, e3]; exact own5_made w4 B4.size _ _ _ _ _ _), ho4.below ((Below.refl w4.heap.size w4).alloc nR _), OwnT.nil _ _, B4.alloc B4.size _, ⟨by omega, .inr nR, by rw [World.size_alloc]; omega, by omega, by omega⟩, (fun k hk => by cases hk)⟩
 rw [← hwc, ← hg6]
 clear hwc hg6 H1 H2 HA BV CLH hb2 hb4 B2 I1 I2 ho4 B4 i0 i1 i2 i3 i4 r0 r1 r2 r3 r4 s2 s4 sw HSW HBW
 go_wp2
 go_loopw [7, 25] (fun av i wr => ∃ (k lo hi : Nat) (pv qv : Value) (us : List Value), k ≤ n ∧ i = .int .i64 k ∧ Hid (RI w wr (w.heap.size + 1) g6 lo hi pv qv us av (prRun b (ls.take k)).1 (prRun b (ls.take k)).2)) (fun _ i _ => n - (intOf i).toNat)
 case atStart => exact ⟨0, _, _, _, _, us, Nat.zero_le _, rfl, by rw [R00.out]; exact RI0.out⟩
 case round =>
  obtain ⟨k, lo, hi, pv, qv, us, hk, rfl, H⟩ := hrel
  clear RI0
  obtain ⟨bk, hbk⟩ : ∃ bk, bk = (prRun b (ls.take k)).1 := ⟨_, rfl⟩
  obtain ⟨ak, hak⟩ : ∃ ak, ak = (prRun b (ls.take k)).2 := ⟨_, rfl⟩
  rw [← hbk, ← hak] at H
  by_cases hlt : k < n
  ·have hlt2 : (k : Int) < (n : Int) := by omega
   obtain ⟨bq, off, rfl, cl⟩ := CL.out k hlt
   have RSk := hQ (RS.out k hlt)
   have okk := OK.out k
   have akl := AL.out k hlt
   have lln := LL.out k hlt
   obtain ⟨l, hl⟩ : ∃ l, l = ls.getD k [] := ⟨_, rfl⟩
   rw [← hbk, ← hak, ← hl] at RSk
   rw [← hbk] at okk
   rw [← hak] at akl
   rw [← hl] at lln
   rw [← hl] at cl
   have cl2 := (H.out.bl.cell (p := ⟨bq, off + k, none⟩) (World.block_lt_of_cell? w _ cl)).trans cl
   obtain ⟨pz, pn, pc, qz, qn, qc, rfl, rfl⟩ := H.out.o.forms
   obtain ⟨c0, c1, c2, c3, c4⟩ := own5 H.out.kb
   have LPk := hQ (LP.out wr lo hi _ _ us bk l okk H.out.bl H.out.o lln)
   obtain ⟨R, hR⟩ : ∃ R, R = prLine bk l := ⟨_, rfl⟩
   rw [← hR] at LPk RSk
   clear hbk hak hl hR cl okk lln
   go_upto_region 10 with (go_at_call 10; refine LPk.out.mono ?_; rintro e w5 ⟨ya, ma, da, yb, mb, dd, us2, rfl, ho5, hb5⟩; have K6 := hQ (World.ownsRow.alloc (owns_below H.out.kb hb5) (.cells #[.slice ya ma da, .slice yb mb dd, .int .i64 R.1.w, .int .i64 R.1.most, .int .i64 R.1.lines] 27)); obtain ⟨x0, x1, x2, x3, x4⟩ := own5 K6.out; obtain ⟨n0, n1, n2, n3, n4⟩ := fz5 K6.out; obtain ⟨y0, y1, y2, y3, y4⟩ := own5 (own5_made w5 nR 27 (.slice ya ma da) (.slice yb mb dd) (.int .i64 R.1.w) (.int .i64 R.1.most) (.int .i64 R.1.lines)))
   obtain ⟨ws, hws, R1⟩ : ∃ ws, ws = ((((((w5.alloc (.cells #[.slice ya ma da, .slice yb mb dd, .int .i64 R.1.w, .int .i64 R.1.most, .int .i64 R.1.lines] 27)).setCell ⟨g6, 0, none⟩ (.slice ya ma da)).setCell ⟨g6, 1, none⟩ (.slice yb mb dd)).setCell ⟨g6, 2, none⟩ (.int .i64 R.1.w)).setCell ⟨g6, 3, none⟩ (.int .i64 R.1.most)).setCell ⟨g6, 4, none⟩ (.int .i64 R.1.lines)) ∧ Hid (RI w ws (w.heap.size + 1) g6 wr.heap.size w5.heap.size (.slice ya ma da) (.slice yb mb dd) us2 u7 R.1 ak) := ⟨_, rfl, RI.step (w8 := w5) H.out (hb5.alloc hb5.size _) (ho5.below ((Below.refl w5.heap.size w5).alloc nR _)) (by rw [World.size_alloc]; omega)⟩
   rw [← hws]
   clear hws K6 x0 x1 x2 x3 x4 n0 n1 n2 n3 n4 y0 y1 y2 y3 y4 ho5 hb5 LPk H c0 c1 c2 c3 c4 cl2
   go_wp2_with (at_builtin; refine append_str w ws rfl _ _ rfl w.heap.size u7 ak R.2 rfl rfl R1.out.t akl nR R1.out.bl ?_; intro v' w8 hown hbel hmv hgr; have R2 := hQ (R1.out.more hown hgr hmv hbel))
   clear R1 hown hbel hmv hgr
   first
    | exact ⟨⟨k + 1, _, _, _, _, us2, by omega, by go_num, by rw [RSk.out]; exact R2.out⟩, by (simp [intOf]) <;> omega⟩
    | (go_roundw
       case rel => exact ⟨k + 1, _, _, _, _, us2, by omega, by go_num, by rw [RSk.out]; exact R2.out⟩
       case measure => (simp [intOf]) <;> omega)
  ·obtain rfl : k = n := by omega
   have E : Hid ((bk, ak) = prRun b ls) := by show _ = _; rw [hbk, hak, ← RA.out]
   obtain ⟨pz, pn, pc, qz, qn, qc, rfl, rfl⟩ := H.out.o.forms
   obtain ⟨c0, c1, c2, c3, c4⟩ := own5 H.out.kb
   obtain ⟨d0, d1, d2, d3, d4⟩ := own5 H.out.kr
   obtain ⟨n0, n1, n2, n3, n4⟩ := fz5 H.out.kr
   have FIN := hQ H.out.fin
   obtain ⟨y0, y1, y2, y3, y4⟩ := own5 FIN.out.1
   clear hbk hak
   go_wp2
   refine bodyPost_ret (v := .tuple #[.agg #[.slice pz pn pc, .slice qz qn qc, .int .i64 bk.w, .int .i64 bk.most, .int .i64 bk.lines], u7]) (by simp [results, Tryz.results15, go_sem, y0, y1, y2, y3, y4]) rfl ?_
   have h9 := FIN.out.2
   rw [E.out] at h9
   exact h9
end Go.Proofs.YtofnchdijanikaaGreatDoor
namespace Go.Proofs.YtofnchdijanikaaGreatDoor
open Go.RowKit
set_option maxHeartbeats 64000000 in
theorem specPR_any (b : DBook) (hv : bookB b = true) (ls : List (List UInt8)) (h30 : ls.length ≤ 30) (hll : ∀ x ∈ ls, x.length ≤ 3000000) (v : Value) (w : World) (h : BookR w v b) (hz : BookN v) (lv : Value) (hl : TxtS w lv ls) :
  Calls Tryz.prog 16 #[v, lv] w (RunPost w.heap.size (prRun b ls) w) := by
 obtain ⟨p1, q1, rfl, hp, hq⟩ := h
 obtain ⟨pa, pl, pc, rfl⟩ : ∃ a l c, p1 = .slice a l c := by obtain ⟨va, vc, e, _⟩ := ss_idx hp; exact ⟨_, _, _, e⟩
 obtain ⟨qa, ql, qc, rfl⟩ : ∃ a l c, q1 = .slice a l c := by obtain ⟨a, c, e, _⟩ := hq; exact ⟨_, _, _, e⟩
 obtain ⟨la, lc, rfl⟩ : ∃ a c, lv = .slice a ls.length c := by obtain ⟨a, c, e, _⟩ := hl; exact ⟨_, _, e⟩
 have CL : Hid (∀ j, j < ls.length → ∃ bq off, la = some ⟨bq, off, none⟩ ∧ w.cell? ⟨bq, off + j, none⟩ = some (.string (bs (ls.getD j [])))) := fun j hj => by
  obtain ⟨bq, off, cap, e, _, hc⟩ := txt_pos hl (by omega)
  injection e with e1
  exact ⟨bq, off, e1, hc j hj⟩
 have TK := hQ (fun k (hk : k < ls.length) => take_snoc ls [] k hk)
 have TA := hQ (show ls.take ls.length = ls from List.take_length)
 have LL : Hid (∀ k, k < ls.length → (ls.getD k []).length ≤ 3000000) := fun k hk => by
  rw [getD_eq ls [] k hk]
  exact hll _ (List.getElem_mem hk)
 obtain ⟨bw, hbw⟩ : ∃ y, y = b.w := ⟨_, rfl⟩
 obtain ⟨bm, hbm⟩ : ∃ y, y = b.most := ⟨_, rfl⟩
 obtain ⟨bl, hbl⟩ : ∃ y, y = b.lines := ⟨_, rfl⟩
 have VB : Hid (∀ y z, bookV y z b = .agg #[y, z, .int .i64 bw, .int .i64 bm, .int .i64 bl]) := fun y z => by rw [hbw, hbm, hbl]; rfl
 have BRB := hQ (fun w' (hb : Below w.heap.size w w') => BookR.below (b := b) ⟨_, _, rfl, hp, hq⟩ hb)
 have HBW := hQ (show bw = b.w ∧ bm = b.most ∧ bl = b.lines from ⟨hbw, hbm, hbl⟩)
 rw [← hbw, ← hbm, ← hbl] at BRB hz ⊢
 obtain ⟨n, hn⟩ : ∃ n, n = ls.length := ⟨_, rfl⟩
 have HN := hQ hn
 rw [← hn] at CL TK TA LL ⊢
 rw [← hn] at h30
 obtain ⟨W3, hW⟩ : ∃ W3, W3 = (((w.alloc (.cells #[.slice pa pl pc, .slice qa ql qc, .int .i64 bw, .int .i64 bm, .int .i64 bl] 27)).alloc (.cells #[.slice none 0 0, .slice none 0 0, .int .i64 0, .int .i64 0, .int .i64 0] 27)).alloc (.cells #[] 9)) := ⟨_, rfl⟩
 have AW : Below w.heap.size w W3 := by rw [hW]; exact (((Below.refl _ _).alloc nR _).alloc (by simp) _).alloc (by simp; omega) _
 have SW : W3.heap.size = w.heap.size + 3 := by rw [hW]; simp
 have R1 : W3.ownsRow w.heap.size 27 5 (.slice (some ⟨w.heap.size, 0, none⟩) 1 1) 1 [.slice pa pl pc, .slice qa ql qc, .int .i64 bw, .int .i64 bm, .int .i64 bl] := by rw [hW]; exact ((own5_made w nR _ _ _ _ _ _).alloc _).alloc _
 have R2 : W3.ownsRow w.heap.size 27 5 (.slice (some ⟨w.heap.size + 1, 0, none⟩) 1 1) 1 [.slice none 0 0, .slice none 0 0, .int .i64 0, .int .i64 0, .int .i64 0] := by
  have := own5_made (w.alloc (.cells #[.slice pa pl pc, .slice qa ql qc, .int .i64 bw, .int .i64 bm, .int .i64 bl] 27)) (B := w.heap.size) (by simp) 27 (.slice none 0 0) (.slice none 0 0) (.int .i64 0) (.int .i64 0) (.int .i64 0)
  rw [show (w.alloc (.cells #[.slice pa pl pc, .slice qa ql qc, .int .i64 bw, .int .i64 bm, .int .i64 bl] 27)).heap.size = w.heap.size + 1 by simp] at this
  rw [hW]
  exact this.alloc _
 have R3 : OwnT W3 w.heap.size (.slice (some ⟨w.heap.size + 2, 0, none⟩) 0 0) [] := by
  have := OwnT.made ((w.alloc (.cells #[.slice pa pl pc, .slice qa ql qc, .int .i64 bw, .int .i64 bm, .int .i64 bl] 27)).alloc (.cells #[.slice none 0 0, .slice none 0 0, .int .i64 0, .int .i64 0, .int .i64 0] 27)) (B := w.heap.size) (by simp; omega)
  rw [show ((w.alloc (.cells #[.slice pa pl pc, .slice qa ql qc, .int .i64 bw, .int .i64 bm, .int .i64 bl] 27)).alloc (.cells #[.slice none 0 0, .slice none 0 0, .int .i64 0, .int .i64 0, .int .i64 0] 27)).heap.size = w.heap.size + 2 by simp] at this
  rw [hW]
  exact this
 have H3 := hQ R3
 clear R3
 have HA := hQ AW
 have HSW := hQ SW
 have H1 := hQ R1
 have H2 := hQ R2
 have BV : Hid (Calls Tryz.prog 19 #[.agg #[.slice pa pl pc, .slice qa ql qc, .int .i64 bw, .int .i64 bm, .int .i64 bl]] W3 (Ret (.bool true) W3)) := by
  have := specBook_any b (bookSh_ok (bookB_true hv)) _ W3 (BRB.out W3 AW)
  rw [hv] at this
  exact this
 have CLH : Hid (∀ w', Below w.heap.size w w' → Calls Tryz.prog 29 #[.agg #[.slice pa pl pc, .slice qa ql qc, .int .i64 bw, .int .i64 bm, .int .i64 bl]] w' fun e w2 => ∃ ya ma da yb mb dd us2, e = .returned (.agg #[.slice ya ma da, .slice yb mb dd, .int .i64 bw, .int .i64 bm, .int .i64 bl]) ∧ OwnB w2 w'.heap.size w2.heap.size (.slice ya ma da) (.slice yb mb dd) us2 b ∧ Below w'.heap.size w' w2) := fun w' hb => by
  refine Calls.mono (copy_any b hv _ w' (BRB.out w' hb) hz) ?_
  rintro e w2 ⟨pv2, qv2, us2, rfl, ho, hb⟩
  obtain ⟨ya, ma, da, yb, mb, db, rfl, rfl⟩ := ho.forms
  exact ⟨ya, ma, da, yb, mb, db, us2, by rw [VB.out], ho, hb⟩
 have LP : Hid (∀ w' lo hi pv qv us bk l, bookB bk = true → Below w.heap.size w w' → OwnB w' lo hi pv qv us bk → l.length ≤ 3000000 → Calls Tryz.prog 8 #[.agg #[pv, qv, .int .i64 bk.w, .int .i64 bk.most, .int .i64 bk.lines], .string (bs l)] w' fun e w2 => ∃ ya ma da yb mb dd us2, e = .returned (.tuple #[.agg #[.slice ya ma da, .slice yb mb dd, .int .i64 (prLine bk l).1.w, .int .i64 (prLine bk l).1.most, .int .i64 (prLine bk l).1.lines], .string (bs (prLine bk l).2)]) ∧ OwnB w2 w'.heap.size w2.heap.size (.slice ya ma da) (.slice yb mb dd) us2 (prLine bk l).1 ∧ Below w'.heap.size w' w2) := fun w' lo hi pv qv us bk l hbk hb ho hl => by
  refine Calls.mono (specPL_any bk hbk _ w' ho.read (NC.ownB' ho) l hl) ?_
  rintro e w2 ⟨pv2, qv2, us2, rfl, ho2, hb2⟩
  obtain ⟨ya, ma, da, yb, mb, dd, rfl, rfl⟩ := ho2.forms
  exact ⟨ya, ma, da, yb, mb, dd, us2, rfl, ho2, hb2⟩
 have RS : Hid (∀ k, k < n → prRun b (ls.take (k + 1)) = ((prLine (prRun b (ls.take k)).1 (ls.getD k [])).1, (prRun b (ls.take k)).2 ++ [(prLine (prRun b (ls.take k)).1 (ls.getD k [])).2])) := fun k hk => by rw [TK.out k hk, prRun_snoc]
 have OK : Hid (∀ k, bookB (prRun b (ls.take k)).1 = true) := fun k => prRun_ok _ _ hv
 have AL : Hid (∀ k, k < n → (prRun b (ls.take k)).2.length ≤ 4000000) := fun k hk => by rw [prRun_len, List.length_take]; omega
 have RA : Hid (prRun b (ls.take n) = prRun b ls) := by show _ = _; rw [TA.out]
 have R00 : Hid (prRun b (ls.take 0) = (b, [])) := by show _ = _; rw [List.take_zero]; rfl
 clear hp hq hbw hbm hbl AW SW R1 R2 hz hv hn TK TA hll hl HN VB BRB
 have ng : ¬ (30 : Int) < (n : Int) := by omega
 go_enter Tryz.func16, Tryz.ntmps16
 go_upto_region 2 with fail
 rw [← hW]
 obtain ⟨r0, r1, r2, r3, r4⟩ := own5 H1.out
 clear hW
 go_upto_region 5 with (first | (go_at_call 19; refine BV.out.mono ?_; rintro e w2 ⟨rfl, hb2⟩; have B2 := hQ (below_next HA.out hb2 nR); have I1 := hQ (owns_below H1.out hb2); have I2 := hQ (owns_below H2.out hb2); have I3 := hQ (H3.out.below hb2); obtain ⟨i0, i1, i2, i3, i4⟩ := own5 I1.out) | (go_at_call 29; refine (CLH.out _ B2.out).mono ?_; rintro e w4 ⟨ya, ma, da, yb, mb, dd, us, rfl, ho4, hb4⟩))
 have s2 := hb2.size
 have s4 := hb4.size
 have sw := HSW.out
 have B4 := below_next B2.out hb4 nR
 obtain ⟨wc, g6, hwc, hg6, RI0⟩ : ∃ wc g6, wc = w4.alloc (.cells #[.slice ya ma da, .slice yb mb dd, .int .i64 bw, .int .i64 bm, .int .i64 bl] 27) ∧ g6 = w4.heap.size ∧ Hid (RI w wc (w.heap.size + 1) g6 w2.heap.size w4.heap.size (.slice ya ma da) (.slice yb mb dd) us (.slice (some ⟨w.heap.size + 2, 0, none⟩) 0 0) b []) :=
  ⟨_, _, rfl, rfl, (owns_below I2.out hb4).alloc _, (by obtain ⟨e1, e2, e3⟩ := HBW.out; rw [e1, e2, e3]; exact own5_made w4 B4.size _ _ _ _ _ _), ho4.below ((Below.refl w4.heap.size w4).alloc nR _), World.ownsRow.alloc (I3.out.below hb4) _, B4.alloc B4.size _, ⟨by omega, .inr nR, by rw [World.size_alloc]; omega, by omega, by omega⟩, (fun k hk => .inl (by have e : w.heap.size + 2 = k := Option.some.inj hk; omega))⟩
 rw [← hwc, ← hg6]
 clear hwc hg6 H1 H2 H3 HA BV CLH hb2 hb4 B2 I1 I2 I3 ho4 B4 i0 i1 i2 i3 i4 r0 r1 r2 r3 r4 s2 s4 sw HSW HBW
 go_wp2
 go_loopw [6, 8] (fun av i wr => ∃ (k lo hi : Nat) (pv qv : Value) (us : List Value), k ≤ n ∧ i = .int .i64 k ∧ Hid (RI w wr (w.heap.size + 1) g6 lo hi pv qv us av (prRun b (ls.take k)).1 (prRun b (ls.take k)).2)) (fun _ i _ => n - (intOf i).toNat)
 case atStart => exact ⟨0, _, _, _, _, us, Nat.zero_le _, rfl, by rw [R00.out]; exact RI0.out⟩
 case round =>
  obtain ⟨k, lo, hi, pv, qv, us, hk, rfl, H⟩ := hrel
  clear RI0
  obtain ⟨bk, hbk⟩ : ∃ bk, bk = (prRun b (ls.take k)).1 := ⟨_, rfl⟩
  obtain ⟨ak, hak⟩ : ∃ ak, ak = (prRun b (ls.take k)).2 := ⟨_, rfl⟩
  rw [← hbk, ← hak] at H
  by_cases hlt : k < n
  ·have hlt2 : (k : Int) < (n : Int) := by omega
   obtain ⟨bq, off, rfl, cl⟩ := CL.out k hlt
   have RSk := hQ (RS.out k hlt)
   have okk := OK.out k
   have akl := AL.out k hlt
   have lln := LL.out k hlt
   obtain ⟨l, hl⟩ : ∃ l, l = ls.getD k [] := ⟨_, rfl⟩
   rw [← hbk, ← hak, ← hl] at RSk
   rw [← hbk] at okk
   rw [← hak] at akl
   rw [← hl] at lln
   rw [← hl] at cl
   have cl2 := (H.out.bl.cell (p := ⟨bq, off + k, none⟩) (World.block_lt_of_cell? w _ cl)).trans cl
   obtain ⟨pz, pn, pc, qz, qn, qc, rfl, rfl⟩ := H.out.o.forms
   have E9 := hQ ((Below.refl wr.heap.size wr).drew)
   have EA := hQ (((Below.refl wr.heap.size wr).alloc nR (.cells #[.slice none 0 0, .slice none 0 0, .int .i64 0, .int .i64 0, .int .i64 0] 27)).drew)
   have LPD := hQ (LP.out wr.drew lo hi _ _ us bk l okk (below_next H.out.bl E9.out nR) (H.out.o.below E9.out) lln)
   have LPA := hQ (LP.out (wr.alloc (.cells #[.slice none 0 0, .slice none 0 0, .int .i64 0, .int .i64 0, .int .i64 0] 27)).drew lo hi _ _ us bk l okk (below_next H.out.bl EA.out nR) (H.out.o.below EA.out) lln)
   obtain ⟨R, hR⟩ : ∃ R, R = prLine bk l := ⟨_, rfl⟩
   rw [← hR] at LPD LPA RSk
   have KS : Hid (∀ w', Below wr.heap.size wr w' → w'.cell? ⟨g6, 0, none⟩ = some (.slice pz pn pc) ∧ w'.cell? ⟨g6, 1, none⟩ = some (.slice qz qn qc) ∧ w'.cell? ⟨g6, 2, none⟩ = some (.int .i64 bk.w) ∧ w'.cell? ⟨g6, 3, none⟩ = some (.int .i64 bk.most) ∧ w'.cell? ⟨g6, 4, none⟩ = some (.int .i64 bk.lines) ∧ w'.cell? ⟨bq, off + k, none⟩ = some (.string (bs l))) := fun w' hb => by
    obtain ⟨u1, u2, u3, u4, u5⟩ := own5 (owns_below H.out.kb hb)
    exact ⟨u1, u2, u3, u4, u5, (hb.cell (p := ⟨bq, off + k, none⟩) (World.block_lt_of_cell? wr _ cl2)).trans cl2⟩
   have SZ : Hid (((wr.alloc (.cells #[.slice none 0 0, .slice none 0 0, .int .i64 0, .int .i64 0, .int .i64 0] 27)).drew).heap.size = wr.heap.size + 1) := hQ (World.size_alloc wr _)
   have XA := hQ (show ((wr.alloc (.cells #[.slice none 0 0, .slice none 0 0, .int .i64 0, .int .i64 0, .int .i64 0] 27)).drew).ownsRow w.heap.size 27 5 (.slice (some ⟨wr.heap.size, 0, none⟩) 1 1) 1 [.slice none 0 0, .slice none 0 0, .int .i64 0, .int .i64 0, .int .i64 0] from own5_made wr (B := w.heap.size) (by have := H.out.bl.size; exact this) 27 (.slice none 0 0) (.slice none 0 0) (.int .i64 0) (.int .i64 0) (.int .i64 0))
   have kw := H.out.bl.size
   clear hbk hak hl hR cl okk lln cl2
   go_upto_region 8 with fail
   go_cut [9, 10] from 24 to 43 (fun v9 v10 wx => ∃ (g9 : Nat) (ya yb : Option Addr) (ma da mb dd : Nat) (us2 : List Value) (w8 : World), v9 = .pointer (some ⟨g9, 0, none⟩) ∧ v10 = .string (bs R.2) ∧ Hid (wx.ownsRow w.heap.size 27 5 (.slice (some ⟨g9, 0, none⟩) 1 1) 1 [.slice ya ma da, .slice yb mb dd, .int .i64 R.1.w, .int .i64 R.1.most, .int .i64 R.1.lines]) ∧ Hid (OwnB wx wr.heap.size w8.heap.size (.slice ya ma da) (.slice yb mb dd) us2 R.1) ∧ w8.heap.size ≤ wx.heap.size ∧ Hid (Below wr.heap.size wr wx))
   case first =>
    have kk := KS.out _ E9.out
    have kkA := KS.out _ EA.out
    go_region_held3 (fun w' => w'.cell? ⟨g6, 0, none⟩ = some (.slice pz pn pc) ∧ w'.cell? ⟨g6, 1, none⟩ = some (.slice qz qn qc) ∧ w'.cell? ⟨g6, 2, none⟩ = some (.int .i64 bk.w) ∧ w'.cell? ⟨g6, 3, none⟩ = some (.int .i64 bk.most) ∧ w'.cell? ⟨g6, 4, none⟩ = some (.int .i64 bk.lines) ∧ w'.cell? ⟨bq, off + k, none⟩ = some (.string (bs l))) (first | with_reducible exact kk | with_reducible exact kkA | with_reducible exact kk5 | with_reducible exact kk6 | with_reducible exact kk7 | go_keep)
     (first
      | (go_at_call 8; with_reducible refine LPD.out.mono ?_; rintro e w5 ⟨ya, ma, da, yb, mb, dd, us2, rfl, ho5, hb5⟩; have bA := hQ (below_next E9.out hb5 nR); have kk5 := KS.out _ bA.out; have kk6 := KS.out _ (bA.out.alloc bA.out.size (.cells #[.slice ya ma da, .slice yb mb dd, .int .i64 R.1.w, .int .i64 R.1.most, .int .i64 R.1.lines] 27)); have kk7 := KS.out _ (bA.out.alloc bA.out.size (.cells #[.slice none 0 0, .slice none 0 0, .int .i64 0, .int .i64 0, .int .i64 0] 27)))
      | (go_at_call 8; with_reducible refine LPA.out.mono ?_; rintro e w5 ⟨ya, ma, da, yb, mb, dd, us2, rfl, ho5, hb5⟩; have bA := hQ (below_next EA.out hb5 nR); have kk5 := KS.out _ bA.out; have X5 := hQ (owns_below XA.out hb5); obtain ⟨x0, x1, x2, x3, x4⟩ := own5 X5.out; obtain ⟨m0, m1, m2, m3, m4⟩ := fz5 X5.out; have FF := hQ (own5_set X5.out (.slice ya ma da) (.slice yb mb dd) (.int .i64 R.1.w) (.int .i64 R.1.most) (.int .i64 R.1.lines)); have BF := hQ (bA.out.grown FF.out.2 bA.out.size (fun k hk => by cases hk; exact nR)); have kk6 := KS.out _ BF.out))
    all_goals go_wp2_with fail
    all_goals go_meet
    all_goals first
     | exact ⟨_, ya, yb, ma, da, mb, dd, us2, w5, rfl, rfl, own5_made w5 (Nat.le_trans kw bA.out.size) _ _ _ _ _ _, ho5.below ((Below.refl w5.heap.size w5).alloc nR _), by rw [World.size_alloc]; omega, bA.out.alloc bA.out.size _⟩
     | exact ⟨wr.heap.size, ya, yb, ma, da, mb, dd, us2, w5, rfl, rfl, FF.out.1, (ho5.grown FF.out.2 (.inl (by rw [SZ.out]; exact Nat.lt_succ_self _))).mono (by rw [SZ.out]; exact Nat.le_succ _), FF.out.2.size, BF.out⟩
   case rest =>
    obtain ⟨g9, ya, yb, ma, da, mb, dd, us2, w8, rfl, rfl, K9, ho9, h89, hb9⟩ := hcut
    have K6 := hQ (owns_below H.out.kb hb9.out)
    obtain ⟨x0, x1, x2, x3, x4⟩ := own5 K6.out
    obtain ⟨n0, n1, n2, n3, n4⟩ := fz5 K6.out
    obtain ⟨y0, y1, y2, y3, y4⟩ := own5 K9.out
    clear LPD LPA KS XA E9 EA
    go_upto_region 10 with fail
    obtain ⟨ws, hws, R1⟩ : ∃ ws, ws = (((((wc.setCell ⟨g6, 0, none⟩ (.slice ya ma da)).setCell ⟨g6, 1, none⟩ (.slice yb mb dd)).setCell ⟨g6, 2, none⟩ (.int .i64 R.1.w)).setCell ⟨g6, 3, none⟩ (.int .i64 R.1.most)).setCell ⟨g6, 4, none⟩ (.int .i64 R.1.lines)) ∧ Hid (RI w ws (w.heap.size + 1) g6 wr.heap.size w8.heap.size (.slice ya ma da) (.slice yb mb dd) us2 u6 R.1 ak) := ⟨_, rfl, RI.step (w8 := w8) H.out hb9.out ho9.out h89⟩
    rw [← hws]
    clear hws K6 K9 x0 x1 x2 x3 x4 n0 n1 n2 n3 n4 y0 y1 y2 y3 y4 ho9 hb9 H h89
    go_wp2_with (at_builtin; refine append_str w ws rfl _ _ rfl w.heap.size u6 ak R.2 rfl rfl R1.out.t akl nR R1.out.bl ?_; intro v' w8 hown hbel hmv hgr; have R2 := hQ (R1.out.more hown hgr hmv hbel))
    clear R1 hown hbel hmv hgr
    first
     | exact ⟨⟨k + 1, _, _, _, _, us2, by omega, by go_num, by rw [RSk.out]; exact R2.out⟩, by (simp [intOf]) <;> omega⟩
     | (go_roundw
        case rel => exact ⟨k + 1, _, _, _, _, us2, by omega, by go_num, by rw [RSk.out]; exact R2.out⟩
        case measure => (simp [intOf]) <;> omega)
  ·obtain rfl : k = n := by omega
   have E : Hid ((bk, ak) = prRun b ls) := by show _ = _; rw [hbk, hak, ← RA.out]
   obtain ⟨pz, pn, pc, qz, qn, qc, rfl, rfl⟩ := H.out.o.forms
   obtain ⟨c0, c1, c2, c3, c4⟩ := own5 H.out.kb
   obtain ⟨d0, d1, d2, d3, d4⟩ := own5 H.out.kr
   obtain ⟨n0, n1, n2, n3, n4⟩ := fz5 H.out.kr
   have FIN := hQ H.out.fin
   obtain ⟨y0, y1, y2, y3, y4⟩ := own5 FIN.out.1
   clear hbk hak
   go_wp2
   refine bodyPost_ret (v := .tuple #[.agg #[.slice pz pn pc, .slice qz qn qc, .int .i64 bk.w, .int .i64 bk.most, .int .i64 bk.lines], u6]) (by simp [results, Tryz.results16, go_sem, y0, y1, y2, y3, y4]) rfl ?_
   have h9 := FIN.out.2
   rw [E.out] at h9
   exact h9
theorem implPR (b : DBook) (hs : BookSh b) (ls : List (List UInt8)) (hll : ∀ x ∈ ls, x.length ≤ 3000000) (v : Value) (w : World) (h : BookR w v b) (hz : BookN v) (lv : Value) (hl : TxtS w lv ls) (ht : LnTab w) : Calls Tryz.prog 15 #[v, lv] w (RunPost w.heap.size (prR b ls) w) := by
 unfold prR
 by_cases hc : bookB b = true ∧ ls.length ≤ 30
 ·rw [if_pos hc]
  exact implPR_any b hc.1 ls hc.2 hll v w h hz lv hl ht
 ·rw [if_neg hc]
  refine implPR0_any b (bookB b) rfl ls ?_ hs v w h lv hl
  cases hb : bookB b with
  | false => exact .inl rfl
  | true => exact .inr (by rw [hb] at hc; simp at hc; omega)
theorem specPR (b : DBook) (hs : BookSh b) (ls : List (List UInt8)) (hll : ∀ x ∈ ls, x.length ≤ 3000000) (v : Value) (w : World) (h : BookR w v b) (hz : BookN v) (lv : Value) (hl : TxtS w lv ls) : Calls Tryz.prog 16 #[v, lv] w (RunPost w.heap.size (prR b ls) w) := by
 unfold prR
 by_cases hc : bookB b = true ∧ ls.length ≤ 30
 ·rw [if_pos hc]
  exact specPR_any b hc.1 ls hc.2 hll v w h hz lv hl
 ·rw [if_neg hc]
  refine specPR0_any b (bookB b) rfl ls ?_ hs v w h lv hl
  cases hb : bookB b with
  | false => exact .inl rfl
  | true => exact .inr (by rw [hb] at hc; simp at hc; omega)
end Go.Proofs.YtofnchdijanikaaGreatDoor

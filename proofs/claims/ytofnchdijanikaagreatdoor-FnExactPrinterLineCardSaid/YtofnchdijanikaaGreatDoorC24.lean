/-
  PROVED HERE: what the printer's lines need, part C24. Conditions: each theorem's own.
-/
import Derived.Test.YtofnchdijanikaaGreatDoorC22
import Derived.Test.YtofnchdijanikaaGreatDoorC23
import Derived.Deep.RegionHeld3
import Derived.Test.YtofnchdijanikaaGreatDoorC03
import Derived.Test.YtofnchdijanikaaGreatDoorC05
import Derived.LaidLaws
import Derived.Lib.AppendIntMem
import Derived.WalkSmall
set_option linter.unusedVariables false
set_option linter.unusedSimpArgs false
set_option maxRecDepth 100000
namespace Go.Proofs.YtofnchdijanikaaGreatDoor
open Go.RowKit
structure BG (w : World) (B hi : Nat) (v : Value) (xss : List (List (List UInt8))) (us : List Value) (lv : Value) (T : List (List UInt8)) (ev : Value) (t : List Int) : Prop where
 u : OwnSU w B hi v xss us
 l : OwnT w B lv T
 e : OwnI w B ev t
 a1 : ∀ k, v.ownBlock = some k → lv.ownBlock ≠ some k
 a2 : ∀ k, v.ownBlock = some k → ev.ownBlock ≠ some k
section
variable {w w' : World} {B hi : Nat} {v v' lv ev : Value} {xss yss : List (List (List UInt8))} {us us' : List Value} {T : List (List UInt8)} {t : List Int}
theorem BG.below (h : BG w B hi v xss us lv T ev t) (hb : Below w.heap.size w w') : BG w' B hi v xss us lv T ev t :=
 ⟨h.u.below hb, owns_below h.l hb, owns_below h.e hb, h.a1, h.a2⟩
theorem BG.add {o : Obj} (h : BG w B hi v xss us lv T ev t) (hmv : Moved (w.alloc o) v v') (hg : w.grownBy w' v.ownBlock) (hn : OwnSU w' B w'.heap.size v' yss us') : BG w' B w'.heap.size v' yss us' lv T ev t := by
 refine ⟨hn, World.ownsRow.kept h.l hg ?_, World.ownsRow.kept h.e hg ?_, fun k h1 h2 => ?_, fun k h1 h2 => ?_⟩
 ·cases hl : lv.ownBlock with
  | none => exact .inl rfl
  | some k => exact .inr fun e => h.a1 k e.symm hl
 ·cases hl : ev.ownBlock with
  | none => exact .inl rfl
  | some k => exact .inr fun e => h.a2 k e.symm hl
 ·exact moved_alloc hmv (g := k) (fun e => h.a1 k e.symm h2) (World.ownsRow.lt h.l k h2).2 h1.symm
 ·exact moved_alloc hmv (g := k) (fun e => h.a2 k e.symm h2) (World.ownsRow.lt h.e k h2).2 h1.symm
end
theorem ownI_cell {w : World} {B b o n c k : Nat} {t : List Nat} (h : OwnI w B (.slice (some ⟨b, o, none⟩) n c) (ints t)) (hk : k < t.length) : w.cell? ⟨b, o + k, none⟩ = some (.int .i64 ((t.getD k 0 : Nat) : Int)) := by
 obtain ⟨z, c', e, _, hc⟩ := OwnI.row h
 obtain ⟨b1, o1, e1, c1⟩ := hc k (by rw [ints_len]; exact hk)
 injection e with e2 e3 e4
 rw [ints_getN] at c1
 rw [e1] at e2
 injection e2 with e5
 injection e5 with e6 e7
 rw [e6, e7]
 exact c1
theorem ownI_some {w : World} {B n c k : Nat} {z : Option Addr} {t : List Nat} (h : OwnI w B (.slice z n c) (ints t)) (hk : k < t.length) : ∃ b o, z = some ⟨b, o, none⟩ := by
 obtain ⟨z', c', e, _, hc⟩ := OwnI.row h
 obtain ⟨b1, o1, e1, c1⟩ := hc k (by rw [ints_len]; exact hk)
 injection e with e2 e3 e4
 exact ⟨b1, o1, e2.trans e1⟩
theorem own_part {w : World} {B N c : Nat} {z : Option Addr} {T : List (List UInt8)} (h : OwnT w B (.slice z N c) T) (hN : N = T.length) {a u : Nat} (h1 : a < u) (h2 : u ≤ N) : ∃ g, z = some ⟨g, 0, none⟩ ∧ N ≤ c ∧ ∀ c', TxtS w (.slice (some ⟨g, a, none⟩) (u - a) c') ((T.drop a).take (u - a)) := by
 obtain ⟨g, cap, e, hc⟩ := own_cells h (by omega)
 injection e with e2 e3 e4
 have hr := OwnT.row h
 rw [e2] at hr
 refine ⟨g, e2, by omega, fun c' => ?_⟩
 have := txt_part hr a u c' (by omega) (by omega)
 rw [Nat.zero_add] at this
 exact this
set_option maxHeartbeats 16000000 in
theorem specBPages_any (b : DBook) (hv : bookB b = true) (v : Value) (w : World) (h : BookR w v b) (hz : BookN v) : Calls Tryz.prog 32 #[v] w (BPPost b w) := by
 have hok := bookB_true hv
 obtain ⟨pv, qv, rfl, hp, hq⟩ := h
 obtain ⟨bw, hbw⟩ : ∃ x, x = b.w := ⟨_, rfl⟩
 obtain ⟨bm, hbm⟩ : ∃ x, x = b.most := ⟨_, rfl⟩
 obtain ⟨L, hL⟩ : ∃ L : Nat, (L : Int) = b.lines := ⟨b.lines.toNat, by have := hok.lines; omega⟩
 have hL2 : 1 ≤ L ∧ L ≤ 30 := by have := hok.lines; omega
 obtain ⟨pa, pl, pc, rfl⟩ : ∃ a l c, pv = .slice a l c := by obtain ⟨va, vc, e, _⟩ := ss_idx hp; exact ⟨_, _, _, e⟩
 obtain ⟨qa, ql, qc, rfl⟩ : ∃ a l c, qv = .slice a l c := by obtain ⟨a, c, e, _⟩ := hq; exact ⟨_, _, _, e⟩
 have BR0 : ∀ w', Below w.heap.size w w' → BookR w' (.agg #[.slice pa pl pc, .slice qa ql qc, .int .i64 b.w, .int .i64 b.most, .int .i64 b.lines]) b := fun w' hb => BookR.below ⟨_, _, rfl, hp, hq⟩ hb
 rw [← hbw, ← hbm, ← hL] at BR0 hz ⊢
 have A0 : Below w.heap.size w (w.alloc (.cells #[.slice pa pl pc, .slice qa ql qc, .int .i64 bw, .int .i64 bm, .int .i64 L] 27)) := (Below.refl _ _).alloc (Nat.le_refl _) _
 have AW := Lib.hid A0
 have RB := Lib.hid (own5_made w (B := w.heap.size) (Nat.le_refl _) BoxT (.slice pa pl pc) (.slice qa ql qc) (.int .i64 bw) (.int .i64 bm) (.int .i64 L))
 have OBS : Hid (Calls Tryz.prog 59 #[.agg #[.slice pa pl pc, .slice qa ql qc, .int .i64 bw, .int .i64 bm, .int .i64 L]] (w.alloc (.cells #[.slice pa pl pc, .slice qa ql qc, .int .i64 bw, .int .i64 bm, .int .i64 L] 27)) fun e w2 => ∃ za la ca zb lb cb us2, e = .returned (.agg #[.slice za la ca, .slice zb lb cb, .int .i64 bw, .int .i64 bm, .int .i64 L]) ∧ OwnB w2 (w.alloc (.cells #[.slice pa pl pc, .slice qa ql qc, .int .i64 bw, .int .i64 bm, .int .i64 L] 27)).heap.size w2.heap.size (.slice za la ca) (.slice zb lb cb) us2 b ∧ Below (w.alloc (.cells #[.slice pa pl pc, .slice qa ql qc, .int .i64 bw, .int .i64 bm, .int .i64 L] 27)).heap.size (w.alloc (.cells #[.slice pa pl pc, .slice qa ql qc, .int .i64 bw, .int .i64 bm, .int .i64 L] 27)) w2) := by
  refine Calls.mono (ownBook_any b hv _ (w.alloc (.cells #[.slice pa pl pc, .slice qa ql qc, .int .i64 bw, .int .i64 bm, .int .i64 L] 27)) (BR0 _ A0) (fun p q x y z e => hz p q x y z e)) ?_
  rintro e w2 ⟨pv2, qv2, us2, rfl, ho, hb⟩
  obtain ⟨za, ca, rfl⟩ := ho.p.form
  obtain ⟨zb, cb, rfl⟩ := own_form ho.q
  exact ⟨za, _, ca, zb, _, cb, us2, by unfold bookV; rw [← hbw, ← hbm, ← hL], ho, hb⟩
 have BLH := Lib.hid (fun v w' h => specBLines_any b hv v w' h)
 have HL := Lib.hid hL
 have VB : Hid (∀ x y, Value.agg #[x, y, .int .i64 bw, .int .i64 bm, .int .i64 L] = bookV x y b) := fun x y => by unfold bookV; rw [← hbw, ← hbm, ← hL]
 clear A0 BR0 hp hq hbw hbm hL hz
 cases hbl : bookL b with
 | none =>
  have E := Lib.hid (bookP_none hbl)
  have BLN : Hid (∀ v w0, BookR w0 v b → Calls Tryz.prog 60 #[v] w0 fun e w' => ∃ v c, e = .returned (.tuple #[v, c, .bool false]) ∧ Below w0.heap.size w0 w') := fun v w0 h => (BLH.out v w0 h).mono fun e w' ⟨v, c, he, _, _, hb⟩ => ⟨v, c, by rw [he, hbl]; rfl, hb⟩
  clear BLH hbl
  go_enter Tryz.func32, Tryz.ntmps32
  go_upto_region 2 with (go_at_call 59; refine OBS.out.mono ?_; rintro e w2 ⟨za, la, ca, zb, lb, cb, us2, rfl, hob, hb2⟩; have OB2 := Lib.hid hob; have R2 := Lib.hid (owns_below RB.out hb2); have B2 := Lib.hid (below_next AW.out hb2 (Nat.le_refl _)); obtain ⟨e0, e1, e2, e3, e4⟩ := own5 R2.out; have m0 := World.ownsRow.frozenAt R2.out 0; have m1 := World.ownsRow.frozenAt R2.out 1; have m2 := World.ownsRow.frozenAt R2.out 2; have m3 := World.ownsRow.frozenAt R2.out 3; have m4 := World.ownsRow.frozenAt R2.out 4; have FF := Lib.hid (own5_set R2.out (.slice za la ca) (.slice zb lb cb) (.int .i64 bw) (.int .i64 bm) (.int .i64 L)))
  obtain ⟨ws, hws⟩ : ∃ ws, ws = (((((w2.setCell ⟨w.heap.size, 0, none⟩ (.slice za la ca)).setCell ⟨w.heap.size, 1, none⟩ (.slice zb lb cb)).setCell ⟨w.heap.size, 2, none⟩ (.int .i64 bw)).setCell ⟨w.heap.size, 3, none⟩ (.int .i64 bm)).setCell ⟨w.heap.size, 4, none⟩ (.int .i64 L)) := ⟨_, rfl⟩
  rw [← hws] at FF ⊢
  have BS := Lib.hid (B2.out.grown FF.out.2 B2.out.size (fun k hk => by cases hk; exact Nat.le_refl _))
  have OP := OB2.out.p.grown FF.out.2 (fun k hk => by cases hk; left; simp)
  have OQ : OwnT ws (w.alloc (.cells #[.slice pa pl pc, .slice qa ql qc, .int .i64 bw, .int .i64 bm, .int .i64 L] 27)).heap.size (.slice zb lb cb) b.pats := World.ownsRow.kept OB2.out.q FF.out.2 (by
   cases hl : (Value.slice zb lb cb).ownBlock with
   | none => exact .inl rfl
   | some k =>
    have h1 := (World.ownsRow.lt OB2.out.q k hl).1
    rw [World.size_alloc] at h1
    exact .inr fun e => absurd (Option.some.inj e) (by omega))
  have AO := Lib.hid ((Below.refl ws.heap.size ws).alloc (Nat.le_refl _) (.cells #[] 23))
  have BRO : Hid (BookR (ws.alloc (.cells #[] 23)) (.agg #[.slice za la ca, .slice zb lb cb, .int .i64 bw, .int .i64 bm, .int .i64 L]) b) := by
   show BookR _ _ _
   rw [VB.out]
   exact BookR.below ⟨_, _, rfl, OP.read, OQ.row⟩ AO.out
  have BO := Lib.hid (below_next BS.out AO.out (Nat.le_refl _))
  obtain ⟨x0, x1, x2, x3, x4⟩ := own5 (FF.out.1.alloc (.cells #[] 23))
  have U0 : Hid (OwnSU (ws.alloc (.cells #[] 23)) w.heap.size (ws.alloc (.cells #[] 23)).heap.size (.slice (some ⟨ws.heap.size, 0, none⟩) 0 0) [] []) := (OwnSU.made ws BS.out.size).wider (by simp)
  clear hws e0 e1 e2 e3 e4 m0 m1 m2 m3 m4 FF OP OQ OB2 R2 hb2 hob OBS
  go_wp2_with (go_at_call 60; refine (BLN.out _ _ BRO.out).mono ?_; rintro e w3 ⟨v3, c3, rfl, hb3⟩)
  go_ret2
  exact ⟨_, [], by rw [E.out]; rfl, by rw [E.out]; exact (U0.out.below hb3).wider hb3.size, below_next BO.out hb3 (Nat.le_refl _)⟩
 | some ls =>
  have BTL := bookTo_len _ ls hbl
  have hcs : ∀ c ∈ counts ls, 1 ≤ c := by
   intro c hc
   unfold counts at hc
   rw [List.mem_map] at hc
   obtain ⟨l, hl, rfl⟩ := hc
   exact (BTL.2.1 l hl).1
  have hsum := BTL.2.2.1
  have EO := Lib.hid (fun h => bookP_over hbl h)
  have EB := Lib.hid (fun h => bookP_bad (L := L) hbl HL.out h)
  have EG := Lib.hid (fun h30 t h => bookP_good (L := L) (t := t) hbl h30 HL.out h)
  have hlen4 : ls.flatten.length ≤ 4000000 := by have := BTL.2.2.2; have := hok.six; omega
  have hcl : (counts ls).length = ls.length := by unfold counts; simp
  obtain ⟨T, hT⟩ : ∃ T, T = ls.flatten := ⟨_, rfl⟩
  obtain ⟨cs, hcs2⟩ : ∃ cs, cs = counts ls := ⟨_, rfl⟩
  have BLN : Hid (∀ v w0, BookR w0 v b → Calls Tryz.prog 60 #[v] w0 fun e w' => ∃ z n c v, e = .returned (.tuple #[.slice z n c, v, .bool true]) ∧ T.length = n ∧ OwnT w' w0.heap.size (.slice z n c) T ∧ OwnI w' w0.heap.size v (ints cs) ∧ Below w0.heap.size w0 w') := fun v w0 h => (BLH.out v w0 h).mono fun e w' ⟨v, c, he, h1, h2, hb⟩ => by
   rw [hbl] at he h1 h2
   simp only [Option.getD_some] at h1 h2
   rw [← hT] at h1
   rw [← hcs2] at h2
   obtain ⟨z, c', rfl⟩ := own_form h1
   exact ⟨z, _, c', c, he, rfl, h1, h2, hb⟩
  rw [← hT, ← hcs2] at EG
  rw [← hcs2] at EB hcs hsum
  rw [← hT] at EO hsum hlen4
  clear BLH hbl BTL hT hcl hcs2
  obtain ⟨N, hN⟩ : ∃ N, N = T.length := ⟨_, rfl⟩
  rw [← hN] at BLN EO hlen4 hsum EG
  by_cases h30 : N ≤ 30
  ·have h30' : ¬ (30 : Int) < (N : Int) := by omega
   have hk30 : (keeps cs).length ≤ 30 := by rw [keeps_len]; omega
   have HKN : Hid ((keeps cs).length = N) := by show _ = _; rw [keeps_len]; omega
   have PR := Lib.hid (fun v w' (h : IRow w' v (ints cs)) => specPRows_any v cs hcs (by omega) w' h)
   have BP := Lib.hid (fun B v w' (h : OwnR w' B v (keeps cs)) => pagesR_spec v (keeps cs) L w' h hk30 hL2)
   have HNN := Lib.hid hN
   clear hsum hcs hN hk30
   go_enter Tryz.func32, Tryz.ntmps32
   go_upto_region 2 with (go_at_call 59; refine OBS.out.mono ?_; rintro e w2 ⟨za, la, ca, zb, lb, cb, us2, rfl, hob, hb2⟩; have OB2 := Lib.hid hob; have R2 := Lib.hid (owns_below RB.out hb2); have B2 := Lib.hid (below_next AW.out hb2 (Nat.le_refl _)); obtain ⟨e0, e1, e2, e3, e4⟩ := own5 R2.out; have m0 := World.ownsRow.frozenAt R2.out 0; have m1 := World.ownsRow.frozenAt R2.out 1; have m2 := World.ownsRow.frozenAt R2.out 2; have m3 := World.ownsRow.frozenAt R2.out 3; have m4 := World.ownsRow.frozenAt R2.out 4; have FF := Lib.hid (own5_set R2.out (.slice za la ca) (.slice zb lb cb) (.int .i64 bw) (.int .i64 bm) (.int .i64 L)))
   obtain ⟨ws, hws⟩ : ∃ ws, ws = (((((w2.setCell ⟨w.heap.size, 0, none⟩ (.slice za la ca)).setCell ⟨w.heap.size, 1, none⟩ (.slice zb lb cb)).setCell ⟨w.heap.size, 2, none⟩ (.int .i64 bw)).setCell ⟨w.heap.size, 3, none⟩ (.int .i64 bm)).setCell ⟨w.heap.size, 4, none⟩ (.int .i64 L)) := ⟨_, rfl⟩
   rw [← hws] at FF ⊢
   have BS := Lib.hid (B2.out.grown FF.out.2 B2.out.size (fun k hk => by cases hk; exact Nat.le_refl _))
   have OP := OB2.out.p.grown FF.out.2 (fun k hk => by cases hk; left; simp)
   have OQ : OwnT ws (w.alloc (.cells #[.slice pa pl pc, .slice qa ql qc, .int .i64 bw, .int .i64 bm, .int .i64 L] 27)).heap.size (.slice zb lb cb) b.pats := World.ownsRow.kept OB2.out.q FF.out.2 (by
    cases hl : (Value.slice zb lb cb).ownBlock with
    | none => exact .inl rfl
    | some k =>
     have h1 := (World.ownsRow.lt OB2.out.q k hl).1
     rw [World.size_alloc] at h1
     exact .inr fun e => absurd (Option.some.inj e) (by omega))
   have AO := Lib.hid ((Below.refl ws.heap.size ws).alloc (Nat.le_refl _) (.cells #[] 23))
   have BRO : Hid (BookR (ws.alloc (.cells #[] 23)) (.agg #[.slice za la ca, .slice zb lb cb, .int .i64 bw, .int .i64 bm, .int .i64 L]) b) := by
    show BookR _ _ _
    rw [VB.out]
    exact BookR.below ⟨_, _, rfl, OP.read, OQ.row⟩ AO.out
   have BO := Lib.hid (below_next BS.out AO.out (Nat.le_refl _))
   obtain ⟨x0, x1, x2, x3, x4⟩ := own5 (FF.out.1.alloc (.cells #[] 23))
   have U0 : Hid (OwnSU (ws.alloc (.cells #[] 23)) w.heap.size (ws.alloc (.cells #[] 23)).heap.size (.slice (some ⟨ws.heap.size, 0, none⟩) 0 0) [] []) := (OwnSU.made ws BS.out.size).wider (by simp)
   clear hws e0 e1 e2 e3 e4 m0 m1 m2 m3 m4 FF OP OQ OB2 R2 hb2 hob OBS
   go_wp2_with (go_at_call 60; refine (BLN.out _ _ BRO.out).mono ?_; rintro e w3 ⟨z9, n9, c9, v3, rfl, rfl, o9, oc, hb3⟩; have HO9 := Lib.hid o9; have HOC := Lib.hid oc; have k4 := keepc x4 hb3; have B3 := Lib.hid (below_next BO.out hb3 (Nat.le_refl _)); have U3 := Lib.hid ((U0.out.below hb3).wider hb3.size))
   clear U0 x0 x1 x2 x3 x4 B2
   have kk := (show w3.drew.cell? ⟨w.heap.size, 4, none⟩ = some (.int .i64 L) from k4)
   have PRH := Lib.hid (PR.out v3 w3.drew (IRow.below (OwnI.row HOC.out) ((Below.refl _ _).drew)))
   clear k4
   cases hbp : bestP (keeps cs) L with
   | none =>
    have E := Lib.hid (EB.out hbp)
    have BPN : Hid (∀ B v w', OwnR w' B v (keeps cs) → Calls Tryz.prog 61 #[v, .int .i64 L] w' fun e w6 => ∃ v6, e = .returned (.tuple #[v6, .bool false]) ∧ Below w'.heap.size w' w6) := fun B v w' h => (BP.out B v w' h).mono fun e w6 ⟨v6, he, _, hb⟩ => ⟨v6, by rw [he, hbp]; rfl, hb⟩
    clear hbp BP EB EG
    go_region_held3 (fun w' => w'.cell? ⟨w.heap.size, 4, none⟩ = some (.int .i64 L)) (first | with_reducible exact kk | with_reducible exact kk5 | with_reducible exact kk6) (first | (go_at_call 62; refine PRH.out.mono ?_; rintro e w5 ⟨v5, rfl, o5, hb5⟩; obtain ⟨z5, c5, rfl⟩ := ownR_form o5; have BPH := Lib.hid (BPN.out _ _ w5 o5); with_reducible have kk5 := keepc kk hb5) | (go_at_call 61; refine BPH.out.mono ?_; rintro e w6 ⟨v6, rfl, hb6⟩; with_reducible have kk6 := keepc kk5 hb6))
    go_wp2_with fail
    go_ret2
    have B6 := Lib.hid (below_next ((Below.refl w3.heap.size w3).drew) (below_next hb5 hb6 (Nat.le_refl _)) (Nat.le_refl _))
    exact ⟨_, [], by rw [E.out]; rfl, by rw [E.out]; exact (U3.out.below B6.out).wider B6.out.size, below_next B3.out B6.out (Nat.le_refl _)⟩
   | some t =>
    have E := Lib.hid (EG.out h30 t hbp)
    have HE0 := bestP_ends hbp
    have HE := Lib.hid (show Ends N 0 t by have := HE0.1; rw [HKN.out] at this; exact this)
    have BPS : Hid (∀ B v w', OwnR w' B v (keeps cs) → Calls Tryz.prog 61 #[v, .int .i64 L] w' fun e w6 => ∃ z n c, e = .returned (.tuple #[.slice z n c, .bool true]) ∧ t.length = n ∧ OwnI w6 w'.heap.size (.slice z n c) (ints t) ∧ Below w'.heap.size w' w6) := fun B v w' h => (BP.out B v w' h).mono fun e w6 ⟨v6, he, ho, hb⟩ => by
     rw [hbp] at he ho
     simp only [Option.getD_some] at ho
     obtain ⟨z, c, rfl⟩ := ownI_form ho
     exact ⟨z, _, c, he, by simp [ints], ho, hb⟩
    have tl : t.length ≤ 30 := by have := HE0.2; have := HKN.out; omega
    have TA := Lib.hid (show t.take t.length = t from List.take_length)
    have CT := Lib.hid (fun k (hk : k < t.length) => cutP_take T t 0 k hk)
    have EA := Lib.hid (fun k (hk : k < t.length) => ends_at t 0 k HE.out hk)
    have TG := Lib.hid (fun k => ints_getN t k)
    have CL := Lib.hid (fun k => cutP_len T (t.take k) 0)
    obtain ⟨n, hn⟩ : ∃ n, n = t.length := ⟨_, rfl⟩
    rw [← hn] at BPS tl TA CT EA
    have HLN : Hid (n = t.length) := hn
    clear hbp BP EB EG HE0 hn
    go_region_held3 (fun w' => w'.cell? ⟨w.heap.size, 4, none⟩ = some (.int .i64 L)) (first | with_reducible exact kk | with_reducible exact kk5 | with_reducible exact kk6) (first | (go_at_call 62; refine PRH.out.mono ?_; rintro e w5 ⟨v5, rfl, o5, hb5⟩; obtain ⟨z5, c5, rfl⟩ := ownR_form o5; have BPH := Lib.hid (BPS.out _ _ w5 o5); with_reducible have kk5 := keepc kk hb5) | (go_at_call 61; refine BPH.out.mono ?_; rintro e w6 ⟨z6, n6, c6, rfl, rfl, o6, hb6⟩; have HO6 := Lib.hid o6; with_reducible have kk6 := keepc kk5 hb6))
    have B6 := Lib.hid (below_next ((Below.refl w3.heap.size w3).drew) (below_next hb5 hb6 (Nat.le_refl _)) (Nat.le_refl _))
    have BW := Lib.hid (below_next B3.out B6.out (Nat.le_refl _))
    have G0 : Hid (BG w6 w.heap.size w6.heap.size (.slice (some ⟨ws.heap.size, 0, none⟩) 0 0) [] [] (.slice z9 N c9) T (.slice z6 n c6) (ints t)) := by
     have S3 := hb3.size
     rw [World.size_alloc] at S3
     have S6 := (below_next ((Below.refl w3.heap.size w3).drew) hb5 (Nat.le_refl _)).size
     refine ⟨(U3.out.below B6.out).wider B6.out.size, (owns_below HO9.out B6.out).mono (by have := BO.out.size; exact this), HO6.out.mono (by have := B3.out.size; omega), fun k h1 h2 => ?_, fun k h1 h2 => ?_⟩
     ·have e := Option.some.inj (show some ws.heap.size = some k from h1)
      have := (World.ownsRow.lt HO9.out k h2).1
      rw [World.size_alloc] at this
      omega
     ·have e := Option.some.inj (show some ws.heap.size = some k from h1)
      have := (World.ownsRow.lt HO6.out k h2).1
      omega
    clear kk kk5 kk6 hb5 hb6 PRH BPH U3 HO6 HO9 HOC B6 hb3 B3 BO BS AO
    go_wp2_with fail
    go_loopw [4, 10, 11] (fun v fr i wr => ∃ (k : Nat) (us : List Value), k ≤ n ∧ i = .int .i64 k ∧ fr = .int .i64 (((0 :: t).getD k 0 : Nat) : Int) ∧ Hid (BG wr w.heap.size wr.heap.size v (cutP T 0 (t.take k)) us (.slice z9 N c9) T (.slice z6 n c6) (ints t)) ∧ Hid (Below w.heap.size w wr)) (fun _ _ i _ => n - (intOf i).toNat)
    case atStart => exact ⟨0, [], Nat.zero_le _, rfl, rfl, G0.out, BW.out⟩
    case round =>
     obtain ⟨k, us, hk, rfl, rfl, h1, h2⟩ := hrel
     clear G0 BW
     by_cases hkn : k < n
     ·have hkn' : (k : Int) < (n : Int) := by omega
      obtain ⟨b1, o1, rfl⟩ := ownI_some h1.out.e (by rw [← HLN.out]; exact hkn)
      have AWR := Lib.hid ((Below.refl wr.heap.size wr).alloc (Nat.le_refl _) (.cells #[] 9))
      have CE := Lib.hid (fun w' h => ownI_cell (w := w') (B := w.heap.size) (b := b1) (o := o1) (n := n) (c := c6) (t := t) h (by rw [← HLN.out]; exact hkn))
      obtain ⟨au, uN⟩ := EA.out k hkn
      have CTk := Lib.hid (CT.out k hkn)
      have NX : Hid ((0 :: t).getD (k + 1) 0 = t.getD k 0) := rfl
      have CLk : (cutP T 0 (t.take k)).length ≤ 4000000 := by have := CL.out k; rw [List.length_take] at this; omega
      obtain ⟨a, ha⟩ : ∃ a, a = (0 :: t).getD k 0 := ⟨_, rfl⟩
      obtain ⟨u, hu⟩ : ∃ u, u = t.getD k 0 := ⟨_, rfl⟩
      rw [← ha, ← hu] at au CTk
      rw [← hu] at uN CE NX
      rw [← ha]
      have c1 := CE.out _ h1.out.e
      have c2 := keepc c1 AWR.out
      obtain ⟨g, rfl, nc, hx⟩ := own_part h1.out.l HNN.out au uN
      have HXX := Lib.hid (fun c' => (hx c').below AWR.out)
      have au2 : (a : Int) ≤ (u : Int) := by omega
      have uc : (u : Int) ≤ (c9 : Int) := by omega
      have na : ¬ c9 = a := by omega
      have YL : ((T.drop a).take (u - a)).length ≤ 4000000 := by rw [List.length_take]; omega
      have N0 := OwnT.made wr (B := wr.heap.size) (Nat.le_refl _)
      obtain ⟨X, hX⟩ : ∃ X, X = cutP T 0 (t.take k) := ⟨_, rfl⟩
      obtain ⟨p, hp⟩ : ∃ p, p = (T.drop a).take (u - a) := ⟨_, rfl⟩
      rw [← hX] at CLk h1 CTk
      rw [← hp] at CTk HXX YL
      have B0 := Lib.hid h2.out.size
      clear hX hp hx ha hu hkn
      go_wp2_with (first | (at_builtin; refine append_strs wr (wr.alloc (.cells #[] 9)) rfl _ _ rfl wr.heap.size (.slice (some ⟨wr.heap.size, 0, none⟩) 0 0) [] p (.slice (some ⟨g, a, none⟩) (u - a) (c9 - a)) rfl rfl N0 (HXX.out _) (fun c n e => by injection e with e1; cases e1) (by decide) YL (Nat.le_refl _) AWR.out ?_; intro v1 w7 ho1 hb7 hm1 hg1; obtain ⟨z, zc, rfl⟩ := own_form ho1; have D1 := Lib.hid (fun k hk => (World.ownsRow.lt ho1 k hk).1); have G7 := Lib.hid (h1.out.below hb7); have B7 := Lib.hid (below_next h2.out hb7 (Nat.le_refl _)); have P5 := Lib.hid (ho1.mono B0.out); have S7 := Lib.hid hb7.size) | (at_builtin; refine append_ss w w7 rfl _ _ rfl w.heap.size wr.heap.size u4 X us z p.length zc p rfl rfl G7.out.u S7.out P5.out D1.out CLk (Nat.le_refl _) B7.out ?_; intro v' w8 hown2 hbel2 hmv2 hgr2; have G8 := Lib.hid (G7.out.add hmv2 hgr2 hown2); have c8 := CE.out _ G8.out.e))
      first
       | exact ⟨⟨k + 1, us ++ [.slice z p.length zc], by omega, by go_num, by rw [NX.out], by rw [CTk.out]; exact G8.out, hbel2⟩, by (simp [intOf]) <;> omega⟩
       | (go_roundw
          case rel => exact ⟨k + 1, us ++ [.slice z p.length zc], by omega, by go_num, by rw [NX.out], by rw [CTk.out]; exact G8.out, hbel2⟩
          case measure => (simp [intOf]) <;> omega)
     ·obtain rfl : k = n := by omega
      have TAK := TA.out
      have HF : Hid (OwnSU wr w.heap.size wr.heap.size u4 (cutP T 0 t) us) := by
       have := h1.out.u
       rw [TAK] at this
       exact this
      go_wp2_with fail
      go_ret2
      exact ⟨_, us, by rw [E.out]; rfl, by rw [E.out]; exact HF.out, h2.out⟩
  ·have h30' : (30 : Int) < (N : Int) := by omega
   have E := Lib.hid (EO.out (by omega))
   go_enter Tryz.func32, Tryz.ntmps32
   go_upto_region 2 with (go_at_call 59; refine OBS.out.mono ?_; rintro e w2 ⟨za, la, ca, zb, lb, cb, us2, rfl, hob, hb2⟩; have OB2 := Lib.hid hob; have R2 := Lib.hid (owns_below RB.out hb2); have B2 := Lib.hid (below_next AW.out hb2 (Nat.le_refl _)); obtain ⟨e0, e1, e2, e3, e4⟩ := own5 R2.out; have m0 := World.ownsRow.frozenAt R2.out 0; have m1 := World.ownsRow.frozenAt R2.out 1; have m2 := World.ownsRow.frozenAt R2.out 2; have m3 := World.ownsRow.frozenAt R2.out 3; have m4 := World.ownsRow.frozenAt R2.out 4; have FF := Lib.hid (own5_set R2.out (.slice za la ca) (.slice zb lb cb) (.int .i64 bw) (.int .i64 bm) (.int .i64 L)))
   obtain ⟨ws, hws⟩ : ∃ ws, ws = (((((w2.setCell ⟨w.heap.size, 0, none⟩ (.slice za la ca)).setCell ⟨w.heap.size, 1, none⟩ (.slice zb lb cb)).setCell ⟨w.heap.size, 2, none⟩ (.int .i64 bw)).setCell ⟨w.heap.size, 3, none⟩ (.int .i64 bm)).setCell ⟨w.heap.size, 4, none⟩ (.int .i64 L)) := ⟨_, rfl⟩
   rw [← hws] at FF ⊢
   have BS := Lib.hid (B2.out.grown FF.out.2 B2.out.size (fun k hk => by cases hk; exact Nat.le_refl _))
   have OP := OB2.out.p.grown FF.out.2 (fun k hk => by cases hk; left; simp)
   have OQ : OwnT ws (w.alloc (.cells #[.slice pa pl pc, .slice qa ql qc, .int .i64 bw, .int .i64 bm, .int .i64 L] 27)).heap.size (.slice zb lb cb) b.pats := World.ownsRow.kept OB2.out.q FF.out.2 (by
    cases hl : (Value.slice zb lb cb).ownBlock with
    | none => exact .inl rfl
    | some k =>
     have h1 := (World.ownsRow.lt OB2.out.q k hl).1
     rw [World.size_alloc] at h1
     exact .inr fun e => absurd (Option.some.inj e) (by omega))
   have AO := Lib.hid ((Below.refl ws.heap.size ws).alloc (Nat.le_refl _) (.cells #[] 23))
   have BRO : Hid (BookR (ws.alloc (.cells #[] 23)) (.agg #[.slice za la ca, .slice zb lb cb, .int .i64 bw, .int .i64 bm, .int .i64 L]) b) := by
    show BookR _ _ _
    rw [VB.out]
    exact BookR.below ⟨_, _, rfl, OP.read, OQ.row⟩ AO.out
   have BO := Lib.hid (below_next BS.out AO.out (Nat.le_refl _))
   obtain ⟨x0, x1, x2, x3, x4⟩ := own5 (FF.out.1.alloc (.cells #[] 23))
   have U0 : Hid (OwnSU (ws.alloc (.cells #[] 23)) w.heap.size (ws.alloc (.cells #[] 23)).heap.size (.slice (some ⟨ws.heap.size, 0, none⟩) 0 0) [] []) := (OwnSU.made ws BS.out.size).wider (by simp)
   clear hws e0 e1 e2 e3 e4 m0 m1 m2 m3 m4 FF OP OQ OB2 R2 hb2 hob OBS
   go_wp2_with (go_at_call 60; refine (BLN.out _ _ BRO.out).mono ?_; rintro e w3 ⟨z9, n9, c9, v3, rfl, rfl, o9, oc, hb3⟩)
   go_ret2
   exact ⟨_, [], by rw [E.out]; rfl, by rw [E.out]; exact (U0.out.below hb3).wider hb3.size, below_next BO.out hb3 (Nat.le_refl _)⟩
end Go.Proofs.YtofnchdijanikaaGreatDoor
namespace Go.Proofs.YtofnchdijanikaaGreatDoor
open Go.RowKit
section
variable {w w' : World} {base base' hi hi' g : Nat} {pv qv : Value} {us : List Value} {b : DBook}
theorem OwnB.below (h : OwnB w base hi pv qv us b) (hb : Below w.heap.size w w') : OwnB w' base hi pv qv us b := ⟨h.p.below hb, owns_below h.q hb, h.ap⟩
theorem OwnB.wider (h : OwnB w base hi pv qv us b) (hh : hi ≤ hi') : OwnB w base hi' pv qv us b := ⟨h.p.wider hh, h.q, fun k hk => ⟨Nat.lt_of_lt_of_le (h.ap k hk).1 hh, (h.ap k hk).2⟩⟩
theorem OwnB.mono (h : OwnB w base hi pv qv us b) (hb : base' ≤ base) : OwnB w base' hi pv qv us b := ⟨h.p.mono hb, World.ownsRow.mono h.q hb, h.ap⟩
theorem OwnB.grown (h : OwnB w base hi pv qv us b) (hg : w.grownBy w' (some g)) (hr : g < base ∨ hi ≤ g) : OwnB w' base hi pv qv us b :=
 ⟨h.p.grown hg (fun k hk => by cases hk; exact hr), World.ownsRow.kept h.q hg (by
  cases hl : qv.ownBlock with
  | none => exact .inl rfl
  | some k =>
   have h1 := (World.ownsRow.lt h.q k hl).1
   have h2 := (h.ap k hl).1
   exact .inr fun e => absurd (Option.some.inj e) (by omega)), h.ap⟩
theorem OwnB.forms (h : OwnB w base hi pv qv us b) : ∃ za la ca zb lb cb, pv = .slice za la ca ∧ qv = .slice zb lb cb := by
 obtain ⟨za, ca, rfl⟩ := h.p.form
 obtain ⟨zb, cb, rfl⟩ := own_form h.q
 exact ⟨za, _, ca, zb, _, cb, rfl, rfl⟩
end
def LinePost (B : Nat) (r : DBook × List UInt8) (w : World) (e : Ending) (w' : World) : Prop := ∃ pv qv us, e = .returned (.tuple #[bookV pv qv r.1, .string (bs r.2)]) ∧ OwnB w' B w'.heap.size pv qv us r.1 ∧ Below w.heap.size w w'
set_option maxHeartbeats 16000000 in
theorem printed_any (b x : DBook) (hv : bookB b = true) (hs : BookSh x) (v : Value) (w : World) (h : BookR w v b) (hz : BookN v) (B : Nat) (hB : B ≤ w.heap.size) (pv qv : Value) (us : List Value) (hx : OwnB w B w.heap.size pv qv us x) :
  Calls Tryz.prog 40 #[v, bookV pv qv x] w (LinePost B (tried b x) w) := by
 obtain ⟨za, la, ca, zb, lb, cb, rfl, rfl⟩ := hx.forms
 have hok := bookB_true hv
 obtain ⟨p1, q1, rfl, hp, hq⟩ := h
 obtain ⟨pa, pl, pc, rfl⟩ : ∃ a l c, p1 = .slice a l c := by obtain ⟨va, vc, e, _⟩ := ss_idx hp; exact ⟨_, _, _, e⟩
 obtain ⟨qa, ql, qc, rfl⟩ : ∃ a l c, q1 = .slice a l c := by obtain ⟨a, c, e, _⟩ := hq; exact ⟨_, _, _, e⟩
 obtain ⟨bw, hbw⟩ : ∃ y, y = b.w := ⟨_, rfl⟩
 obtain ⟨bm, hbm⟩ : ∃ y, y = b.most := ⟨_, rfl⟩
 obtain ⟨bl, hbl⟩ : ∃ y, y = b.lines := ⟨_, rfl⟩
 obtain ⟨xw, hxw⟩ : ∃ y, y = x.w := ⟨_, rfl⟩
 obtain ⟨xm, hxm⟩ : ∃ y, y = x.most := ⟨_, rfl⟩
 obtain ⟨xl, hxl⟩ : ∃ y, y = x.lines := ⟨_, rfl⟩
 have VB : Hid (∀ y z, bookV y z b = .agg #[y, z, .int .i64 bw, .int .i64 bm, .int .i64 bl]) := fun y z => by rw [hbw, hbm, hbl]; rfl
 have VX : Hid (∀ y z, bookV y z x = .agg #[y, z, .int .i64 xw, .int .i64 xm, .int .i64 xl]) := fun y z => by rw [hxw, hxm, hxl]; rfl
 rw [VX.out]
 have BRB := Lib.hid (fun w' (hb : Below w.heap.size w w') => BookR.below (b := b) ⟨_, _, rfl, hp, hq⟩ hb)
 rw [← hbw, ← hbm, ← hbl] at BRB hz ⊢
 obtain ⟨W3, hW3⟩ : ∃ W3, W3 = (((w.alloc (.cells #[.slice pa pl pc, .slice qa ql qc, .int .i64 bw, .int .i64 bm, .int .i64 bl] BoxT)).alloc (.cells #[.slice za la ca, .slice zb lb cb, .int .i64 xw, .int .i64 xm, .int .i64 xl] BoxT)).alloc (.cells #[.slice none 0 0, .slice none 0 0, .int .i64 0, .int .i64 0, .int .i64 0] BoxT)) := ⟨_, rfl⟩
 have AW : Below w.heap.size w W3 := by rw [hW3]; exact (((Below.refl _ _).alloc (Nat.le_refl _) _).alloc (by simp) _).alloc (by simp; omega) _
 have S3 : W3.heap.size = w.heap.size + 3 := by rw [hW3]; simp
 have R1 : W3.ownsRow w.heap.size BoxT 5 (.slice (some ⟨w.heap.size, 0, none⟩) 1 1) 1 [.slice pa pl pc, .slice qa ql qc, .int .i64 bw, .int .i64 bm, .int .i64 bl] := by rw [hW3]; exact ((own5_made w (Nat.le_refl _) _ _ _ _ _ _).alloc _).alloc _
 have R2 : W3.ownsRow w.heap.size BoxT 5 (.slice (some ⟨w.heap.size + 1, 0, none⟩) 1 1) 1 [.slice za la ca, .slice zb lb cb, .int .i64 xw, .int .i64 xm, .int .i64 xl] := by
  have := own5_made (w.alloc (.cells #[.slice pa pl pc, .slice qa ql qc, .int .i64 bw, .int .i64 bm, .int .i64 bl] BoxT)) (B := w.heap.size) (by simp) BoxT (.slice za la ca) (.slice zb lb cb) (.int .i64 xw) (.int .i64 xm) (.int .i64 xl)
  rw [show (w.alloc (.cells #[.slice pa pl pc, .slice qa ql qc, .int .i64 bw, .int .i64 bm, .int .i64 bl] BoxT)).heap.size = w.heap.size + 1 by simp] at this
  rw [hW3]
  exact this.alloc _
 have R3 : W3.ownsRow w.heap.size BoxT 5 (.slice (some ⟨w.heap.size + 1 + 1, 0, none⟩) 1 1) 1 [.slice none 0 0, .slice none 0 0, .int .i64 0, .int .i64 0, .int .i64 0] := by
  have := own5_made ((w.alloc (.cells #[.slice pa pl pc, .slice qa ql qc, .int .i64 bw, .int .i64 bm, .int .i64 bl] BoxT)).alloc (.cells #[.slice za la ca, .slice zb lb cb, .int .i64 xw, .int .i64 xm, .int .i64 xl] BoxT)) (B := w.heap.size) (by simp; omega) BoxT (.slice none 0 0) (.slice none 0 0) (.int .i64 0) (.int .i64 0) (.int .i64 0)
  rw [show ((w.alloc (.cells #[.slice pa pl pc, .slice qa ql qc, .int .i64 bw, .int .i64 bm, .int .i64 bl] BoxT)).alloc (.cells #[.slice za la ca, .slice zb lb cb, .int .i64 xw, .int .i64 xm, .int .i64 xl] BoxT)).heap.size = w.heap.size + 1 + 1 by simp] at this
  rw [hW3]
  exact this
 have OX := Lib.hid (hx.below AW)
 have BV := Lib.hid (implBook_any x hs _ W3 (BookR.below hx.read AW))
 rw [VX.out] at BV
 have HA := Lib.hid AW
 have HS3 := Lib.hid S3
 have H1 := Lib.hid R1
 have H2 := Lib.hid R2
 have H3 := Lib.hid R3
 have hB' := Lib.hid hB
 have CLH : Hid (∀ w', Below w.heap.size w w' → Calls Tryz.prog 37 #[.agg #[.slice pa pl pc, .slice qa ql qc, .int .i64 bw, .int .i64 bm, .int .i64 bl]] w' fun e w2 => ∃ ya ma da yb mb db us2, e = .returned (.agg #[.slice ya ma da, .slice yb mb db, .int .i64 bw, .int .i64 bm, .int .i64 bl]) ∧ OwnB w2 w'.heap.size w2.heap.size (.slice ya ma da) (.slice yb mb db) us2 b ∧ Below w'.heap.size w' w2) := fun w' hb => by
  refine Calls.mono (clone_any b hv _ w' (BRB.out w' hb) hz) ?_
  rintro e w2 ⟨pv2, qv2, us2, rfl, ho, hb⟩
  obtain ⟨ya, ma, da, yb, mb, db, rfl, rfl⟩ := ho.forms
  exact ⟨ya, ma, da, yb, mb, db, us2, by rw [VB.out], ho, hb⟩
 clear hok hp hq hbw hbm hbl hxw hxm hxl AW S3 R1 R2 R3 hz hx hs BRB hB
 unfold BoxT at hW3
 cases hbx : bookB x with
 | true =>
  have E : Hid (tried b x = (x, tOk)) := by show _ = _; unfold tried; rw [if_pos hbx]
  rw [hbx] at BV
  clear hbx CLH
  go_enter Tryz.func40, Tryz.ntmps40
  go_upto_region 1 with fail
  rw [← hW3]
  obtain ⟨r0, r1, r2, r3, r4⟩ := own5 H2.out
  clear hW3
  go_wp2_with (go_at_call 27; refine BV.out.mono ?_; rintro e w4 ⟨rfl, hb4⟩; have K2 := Lib.hid (owns_below H2.out hb4); have K3 := Lib.hid (owns_below H3.out hb4); obtain ⟨e0, e1, e2, e3, e4⟩ := own5 K2.out; obtain ⟨q0, q1, q2, q3, q4⟩ := own5 K3.out; have m0 := World.ownsRow.frozenAt K3.out 0; have m1 := World.ownsRow.frozenAt K3.out 1; have m2 := World.ownsRow.frozenAt K3.out 2; have m3 := World.ownsRow.frozenAt K3.out 3; have m4 := World.ownsRow.frozenAt K3.out 4; have FF := Lib.hid (own5_set K3.out (.slice za la ca) (.slice zb lb cb) (.int .i64 xw) (.int .i64 xm) (.int .i64 xl)))
  have B4 := below_next HA.out hb4 (Nat.le_refl _)
  have s4 := hb4.size
  obtain ⟨g0, g1, g2, g3, g4⟩ := own5 FF.out.1
  have hs3 := HS3.out
  have fs := FF.out.2.size
  have hbB := hB'.out
  have FX := (OX.out.below hb4).grown FF.out.2 (.inr (by omega))
  have FB := (B4).grown FF.out.2 B4.size (fun k hk => by cases hk; omega)
  refine bodyPost_ret (v := .tuple #[.agg #[(.slice za la ca), (.slice zb lb cb), .int .i64 xw, .int .i64 xm, .int .i64 xl], .string (bs tOk)]) (by simp [results, Tryz.results40, go_sem, g0, g1, g2, g3, g4]; rfl) rfl ⟨(.slice za la ca), (.slice zb lb cb), us, by rw [E.out, VX.out], by rw [E.out]; exact FX.wider (by omega), FB⟩
 | false =>
  have E : Hid (tried b x = (b, tNo)) := by show _ = _; unfold tried; rw [if_neg (by rw [hbx]; decide)]
  rw [hbx] at BV
  clear hbx
  go_enter Tryz.func40, Tryz.ntmps40
  go_upto_region 1 with fail
  rw [← hW3]
  obtain ⟨r0, r1, r2, r3, r4⟩ := own5 H2.out
  clear hW3
  go_wp2_with (first | (go_at_call 27; refine BV.out.mono ?_; rintro e w4 ⟨rfl, hb4⟩; have K1 := Lib.hid (owns_below H1.out hb4); obtain ⟨e0, e1, e2, e3, e4⟩ := own5 K1.out; have BW4 := Lib.hid (below_next HA.out hb4 (Nat.le_refl _))) | (go_at_call 37; refine (CLH.out _ BW4.out).mono ?_; rintro e w5 ⟨ya, ma, da, yb, mb, db, us2, rfl, ho5, hb5⟩; have K3 := Lib.hid (owns_below (owns_below H3.out hb4) hb5); obtain ⟨q0, q1, q2, q3, q4⟩ := own5 K3.out; have m0 := World.ownsRow.frozenAt K3.out 0; have m1 := World.ownsRow.frozenAt K3.out 1; have m2 := World.ownsRow.frozenAt K3.out 2; have m3 := World.ownsRow.frozenAt K3.out 3; have m4 := World.ownsRow.frozenAt K3.out 4; have FF := Lib.hid (own5_set K3.out (.slice ya ma da) (.slice yb mb db) (.int .i64 bw) (.int .i64 bm) (.int .i64 bl))))
  have s4 := hb4.size
  have s5 := hb5.size
  have B5 := below_next BW4.out hb5 (Nat.le_refl _)
  obtain ⟨g0, g1, g2, g3, g4⟩ := own5 FF.out.1
  have hs3 := HS3.out
  have fs := FF.out.2.size
  have hbB := hB'.out
  have FX := (ho5.grown FF.out.2 (.inl (by omega))).mono (by omega : B ≤ w4.heap.size)
  have FB := (B5).grown FF.out.2 B5.size (fun k hk => by cases hk; omega)
  refine bodyPost_ret (v := .tuple #[.agg #[(.slice ya ma da), (.slice yb mb db), .int .i64 bw, .int .i64 bm, .int .i64 bl], .string (bs tNo)]) (by simp [results, Tryz.results40, go_sem, g0, g1, g2, g3, g4]; rfl) rfl ⟨(.slice ya ma da), (.slice yb mb db), us2, by rw [E.out, VB.out], by rw [E.out]; exact FX.wider (by omega), FB⟩
end Go.Proofs.YtofnchdijanikaaGreatDoor
namespace Go.Proofs.YtofnchdijanikaaGreatDoor
open Go.RowKit
def ErrTab (w : World) : Prop := (∃ tp p, w.cell? ⟨2, 0, none⟩ = some (.iface tp p)) ∧ ∃ tp p, w.cell? ⟨3, 0, none⟩ = some (.iface tp p)
theorem cell_kept {w w' : World} {b o B : Nat} {u : Value} (h : w.cell? ⟨b, o, none⟩ = some u) (hb : Below B w w') (hB : w.heap.size ≤ B) : w'.cell? ⟨b, o, none⟩ = some u :=
 (hb.cell (p := ⟨b, o, none⟩) (Nat.lt_of_lt_of_le (World.block_lt_of_cell? w _ h) hB)).trans h
theorem ErrTab.below {w w' : World} {B : Nat} (h : ErrTab w) (hb : Below B w w') (hB : w.heap.size ≤ B) : ErrTab w' := by
 obtain ⟨⟨a, b, h1⟩, c, d, h2⟩ := h
 exact ⟨⟨a, b, cell_kept h1 hb hB⟩, c, d, cell_kept h2 hb hB⟩
def AtoiPost (l : List UInt8) (w : World) (e : Ending) (w' : World) : Prop :=
 ∃ (n : Int) (ev : Value), e = .returned (.tuple #[.int .i64 n, ev]) ∧ ((Lib.atoiAll l = .ok n ∧ ev = .nilIface) ∨ ((∀ v, Lib.atoiAll l ≠ .ok v) ∧ ∃ t p, ev = .iface t p)) ∧ Below w.heap.size w w'
theorem atoi_any (l : List UInt8) (hl : l.length ≤ 4000000) (w : World) (he : ErrTab w) : Calls Tryz.prog 68 #[.string (bs l)] w (AtoiPost l w) := by
 have hs : (bs l).size = l.length := by simp [ByteArray.size]
 have hd : (bs l).data.toList = l := by simp
 obtain ⟨⟨a, b, h1⟩, c, d, h2⟩ := he
 rcases h : Lib.atoiAll l with v | _ | _
 ·skip
  refine (Tryz.strconv_Atoi_ok (bs l) (by rw [hs]; omega) v (by rw [hd]; exact h) w).mono ?_
  rintro e w' ⟨rfl, hw⟩
  refine ⟨v, .nilIface, rfl, .inl ⟨h, rfl⟩, ?_⟩
  rcases hw with rfl | ⟨t, rfl⟩
  ·exact Below.refl _ _
  ·exact Lib.bytesWorld_below _ _ _
 ·skip
  refine (Tryz.strconv_Atoi_syntax (bs l) (by rw [hs]; omega) (by rw [hd]; exact h) _ w h1 (.inr ⟨a, b, rfl⟩)).mono ?_
  rintro e w' ⟨N, rfl, _, _, hb⟩
  exact ⟨_, _, rfl, .inr ⟨(fun v hv => by rw [h] at hv; cases hv), _, _, rfl⟩, hb⟩
 ·skip
  refine (Tryz.strconv_Atoi_range (bs l) (by rw [hs]; omega) (by rw [hd]; exact h) _ w h2 (.inr ⟨c, d, rfl⟩)).mono ?_
  rintro e w' ⟨N, rfl, _, _, hb⟩
  exact ⟨_, _, rfl, .inr ⟨(fun v hv => by rw [h] at hv; cases hv), _, _, rfl⟩, hb⟩
theorem gPow : Tryz.prog.globalNamed "internal/strconv.uint64pow10" = some 1 := by kernel_rfl
def PrTab (w : World) : Prop := ErrTab w ∧ Lib.TabIs Tryz.prog w "internal/strconv.uint64pow10" .u64 Lib.pow10Tab
theorem PrTab.below {w w' : World} {B : Nat} (h : PrTab w) (hb : Below B w w') (hB : w.heap.size ≤ B) : PrTab w' := by
 refine ⟨h.1.below hb hB, var?_below hb gPow ?_ h.2⟩
 exact Nat.lt_of_lt_of_le (World.block_lt_of_cell? w _ (Lib.TabIs.cell h.2 gPow 0 (by decide))) hB
theorem itoa_any (n : Int) (h0 : -9223372036854775808 ≤ n) (h1 : n ≤ 9223372036854775807) (w : World) (h : PrTab w) : Calls Tryz.prog 39 #[.int .i64 n] w (Ret (.string (bs (Lib.itoa n))) w) := by
 refine (Tryz.strconv_Itoa n h0 h1 w h.2).mono ?_
 rintro e w' ⟨rfl, k, os, rfl⟩
 exact ⟨rfl, Lib.below_grow _ _ (Nat.le_refl _) _ _⟩
theorem atoi_rng (l : List UInt8) (v : Int) (h : Lib.atoiAll l = .ok v) : -9223372036854775808 ≤ v ∧ v ≤ 9223372036854775807 := by
 exact Lib.atoiAll_bounds h
def NumPr (s : List UInt8) (w : World) (e : Ending) (w' : World) : Prop := ∃ n : Int, e = .returned (.tuple #[.int .i64 n, .bool (numV s).isSome]) ∧ (∀ u, numV s = some u → n = (u : Int)) ∧ Below w.heap.size w w'
set_option maxHeartbeats 4000000 in
theorem number_any (s : List UInt8) (hl : s.length ≤ 4000000) (w : World) (h : PrTab w) : Calls Tryz.prog 41 #[.string (bs s)] w (NumPr s w) := by
 have AT0 := atoi_any s hl w h.1
 have NA := numV_atoi s
 rcases hA : Lib.atoiAll s with v | _ | _
 ·skip
  have AT : Hid (Calls Tryz.prog 68 #[.string (bs s)] w fun e w' => e = .returned (.tuple #[.int .i64 v, .nilIface]) ∧ Below w.heap.size w w') := AT0.mono fun e w' ⟨n, ev, he, hd, hb⟩ => by
   rcases hd with ⟨h1, h2⟩ | ⟨h1, _⟩
   ·rw [hA] at h1
    cases h1
    rw [h2] at he
    exact ⟨he, hb⟩
   ·exact absurd hA (h1 v)
  have vb := atoi_rng s v hA
  have IT := Lib.hid (fun w' h => itoa_any v vb.1 vb.2 w' h)
  have HT := Lib.hid h
  have LEN : (bs s).size = s.length := by simp [ByteArray.size]
  clear AT0 h
  by_cases c1 : 0 ≤ v
  ·by_cases c2 : s.length ≤ 6
   ·by_cases c3 : Lib.itoa v = s
    ·obtain ⟨u, hu, hu2⟩ : ∃ u, numV s = some u ∧ v = (u : Int) := by
      rcases NA with ⟨u, h1, h2, _⟩ | ⟨_, h2⟩
      ·rw [hA] at h2
       injection h2 with h3
       exact ⟨u, h1, h3⟩
      ·exact absurd c3 (h2 v hA c1 c2)
     have E := Lib.hid hu
     have E2 := Lib.hid hu2
     have IT2 : Hid (∀ w' : World, PrTab w' → Calls Tryz.prog 39 #[.int .i64 v] w' (Ret (.string (bs s)) w')) := by
      have := IT.out
      rw [c3] at this
      exact this
     have c2' : (s.length : Int) ≤ 6 := by omega
     clear hu hu2 NA hA IT c3 hl
     go_enter Tryz.func41, Tryz.ntmps41
     go_wp2_with (first | (go_at_call 68; refine AT.out.mono ?_; rintro e w2 ⟨rfl, hb2⟩) | (go_at_call 39; refine (IT2.out _ (HT.out.below hb2 (Nat.le_refl _))).mono ?_; rintro e w3 ⟨rfl, hb3⟩))
     go_ret2
     exact ⟨v, by rw [E.out]; rfl, fun u' h' => by rw [E.out] at h'; cases h'; exact E2.out, below_next hb2 hb3 (Nat.le_refl _)⟩
    ·have E : Hid (numV s = none) := by
      rcases NA with ⟨u, h1, h2, _, h4⟩ | ⟨h1, _⟩
      ·rw [hA] at h2
       injection h2 with h3
       rw [← h3] at h4
       exact absurd h4 c3
      ·exact h1
     have c3' : (Lib.itoa v == s) = false := by rw [beq_eq_false_iff_ne]; exact c3
     have c2' : (s.length : Int) ≤ 6 := by omega
     clear NA hA c3 hl
     go_enter Tryz.func41, Tryz.ntmps41
     go_wp2_with (first | (go_at_call 68; refine AT.out.mono ?_; rintro e w2 ⟨rfl, hb2⟩) | (go_at_call 39; refine (IT.out _ (HT.out.below hb2 (Nat.le_refl _))).mono ?_; rintro e w3 ⟨rfl, hb3⟩))
     go_ret2
     exact ⟨v, by rw [E.out]; rfl, (fun u h => by rw [E.out] at h; cases h), below_next hb2 hb3 (Nat.le_refl _)⟩
   ·have E : Hid (numV s = none) := by
     rcases NA with ⟨u, h1, h2, h3, _⟩ | ⟨h1, _⟩
     ·exact absurd h3 c2
     ·exact h1
    have c2' : ¬ (s.length : Int) ≤ 6 := by omega
    clear NA hA hl IT
    go_enter Tryz.func41, Tryz.ntmps41
    go_wp2_with (go_at_call 68; refine AT.out.mono ?_; rintro e w2 ⟨rfl, hb2⟩)
    go_ret2
    exact ⟨v, by rw [E.out]; rfl, (fun u h => by rw [E.out] at h; cases h), hb2⟩
  ·have E : Hid (numV s = none) := by
    rcases NA with ⟨u, h1, h2, h3, _⟩ | ⟨h1, _⟩
    ·rw [hA] at h2
     injection h2 with h3
     omega
    ·exact h1
   clear NA hA hl IT
   go_enter Tryz.func41, Tryz.ntmps41
   go_wp2_with (go_at_call 68; refine AT.out.mono ?_; rintro e w2 ⟨rfl, hb2⟩)
   go_ret2
   exact ⟨v, by rw [E.out]; rfl, (fun u h => by rw [E.out] at h; cases h), hb2⟩
 ·skip
  have E : Hid (numV s = none) := by
   rcases NA with ⟨u, h1, h2, _⟩ | ⟨h1, _⟩
   ·rw [hA] at h2; cases h2
   ·exact h1
  have AT : Hid (Calls Tryz.prog 68 #[.string (bs s)] w fun e w' => ∃ n t p, e = .returned (.tuple #[.int .i64 n, .iface t p]) ∧ Below w.heap.size w w') := AT0.mono fun e w' ⟨n, ev, he, hd, hb⟩ => by
   rcases hd with ⟨h1, h2⟩ | ⟨h1, t, p, h2⟩
   ·rw [hA] at h1; cases h1
   ·rw [h2] at he
    exact ⟨n, t, p, he, hb⟩
  clear NA AT0 hA h hl
  go_enter Tryz.func41, Tryz.ntmps41
  go_wp2_with (go_at_call 68; refine AT.out.mono ?_; rintro e w2 ⟨n, t, p, rfl, hb2⟩)
  go_ret2
  exact ⟨n, by rw [E.out]; rfl, (fun u h => by rw [E.out] at h; cases h), hb2⟩
 ·skip
  have E : Hid (numV s = none) := by
   rcases NA with ⟨u, h1, h2, _⟩ | ⟨h1, _⟩
   ·rw [hA] at h2; cases h2
   ·exact h1
  have AT : Hid (Calls Tryz.prog 68 #[.string (bs s)] w fun e w' => ∃ n t p, e = .returned (.tuple #[.int .i64 n, .iface t p]) ∧ Below w.heap.size w w') := AT0.mono fun e w' ⟨n, ev, he, hd, hb⟩ => by
   rcases hd with ⟨h1, h2⟩ | ⟨h1, t, p, h2⟩
   ·rw [hA] at h1; cases h1
   ·rw [h2] at he
    exact ⟨n, t, p, he, hb⟩
  clear NA AT0 hA h hl
  go_enter Tryz.func41, Tryz.ntmps41
  go_wp2_with (go_at_call 68; refine AT.out.mono ?_; rintro e w2 ⟨n, t, p, rfl, hb2⟩)
  go_ret2
  exact ⟨n, by rw [E.out]; rfl, (fun u h => by rw [E.out] at h; cases h), hb2⟩
end Go.Proofs.YtofnchdijanikaaGreatDoor

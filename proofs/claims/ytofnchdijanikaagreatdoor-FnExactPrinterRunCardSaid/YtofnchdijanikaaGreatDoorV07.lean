/-
  PROVED HERE: what the printer's lines need, part V07. Conditions: each theorem's own.
-/
import Derived.Test.YtofnchdijanikaaGreatDoorV05
import Derived.Test.YtofnchdijanikaaGreatDoorV01
set_option linter.unusedVariables false
set_option linter.unusedSimpArgs false
set_option maxRecDepth 100000
namespace Go.Proofs.YtofnchdijanikaaGreatDoor
open Go.RowKit
set_option maxHeartbeats 16000000 in
theorem copy_any (b : DBook) (hv : bookB b = true) (v : Value) (w : World) (h : BookR w v b) (hz : BookN v) : Calls Tryz.prog 29 #[v] w (CopyPost b w) := by
 obtain ⟨pv, qv, rfl, hp, hq⟩ := h
 obtain ⟨va, vc, rfl, hl, hidx⟩ := ss_idx hp
 have hok := bookB_true hv
 have NQ : NC qv := hz _ _ _ _ _ rfl
 have hs1 := hok.six
 have hs3 := (pats_all hok.pats).2
 have PLN := hQ (fun k (hk : k < b.pars.length) => (show 0 < (b.pars.getD k []).length ∧ (b.pars.getD k []).length ≤ 12 by
  have h := parB_words (hok.pars _ (List.getElem_mem hk))
  rw [getD_eq b.pars [] k hk]
  exact ⟨h.2.2, h.2.1⟩))
 have TK := hQ (fun k (hk : k < b.pars.length) => take_snoc b.pars [] k hk)
 have TA := hQ (show b.pars.take b.pars.length = b.pars from List.take_length)
 obtain ⟨n, hn⟩ : ∃ n, n = b.pars.length := ⟨_, rfl⟩
 have HN := hQ hn
 rw [← hn] at hidx hl PLN TK TA hs1 ⊢
 obtain ⟨bw, hbw⟩ : ∃ x, x = b.w := ⟨_, rfl⟩
 obtain ⟨bm, hbm⟩ : ∃ x, x = b.most := ⟨_, rfl⟩
 obtain ⟨bl, hbl⟩ : ∃ x, x = b.lines := ⟨_, rfl⟩
 have VB : Hid (∀ x y, bookV x y b = .agg #[x, y, .int .i64 bw, .int .i64 bm, .int .i64 bl]) := fun x y => by rw [hbw, hbm, hbl]; rfl
 rw [← hbw, ← hbm, ← hbl]
 obtain ⟨W2, hW2⟩ : ∃ W2, W2 = ((w.alloc (.cells #[.slice va n vc, qv, .int .i64 bw, .int .i64 bm, .int .i64 bl] BoxT)).alloc (.cells #[.slice none 0 0, .slice none 0 0, .int .i64 0, .int .i64 0, .int .i64 0] BoxT)) := ⟨_, rfl⟩
 have A1 : Below w.heap.size w W2 := by rw [hW2]; exact ((Below.refl _ _).alloc nR _).alloc (by simp) _
 have S2 : W2.heap.size = w.heap.size + 2 := by rw [hW2]; simp
 have R1 : W2.ownsRow w.heap.size BoxT 5 (.slice (some ⟨w.heap.size, 0, none⟩) 1 1) 1 [.slice va n vc, qv, .int .i64 bw, .int .i64 bm, .int .i64 bl] := by rw [hW2]; exact (own5_made w nR _ _ _ _ _ _).alloc _
 have R2 : W2.ownsRow w.heap.size BoxT 5 (.slice (some ⟨w.heap.size + 1, 0, none⟩) 1 1) 1 [.slice none 0 0, .slice none 0 0, .int .i64 0, .int .i64 0, .int .i64 0] := by
  have := own5_made (w.alloc (.cells #[.slice va n vc, qv, .int .i64 bw, .int .i64 bm, .int .i64 bl] BoxT)) (B := w.heap.size) (by simp) BoxT (.slice none 0 0) (.slice none 0 0) (.int .i64 0) (.int .i64 0) (.int .i64 0)
  rw [show (w.alloc (.cells #[.slice va n vc, qv, .int .i64 bw, .int .i64 bm, .int .i64 bl] BoxT)).heap.size = w.heap.size + 1 by simp] at this
  rw [hW2]
  exact this
 have HA1 := hQ A1
 have HS2 := hQ S2
 have HR1 := hQ R1
 have HR2 := hQ R2
 have HI := hQ hidx
 have HQ := hQ (hq.below A1)
 have HNQ := hQ NQ
 have hs3' := hQ hs3
 clear hp hq hidx hn hbw hbm hbl A1 S2 R1 R2 hs3 hok hv hz NQ
 unfold BoxT at hW2
 go_enter Tryz.func29, Tryz.ntmps29
 go_upto_region 1 with fail
 rw [← hW2]
 clear hW2
 obtain ⟨r0, r1, r2, r3, r4⟩ := own5 HR1.out
 have KS : Hid (∀ w', Below W2.heap.size W2 w' → w'.cell? ⟨w.heap.size, 1, none⟩ = some qv ∧ w'.cell? ⟨w.heap.size, 2, none⟩ = some (.int .i64 bw) ∧ w'.cell? ⟨w.heap.size, 3, none⟩ = some (.int .i64 bm) ∧ w'.cell? ⟨w.heap.size, 4, none⟩ = some (.int .i64 bl)) := fun w' hb => by
  obtain ⟨_, x1, x2, x3, x4⟩ := own5 (owns_below HR1.out hb)
  exact ⟨x1, x2, x3, x4⟩
 have E0 : Below W2.heap.size W2 W2.drew := (Below.refl _ _).drew
 have MA : OwnT ((W2.drew.alloc (.cells #[.slice none 0 0, .slice none 0 0, .int .i64 0, .int .i64 0, .int .i64 0] BoxT)).alloc (.cells #[] 9)) W2.heap.size (.slice (some ⟨W2.heap.size + 1, 0, none⟩) 0 0) [] := by
  have := OwnT.made (W2.drew.alloc (.cells #[.slice none 0 0, .slice none 0 0, .int .i64 0, .int .i64 0, .int .i64 0] BoxT)) (B := W2.heap.size) (by show _ ≤ (W2.drew.alloc _).heap.size; rw [World.size_alloc]; exact Nat.le_succ _)
  rw [World.size_alloc] at this
  exact this
 have BA : Below W2.heap.size W2 ((W2.drew.alloc (.cells #[.slice none 0 0, .slice none 0 0, .int .i64 0, .int .i64 0, .int .i64 0] BoxT)).alloc (.cells #[] 9)) := (E0.alloc nR _).alloc (by rw [World.size_alloc]; exact Nat.le_succ _) _
 have XA : ((W2.drew.alloc (.cells #[.slice none 0 0, .slice none 0 0, .int .i64 0, .int .i64 0, .int .i64 0] BoxT)).alloc (.cells #[] 9)).ownsRow W2.heap.size BoxT 5 (.slice (some ⟨W2.heap.size, 0, none⟩) 1 1) 1 [.slice none 0 0, .slice none 0 0, .int .i64 0, .int .i64 0, .int .i64 0] := (own5_made W2.drew nR _ _ _ _ _ _).alloc _
 have MB : OwnT ((W2.drew.alloc (.cells #[] 9)).alloc (.cells #[.slice none 0 0, .slice none 0 0, .int .i64 0, .int .i64 0, .int .i64 0] BoxT)) W2.heap.size (.slice (some ⟨W2.heap.size, 0, none⟩) 0 0) [] := World.ownsRow.alloc (OwnT.made W2.drew nR) _
 have BB : Below W2.heap.size W2 ((W2.drew.alloc (.cells #[] 9)).alloc (.cells #[.slice none 0 0, .slice none 0 0, .int .i64 0, .int .i64 0, .int .i64 0] BoxT)) := (E0.alloc nR _).alloc (by rw [World.size_alloc]; exact Nat.le_succ _) _
 have XB : ((W2.drew.alloc (.cells #[] 9)).alloc (.cells #[.slice none 0 0, .slice none 0 0, .int .i64 0, .int .i64 0, .int .i64 0] BoxT)).ownsRow W2.heap.size BoxT 5 (.slice (some ⟨W2.heap.size + 1, 0, none⟩) 1 1) 1 [.slice none 0 0, .slice none 0 0, .int .i64 0, .int .i64 0, .int .i64 0] := by
  have := own5_made (W2.drew.alloc (.cells #[] 9)) (B := W2.heap.size) (by rw [World.size_alloc]; exact Nat.le_succ _) BoxT (.slice none 0 0) (.slice none 0 0) (.int .i64 0) (.int .i64 0) (.int .i64 0)
  rw [World.size_alloc] at this
  exact this
 have MC : OwnT (W2.drew.alloc (.cells #[] 9)) W2.heap.size (.slice (some ⟨W2.heap.size, 0, none⟩) 0 0) [] := OwnT.made W2.drew nR
 have BC : Below W2.heap.size W2 (W2.drew.alloc (.cells #[] 9)) := E0.alloc nR _
 have YL : b.pats.length ≤ 4000000 := by have := hs3'.out; omega
 have QR : Hid (∀ w', Below W2.heap.size W2 w' → TxtS w' qv b.pats) := fun w' hb => HQ.out.below hb
 have HMA := hQ MA
 have HMB := hQ MB
 have HMC := hQ MC
 have HBA := hQ BA
 have HBB := hQ BB
 have HBC := hQ BC
 have HXA := hQ XA
 have HXB := hQ XB
 have HE0 := hQ E0
 clear MA MB MC BA BB BC XA XB E0
 unfold BoxT at HMA HMB HBA HBB HXA HXB
 go_cut [3] from 5 to 15 (fun p wx => ∃ g z m c, p = .pointer (some ⟨g, 0, none⟩) ∧ Hid (W2.heap.size ≤ g) ∧ Hid (wx.ownsRow W2.heap.size BoxT 5 (.slice (some ⟨g, 0, none⟩) 1 1) 1 [.slice none 0 0, .slice z m c, .int .i64 bw, .int .i64 bm, .int .i64 bl]) ∧ Hid (OwnT wx W2.heap.size (.slice z m c) b.pats) ∧ Hid (∀ k, (Value.slice z m c).ownBlock = some k → k ≠ g) ∧ Hid (Below W2.heap.size W2 wx))
 case first =>
  have kk := KS.out _ HE0.out
  go_region_held_law (fun w' => w'.cell? ⟨w.heap.size, 1, none⟩ = some qv ∧ w'.cell? ⟨w.heap.size, 2, none⟩ = some (.int .i64 bw) ∧ w'.cell? ⟨w.heap.size, 3, none⟩ = some (.int .i64 bm) ∧ w'.cell? ⟨w.heap.size, 4, none⟩ = some (.int .i64 bl)) (first | with_reducible exact kk | with_reducible exact kk5 | with_reducible exact kk6 | with_reducible exact kk7 | with_reducible exact KS.out _ HBA.out | with_reducible exact KS.out _ HBB.out | with_reducible exact KS.out _ HBC.out | go_keep)
   (first
    | (refine step_strs W2 _ rfl (.tmp 5) (.tmp 7) rfl W2.heap.size _ [] b.pats qv rfl rfl HMA.out (QR.out _ HBA.out) HNQ.out (by decide) YL nR HBA.out ?_; intro zQ lQ cQ w5 o5 b5 m5 g5; have kk5 := KS.out _ b5; have X5 := hQ (World.ownsRow.kept HXA.out g5 (.inr (show some (W2.heap.size) ≠ some (W2.heap.size + 1) from fun e => by have := Option.some.inj e; omega))); obtain ⟨x0, x1, x2, x3, x4⟩ := own5 X5.out; obtain ⟨y0, y1, y2, y3, y4⟩ := fz5 X5.out; have FF := hQ (own5_set X5.out (.slice none 0 0) (.slice zQ lQ cQ) (.int .i64 bw) (.int .i64 bm) (.int .i64 bl)); have BF := hQ (b5.grown FF.out.2 b5.size (fun k hk => by cases hk; omega)); have kk6 := KS.out _ BF.out)
    | (refine step_strs W2 _ rfl (.tmp 5) (.tmp 7) rfl W2.heap.size _ [] b.pats qv rfl rfl HMB.out (QR.out _ HBB.out) HNQ.out (by decide) YL nR HBB.out ?_; intro zQ lQ cQ w5 o5 b5 m5 g5; have kk5 := KS.out _ b5; have X5 := hQ (World.ownsRow.kept HXB.out g5 (.inr (show some (W2.heap.size + 1) ≠ some (W2.heap.size) from fun e => by have := Option.some.inj e; omega))); obtain ⟨x0, x1, x2, x3, x4⟩ := own5 X5.out; obtain ⟨y0, y1, y2, y3, y4⟩ := fz5 X5.out; have FF := hQ (own5_set X5.out (.slice none 0 0) (.slice zQ lQ cQ) (.int .i64 bw) (.int .i64 bm) (.int .i64 bl)); have BF := hQ (b5.grown FF.out.2 b5.size (fun k hk => by cases hk; omega)); have kk6 := KS.out _ BF.out)
    | (refine step_strs W2 _ rfl (.tmp 5) (.tmp 7) rfl W2.heap.size _ [] b.pats qv rfl rfl HMC.out (QR.out _ HBC.out) HNQ.out (by decide) YL nR HBC.out ?_; intro zQ lQ cQ w5 o5 b5 m5 g5; have kk5 := KS.out _ b5; have X5 := hQ (own5_made w5 (B := W2.heap.size) b5.size 27 (.slice none 0 0) (.slice none 0 0) (.int .i64 0) (.int .i64 0) (.int .i64 0)); obtain ⟨x0, x1, x2, x3, x4⟩ := own5 X5.out; obtain ⟨y0, y1, y2, y3, y4⟩ := fz5 X5.out; have FF := hQ (own5_set X5.out (.slice none 0 0) (.slice zQ lQ cQ) (.int .i64 bw) (.int .i64 bm) (.int .i64 bl))))
  all_goals go_wp2_with fail
  all_goals go_meet
  all_goals first
   | exact ⟨_, zQ, lQ, cQ, rfl, b5.size, own5_made w5 (B := W2.heap.size) b5.size _ _ _ _ _ _, World.ownsRow.alloc (show OwnT w5 W2.heap.size (.slice zQ lQ cQ) b.pats from o5) _, (fun k hk => (by have := (World.ownsRow.lt o5 k hk).2; omega)), b5.alloc b5.size _⟩
   | (have hm : ∀ k, (Value.slice zQ lQ cQ).ownBlock = some k → k ≠ W2.heap.size := fun k hk => by
       rcases m5 with m5 | m5
       ·have e2 : (Value.slice zQ lQ cQ).ownBlock = some (W2.heap.size + 1) := m5
        rw [e2] at hk
        have := Option.some.inj hk
        omega
       ·have h9 : ((W2.alloc _).alloc _).heap.size ≤ k := m5 k hk
        rw [World.size_alloc, World.size_alloc] at h9
        omega
      have nq : (Value.slice zQ lQ cQ).ownBlock = none ∨ (Value.slice zQ lQ cQ).ownBlock ≠ some W2.heap.size := by
       cases hh : (Value.slice zQ lQ cQ).ownBlock with
       | none => exact .inl rfl
       | some k => exact .inr fun e => hm k hh (Option.some.inj e)
      exact ⟨W2.heap.size, zQ, lQ, cQ, rfl, nR, FF.out.1, World.ownsRow.kept (show OwnT w5 W2.heap.size (.slice zQ lQ cQ) b.pats from o5) FF.out.2 nq, hm, BF.out⟩)
   | (have hm : ∀ k, (Value.slice zQ lQ cQ).ownBlock = some k → k ≠ W2.heap.size + 1 := fun k hk => by
       rcases m5 with m5 | m5
       ·have e2 : (Value.slice zQ lQ cQ).ownBlock = some W2.heap.size := m5
        rw [e2] at hk
        have := Option.some.inj hk
        omega
       ·have h9 : ((W2.alloc _).alloc _).heap.size ≤ k := m5 k hk
        rw [World.size_alloc, World.size_alloc] at h9
        omega
      have nq : (Value.slice zQ lQ cQ).ownBlock = none ∨ (Value.slice zQ lQ cQ).ownBlock ≠ some (W2.heap.size + 1) := by
       cases hh : (Value.slice zQ lQ cQ).ownBlock with
       | none => exact .inl rfl
       | some k => exact .inr fun e => hm k hh (Option.some.inj e)
      exact ⟨W2.heap.size + 1, zQ, lQ, cQ, rfl, Nat.le_succ _, FF.out.1, World.ownsRow.kept (show OwnT w5 W2.heap.size (.slice zQ lQ cQ) b.pats from o5) FF.out.2 nq, hm, BF.out⟩)
 case rest =>
  obtain ⟨g, zQ, lQ, cQ, rfl, hgW, hx, ho, hne, hbc⟩ := hcut
  clear HMA HMB HMC HBA HBB HBC HXA HXB HE0 KS QR r0 r1 r2 r3 r4
  obtain ⟨X, hX⟩ : ∃ X, X = wc.heap.size := ⟨_, rfl⟩
  have hgw : W2.heap.size ≤ g := hgW.out
  have hgX : g < X := by rw [hX]; exact (World.ownsRow.lt hx.out g rfl).2
  have hWX : W2.heap.size ≤ X := by rw [hX]; exact hbc.out.size
  have hwW : w.heap.size + 2 = W2.heap.size := HS2.out.symm
  have U0 := hQ (OwnSU.nil wc X X)
  have QL := hQ (fun k hk => (World.ownsRow.lt ho.out k hk).2)
  rw [← hX] at QL
  have XR := hQ (Nat.le_of_eq hX)
  clear hX
  go_wp2
  go_loopw [4] (fun i wr => ∃ (k z m c : Nat) (za : Option Addr) (us : List Value), z = 0 ∧ k ≤ n ∧ i = .int .i64 k ∧ Hid (wr.ownsRow W2.heap.size BoxT 5 (.slice (some ⟨g, 0, none⟩) 1 1) 1 [.slice za m c, .slice zQ lQ cQ, .int .i64 bw, .int .i64 bm, .int .i64 bl]) ∧ Hid (OwnSU wr X wr.heap.size (.slice za m c) (b.pars.take k) us) ∧ Hid (OwnT wr W2.heap.size (.slice zQ lQ cQ) b.pats) ∧ Hid (Below W2.heap.size W2 wr) ∧ Hid (X ≤ wr.heap.size)) (fun i _ => n - (intOf i).toNat)
  case atStart => exact ⟨0, 0, 0, 0, none, [], rfl, Nat.zero_le _, rfl, hx.out, U0.out.wider XR.out, ho.out, hbc.out, XR.out⟩
  case round =>
   obtain ⟨k, _, m, c, za, us, -, hk, rfl, h1, h2, h3, h4, h5⟩ := hrel
   clear U0 hx ho hbc
   obtain ⟨r0, r1, r2, r3, r4⟩ := own5 (owns_below HR1.out h4.out)
   obtain ⟨x0, x1, x2, x3, x4⟩ := own5 h1.out
   by_cases hkn : k < n
   ·obtain ⟨b1, o1, u, rfl, b2, c1, hu⟩ := HI.out k hkn
    have KS : Hid (∀ w', Below W2.heap.size W2 w' → w'.cell? ⟨w.heap.size, 0, none⟩ = some (.slice (some ⟨b1, o1, none⟩) n vc) ∧ w'.cell? ⟨b1, o1 + k, none⟩ = some u) := fun w' hb => by
     obtain ⟨q0, _⟩ := own5 (owns_below HR1.out hb)
     exact ⟨q0, ((HA1.out.trans (hb.mono (by omega))).cell (p := ⟨b1, o1 + k, none⟩) b2).trans c1⟩
    have HU : Hid (∀ w', Below W2.heap.size W2 w' → TxtS w' u (b.pars.getD k [])) := fun w' hb => hu.below (HA1.out.trans (hb.mono (by omega)))
    obtain ⟨_, c2⟩ := KS.out _ h4.out
    have pl := PLN.out k hkn
    have TKk := hQ (TK.out k hkn)
    have NU := hQ (NC.pos hu (PLN.out k hkn).1)
    obtain ⟨p, hp⟩ : ∃ p, p = b.pars.getD k [] := ⟨_, rfl⟩
    rw [← hp] at HU pl TKk
    have XN : (b.pars.take k).length ≤ 4000000 := by rw [List.length_take]; omega
    have YL : p.length ≤ 4000000 := by omega
    have hkn2 : (k : Int) < (n : Int) := by omega
    obtain ⟨Y, hY⟩ : ∃ Y, Y = b.pars.take k := ⟨_, rfl⟩
    rw [← hY] at XN h2 TKk
    have hb0 := hQ (h4.out.drew)
    have kk := KS.out _ hb0.out
    have hb1 := hQ (hb0.out.alloc (show W2.heap.size ≤ wr.heap.size by have := h5.out; omega) (.cells #[] 9))
    have PX : Hid (∀ q, (Value.slice za m c).ownBlock = some q → X ≤ q) := fun q hq => (World.ownsRow.lt h2.out.2.1 q hq).1
    have X0 := hQ (owns_below h1.out ((Below.refl wr.heap.size wr).drew))
    have x01 := (own5 X0.out).1
    have x02 := (own5 (World.ownsRow.alloc X0.out (.cells #[] 9))).1
    have x03 := (own5 (World.ownsRow.alloc h1.out (.cells #[] 9))).1
    have x04 : (wr.alloc (.cells #[] 9)).drew.cell? ⟨g, 0, none⟩ = some (.slice za m c) := x03
    clear hp c1 hu hY pl
    go_upto_region 5 with fail
    obtain ⟨ka1, ka2⟩ := kk
    obtain ⟨kb1, kb2⟩ := (KS.out _ (h4.out.alloc (show W2.heap.size ≤ wr.heap.size by have := h5.out; omega) (.cells #[] 9)))
    have kc1 : (wr.alloc (.cells #[] 9)).drew.cell? ⟨w.heap.size, 0, none⟩ = some (.slice (some ⟨b1, o1, none⟩) n vc) := kb1
    have kc2 : (wr.alloc (.cells #[] 9)).drew.cell? ⟨b1, o1 + k, none⟩ = some u := kb2
    go_region_law
     (first
      | (refine step_strs wr.drew (wr.drew.alloc (.cells #[] 9)) rfl (.tmp 25) (.tmp 30) rfl wr.heap.size (.slice (some ⟨wr.heap.size, 0, none⟩) 0 0) [] p u rfl rfl (OwnT.made wr.drew nR) (HU.out _ hb1.out) NU.out (by decide) YL nR ((Below.refl _ wr.drew).alloc nR _) ?_; intro zr nr cr w5 o5 b5 m5 g5; have B5 := hQ (below_next hb0.out b5 nR); have U5 := hQ ((h2.out.below ((Below.refl wr.heap.size wr).drew)).below b5); have X5 := hQ (owns_below (owns_below h1.out ((Below.refl wr.heap.size wr).drew)) b5); have x5 := (own5 X5.out).1; have x6 := (own5 (World.ownsRow.alloc X5.out (.cells #[.slice zr nr cr] 23))).1; have P5 := hQ (owns_below (owns_below h3.out ((Below.refl wr.heap.size wr).drew)) b5); have sz5 := b5.size; have hX5 := h5.out; have O5 := hQ (show OwnT w5 X (.slice zr nr cr) p from OwnT.mono o5 hX5); have D5 : Hid (∀ q, (Value.slice zr nr cr).ownBlock = some q → wr.heap.size ≤ q) := (fun q hq => (World.ownsRow.lt o5 q hq).1))
      | (refine step_ss w5 w5 rfl (.tmp 24) (.tmp 32) rfl X wr.heap.size (.slice za m c) Y us zr nr cr p rfl rfl U5.out sz5 O5.out D5.out XN (Nat.le_trans hX5 sz5) (Below.refl _ _) ?_; intro z' n' c' w7 o7 b7 m7 g7; have B7 := hQ (B5.out.trans (b7.mono hWX)); have X7 := hQ (World.ownsRow.kept X5.out g7 (.inr (fun e => (by have := PX.out g e.symm; omega)))); have P7 := hQ (World.ownsRow.kept P5.out g7 (by cases hh : (Value.slice zQ lQ cQ).ownBlock with | none => exact .inl rfl | some q => exact .inr fun e => (by have := PX.out q e.symm; have := QL.out q hh; omega))); have x7 := (own5 X7.out).1; have y7 := World.ownsRow.frozenAt X7.out 0; have T7 := hQ (X7.out.stored 0 (.slice z' n' c')); have B8 := hQ (B7.out.grown T7.out.2 B7.out.size (fun q hq => (by cases hq; omega)))))
    all_goals
     have TN := TKk.out
     have fs := T7.out.2.size
     have hX7 : X ≤ w7.heap.size := Nat.le_trans hX5 (Nat.le_trans sz5 g7.size)
     have nq : (Value.slice zQ lQ cQ).ownBlock = none ∨ (Value.slice zQ lQ cQ).ownBlock ≠ some g := by
      cases hh : (Value.slice zQ lQ cQ).ownBlock with
      | none => exact .inl rfl
      | some q => exact .inr fun e => hne.out q hh (Option.some.inj e)
     have N1 := hQ T7.out.1
     have N2 : Hid (OwnSU (w7.setCell ⟨g, 0, none⟩ (.slice z' n' c')) X (w7.setCell ⟨g, 0, none⟩ (.slice z' n' c')).heap.size (.slice z' n' c') (b.pars.take (k + 1)) (us ++ [.slice zr nr cr])) := by rw [TN]; exact (o7.grown T7.out.2 (fun q hq => by cases hq; exact .inl hgX)).wider fs
     have N3 := hQ (World.ownsRow.kept P7.out T7.out.2 nq)
     have N5 : Hid (X ≤ (w7.setCell ⟨g, 0, none⟩ (.slice z' n' c')).heap.size) := Nat.le_trans hX7 fs
     clear TN fs hX7 nq h1 h2 h3 h4 h5 U5 X5 O5 D5 P5 X7 P7 T7 B7 m5 g5 b5 o5 m7 g7 b7 o7 HU NU TKk hb0 hb1 X0 x01 x02 x03 x04 x5 x6
     go_wp2
     try (refine (by assumption : ∀ (a : Act) (w : World), Code.wp _ _ _ a w → _ a w) _ _ ?_; go_wp2)
     go_roundw
     case rel => exact ⟨k + 1, 0, n', c', z', us ++ [Value.slice zr nr cr], rfl, by omega, by go_num, N1.out, N2, N3.out, B8.out, N5.out⟩
     case measure => (simp [intOf]) <;> omega
   ·obtain rfl : k = n := by omega
    have RR2 := owns_below HR2.out h4.out
    have x1b := x1
    obtain ⟨e0, e1, e2, e3, e4⟩ := own5 RR2
    obtain ⟨m0, m1, m2, m3, m4⟩ := fz5 RR2
    have FF := hQ (own5_set RR2 (.slice za m c) (.slice zQ lQ cQ) (.int .i64 bw) (.int .i64 bm) (.int .i64 bl))
    have HGB := hQ hgw
    have TKA := TA.out
    have U1T : Hid (OwnSU wr X wr.heap.size (.slice za m c) b.pars us) := by
     have := h2.out
     rw [TKA] at this
     exact this
    clear TKA h2 hgw hkn
    go_wp2_with fail
    obtain ⟨g0, g1, g2, g3, g4⟩ := own5 FF.out.1
    have fs := FF.out.2.size
    have hlt := fun q hq => (World.ownsRow.lt h3.out q hq)
    have nq : (Value.slice zQ lQ cQ).ownBlock = none ∨ (Value.slice zQ lQ cQ).ownBlock ≠ some (w.heap.size + 1) := by
     cases hh : (Value.slice zQ lQ cQ).ownBlock with
     | none => exact .inl rfl
     | some q => exact .inr fun e => by have := (hlt q hh).1; have := Option.some.inj e; omega
    have FU := U1T.out.grown FF.out.2 (fun q hq => by cases hq; left; omega)
    have FQ := World.ownsRow.kept h3.out FF.out.2 nq
    have BX : Below w.heap.size w wr := HA1.out.trans (h4.out.mono (by omega))
    have FB := BX.grown FF.out.2 BX.size (fun q hq => by cases hq; omega)
    have hpv := U1T.out.2.1
    have hus := U1T.out.us_lt
    refine bodyPost_ret (v := .agg #[(.slice za m c), (.slice zQ lQ cQ), .int .i64 bw, .int .i64 bm, .int .i64 bl]) (by simp [results, Tryz.results29, go_sem, g0, g1, g2, g3, g4]) rfl ⟨(.slice za m c), (.slice zQ lQ cQ), us, by rw [VB.out], ⟨(FU.mono (by omega)).wider (by omega), World.ownsRow.mono FQ (by omega), fun q hq => ⟨by have := (hlt q hq).2; omega, fun e => by have := (World.ownsRow.lt hpv q e).1; have := QL.out q hq; omega, fun u hu e => by have := (hus u hu q e).1; have := QL.out q hq; omega⟩⟩, FB⟩
end Go.Proofs.YtofnchdijanikaaGreatDoor
namespace Go.Proofs.YtofnchdijanikaaGreatDoor
open Go.RowKit
theorem joinTail_snoc (r : List (List UInt8)) (x : List UInt8) : Lib.joinTail [47] (r ++ [x]) = Lib.joinTail [47] r ++ (47 :: x) := by simp [Lib.joinTail]
theorem slash_snoc : ∀ (l : List (List UInt8)) (x : List UInt8), slash (l ++ [x]) = if l = [] then x else slash l ++ (47 :: x)
 | [], x => by simp [slash, Lib.join]
 | y :: t, x => by
  rw [if_neg (by simp)]
  unfold slash
  rw [List.cons_append, Lib.join_cons, Lib.join_cons, joinTail_snoc, List.append_assoc]
theorem slash_next (l : List (List UInt8)) (j : Nat) (h : j < l.length) : slash (l.take (j + 1)) = if j = 0 then l.getD j [] else slash (l.take j) ++ (47 :: l.getD j []) := by
 rw [take_snoc l [] j h, slash_snoc]
 by_cases hj : j = 0
 ·subst hj
  simp
 ·rw [if_neg hj, if_neg]
  intro e
  have := congrArg List.length e
  rw [List.length_take, List.length_nil] at this
  omega
end Go.Proofs.YtofnchdijanikaaGreatDoor

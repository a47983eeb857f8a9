/-
  PROVED HERE: what the printer's lines need, part H02. Conditions: each theorem's own.
-/
import Derived.Test.YtofnchdijanikaaGreatDoorH01
import Derived.Test.YtofnchdijanikaaGreatDoorV05
import Derived.Lib.SmallJoins
import Derived.Test.YtofnchdijanikaaGreatDoorX01
import Derived.Test.YtofnchdijanikaaGreatDoorV01
set_option linter.unusedVariables false
set_option linter.unusedSimpArgs false
set_option maxRecDepth 100000
namespace Go.Proofs.YtofnchdijanikaaGreatDoor
open Go.RowKit
set_option maxHeartbeats 8000000 in
theorem eqBook_any (v1 v2 : Value) (b : DBook) (w : World) (h1 : BookR w v1 b) (h2 : BookR w v2 b) : Calls Tryz.prog 11 #[v1, v2] w (Ret (.bool true) w) := by
 obtain ⟨p1, q1, rfl, hp1, hq1⟩ := h1
 obtain ⟨p2, q2, rfl, hp2, hq2⟩ := h2
 obtain ⟨bw, hbw⟩ : ∃ y, y = b.w := ⟨_, rfl⟩
 obtain ⟨bm, hbm⟩ : ∃ y, y = b.most := ⟨_, rfl⟩
 obtain ⟨bl, hbl⟩ : ∃ y, y = b.lines := ⟨_, rfl⟩
 rw [← hbw, ← hbm, ← hbl]
 obtain ⟨W2, hW2⟩ : ∃ W2, W2 = (w.alloc (.cells #[p1, q1, .int .i64 bw, .int .i64 bm, .int .i64 bl] BoxT)).alloc (.cells #[p2, q2, .int .i64 bw, .int .i64 bm, .int .i64 bl] BoxT) := ⟨_, rfl⟩
 have AW : Below w.heap.size w W2 := by rw [hW2]; exact ((Below.refl _ _).alloc nR _).alloc (by simp) _
 have R1 : W2.ownsRow w.heap.size BoxT 5 (.slice (some ⟨w.heap.size, 0, none⟩) 1 1) 1 [p1, q1, .int .i64 bw, .int .i64 bm, .int .i64 bl] := by rw [hW2]; exact (own5_made w nR _ _ _ _ _ _).alloc _
 have R2 : W2.ownsRow w.heap.size BoxT 5 (.slice (some ⟨w.heap.size + 1, 0, none⟩) 1 1) 1 [p2, q2, .int .i64 bw, .int .i64 bm, .int .i64 bl] := by
  have := own5_made (w.alloc (.cells #[p1, q1, .int .i64 bw, .int .i64 bm, .int .i64 bl] BoxT)) (B := w.heap.size) (by simp) BoxT p2 q2 (.int .i64 bw) (.int .i64 bm) (.int .i64 bl)
  rw [show (w.alloc (.cells #[p1, q1, .int .i64 bw, .int .i64 bm, .int .i64 bl] BoxT)).heap.size = w.heap.size + 1 by simp] at this
  rw [hW2]
  exact this
 have HA := hQ AW
 have H1 := hQ R1
 have H2 := hQ R2
 have C1 := hQ (eqSS_any p1 p2 b.pars W2 (hp1.below AW) (hp2.below AW))
 have C2 := hQ (fun w' (hb : Below w.heap.size w w') => eqT_any q1 q2 b.pats w' (hq1.below hb) (hq2.below hb))
 clear hp1 hp2 hq1 hq2 hbw hbm hbl AW R1 R2
 unfold BoxT at hW2
 go_enter Tryz.func11, Tryz.ntmps11
 go_upto_region 1 with fail
 rw [← hW2]
 obtain ⟨r0, r1, r2, r3, r4⟩ := own5 H1.out
 obtain ⟨s0, s1, s2, s3, s4⟩ := own5 H2.out
 clear hW2
 go_wp2_with (first | (go_at_call 43; refine C1.out.mono ?_; rintro e w4 ⟨rfl, b4⟩; have K1 := hQ (owns_below H1.out b4); have K2 := hQ (owns_below H2.out b4); have B4 := hQ (below_next HA.out b4 nR); obtain ⟨e0, e1, e2, e3, e4⟩ := own5 K1.out; obtain ⟨f0, f1, f2, f3, f4⟩ := own5 K2.out) | (go_at_call 23; refine (C2.out _ B4.out).mono ?_; rintro e w5 ⟨rfl, b5⟩; have K3 := hQ (owns_below K1.out b5); have K4 := hQ (owns_below K2.out b5); have B5 := hQ (below_next B4.out b5 nR); obtain ⟨g0, g1, g2, g3, g4⟩ := own5 K3.out; obtain ⟨i0, i1, i2, i3, i4⟩ := own5 K4.out))
 go_ret
 exact ⟨rfl, B5.out⟩
set_option maxHeartbeats 8000000 in
theorem heldBook_any (v : Value) (b : DBook) (k : Int) (w : World) (h : BookR w v { b with pars := mkSS k b.pars, pats := mkTs (k + totT b.pars) b.pats.length }) (hk : 1 ≤ k) (hk2 : k ≤ 1000) (ht : totT b.pars ≤ 100000000) (hn : b.pats.length ≤ 100000000) : Calls Tryz.prog 13 #[v, .int .i64 k] w (Ret (.int .i64 (k + totT b.pars + b.pats.length)) w) := by
 obtain ⟨p1, q1, rfl, hp1, hq1⟩ := h
 simp only at hp1 hq1 ⊢
 obtain ⟨bw, hbw⟩ : ∃ y, y = b.w := ⟨_, rfl⟩
 obtain ⟨bm, hbm⟩ : ∃ y, y = b.most := ⟨_, rfl⟩
 obtain ⟨bl, hbl⟩ : ∃ y, y = b.lines := ⟨_, rfl⟩
 rw [← hbw, ← hbm, ← hbl]
 obtain ⟨W2, hW2⟩ : ∃ W2, W2 = (w.alloc (.cells #[p1, q1, .int .i64 bw, .int .i64 bm, .int .i64 bl] BoxT)) := ⟨_, rfl⟩
 have AW : Below w.heap.size w W2 := by rw [hW2]; exact ((Below.refl _ _).alloc nR _)
 have R1 : W2.ownsRow w.heap.size BoxT 5 (.slice (some ⟨w.heap.size, 0, none⟩) 1 1) 1 [p1, q1, .int .i64 bw, .int .i64 bm, .int .i64 bl] := by rw [hW2]; exact (own5_made w nR _ _ _ _ _ _)
 have HA := hQ AW
 have H1 := hQ R1
 have C1 := hQ (heldSS_any p1 b.pars k W2 (hp1.below AW) hk hk2 ht)
 have C2 := hQ (fun w' (hb : Below w.heap.size w w') => heldT_any q1 b.pats.length (k + totT b.pars) w' (hq1.below hb) (by omega) (by omega) (by omega))
 obtain ⟨t, ht2⟩ : ∃ t, t = totT b.pars := ⟨_, rfl⟩
 obtain ⟨n, hn2⟩ : ∃ n, n = b.pats.length := ⟨_, rfl⟩
 rw [← ht2, ← hn2] at C2
 rw [← ht2] at C1 ht
 rw [← hn2] at hn
 rw [← ht2, ← hn2]
 have n1 : ¬ k + (t : Int) < 0 := by omega
 have n2 : ¬ k + (t : Int) + (n : Int) < 0 := by omega
 clear hp1 hq1 hbw hbm hbl AW R1 ht2 hn2
 unfold BoxT at hW2
 go_enter Tryz.func13, Tryz.ntmps13
 go_upto_region 1 with fail
 rw [← hW2]
 obtain ⟨r0, r1, r2, r3, r4⟩ := own5 H1.out
 clear hW2
 go_wp2_with (first | (go_at_call 45; refine C1.out.mono ?_; rintro e w4 ⟨rfl, b4⟩; have K1 := hQ (owns_below H1.out b4); have B4 := hQ (below_next HA.out b4 nR); obtain ⟨e0, e1, e2, e3, e4⟩ := own5 K1.out) | (go_at_call 25; refine (C2.out _ B4.out).mono ?_; rintro e w5 ⟨rfl, b5⟩; have B5 := hQ (below_next B4.out b5 nR)))
 go_ret
 exact ⟨rfl, B5.out⟩
set_option maxHeartbeats 8000000 in
theorem markBook_any (pv qv : Value) (us : List Value) (b : DBook) (k : Int) (base hi : Nat) (w : World) (h : OwnB w base hi pv qv us b) (hhi : hi ≤ w.heap.size) (hk : 1 ≤ k) (hk2 : k ≤ 1000) (ht : totT b.pars ≤ 100000000) (hn : b.pats.length ≤ 100000000) :
  Calls Tryz.prog 12 #[bookV pv qv b, .int .i64 k] w fun e w' => e = .returned (.int .i64 (k + totT b.pars + b.pats.length)) ∧ OwnB w' base hi pv qv us { b with pars := mkSS k b.pars, pats := mkTs (k + totT b.pars) b.pats.length } ∧ OnlyU (qv :: us) w w' := by
 obtain ⟨hp, hq, ap⟩ := h
 unfold bookV
 obtain ⟨bw, hbw⟩ : ∃ y, y = b.w := ⟨_, rfl⟩
 obtain ⟨bm, hbm⟩ : ∃ y, y = b.most := ⟨_, rfl⟩
 obtain ⟨bl, hbl⟩ : ∃ y, y = b.lines := ⟨_, rfl⟩
 rw [← hbw, ← hbm, ← hbl]
 obtain ⟨W2, hW2⟩ : ∃ W2, W2 = (w.alloc (.cells #[pv, qv, .int .i64 bw, .int .i64 bm, .int .i64 bl] BoxT)) := ⟨_, rfl⟩
 have AW : Below w.heap.size w W2 := by rw [hW2]; exact ((Below.refl _ _).alloc nR _)
 have R1 : W2.ownsRow w.heap.size BoxT 5 (.slice (some ⟨w.heap.size, 0, none⟩) 1 1) 1 [pv, qv, .int .i64 bw, .int .i64 bm, .int .i64 bl] := by rw [hW2]; exact (own5_made w nR _ _ _ _ _ _)
 have HA := hQ AW
 have HQL := hQ (fun x (hx : qv.ownBlock = some x) => (World.ownsRow.lt hq x hx).1)
 have HUL := hQ hp.us_lt
 have HAP := hQ ap
 have H1 := hQ R1
 have C1 := hQ (markSS_any pv b.pars us k base hi W2 (hp.below AW) hk hk2 ht)
 have HQ := hQ (hq.below AW)
 have C2 := hQ (fun w' (ho : OwnT w' base qv b.pats) => markT_any qv b.pats (k + totT b.pars) base w' ho (by omega) (by omega) (by omega))
 obtain ⟨t, ht2⟩ : ∃ t, t = totT b.pars := ⟨_, rfl⟩
 obtain ⟨n, hn2⟩ : ∃ n, n = b.pats.length := ⟨_, rfl⟩
 rw [← ht2, ← hn2] at C2
 rw [← ht2] at C1 ht
 rw [← hn2] at hn
 rw [← ht2, ← hn2]
 clear hp hq ap hbw hbm hbl AW R1 ht2 hn2
 unfold BoxT at hW2
 go_enter Tryz.func12, Tryz.ntmps12
 go_upto_region 1 with fail
 rw [← hW2]
 obtain ⟨r0, r1, r2, r3, r4⟩ := own5 H1.out
 clear hW2
 go_wp2_with (first | (go_at_call 44; refine C1.out.mono ?_; rintro e w4 ⟨rfl, o4, b4⟩; have K1 := hQ (owns_onlyU H1.out b4 (fun k hk u hu e => (by have := (HUL.out u hu k e).2; have hk' : w.heap.size = k := (by simpa [Value.ownBlock] using hk); omega))); have O4 := hQ o4; have Q4 : Hid (OwnT w4 base qv b.pats) := owns_onlyU HQ.out b4 (fun k hk u hu e => (HAP.out k hk).2.2 u hu e); have B4 := hQ b4; obtain ⟨e0, e1, e2, e3, e4⟩ := own5 K1.out) | (go_at_call 24; refine (C2.out _ Q4.out).mono ?_; rintro e w5 ⟨rfl, o5, b5⟩; have B5 := hQ b5; have O5 := hQ o5))
 go_ret
 have hap := HAP.out
 refine ⟨rfl, ⟨O4.out.grown' B5.out ?_ ?_, O5.out, fun k hk => hap k hk⟩, ?_⟩
 ·exact fun k hk => (hap k hk).2.1
 ·exact fun k hk u hu => (hap k hk).2.2 u hu
 ·exact ((OnlyU.of_below HA.out).trans (B4.out.mono (fun u hu => List.mem_cons_of_mem _ hu))).trans (OnlyU.of_grown B5.out (List.mem_cons_self))
end Go.Proofs.YtofnchdijanikaaGreatDoor
namespace Go.Proofs.YtofnchdijanikaaGreatDoor
open Go.RowKit
set_option maxHeartbeats 16000000 in
theorem toBook_any (v : Value) (b : DBook) (w : World) (h : BookR w v b) (h1 : b.pars.length ≤ 1048576) (h2 : totT b.pars ≤ 1048576) (h3 : b.pats.length ≤ 1048576) : Calls Tryz.prog 9 #[v] w (CopyPost b w) := by
 obtain ⟨p1, q1, rfl, hp, hq⟩ := h
 obtain ⟨bw, hbw⟩ : ∃ y, y = b.w := ⟨_, rfl⟩
 obtain ⟨bm, hbm⟩ : ∃ y, y = b.most := ⟨_, rfl⟩
 obtain ⟨bl, hbl⟩ : ∃ y, y = b.lines := ⟨_, rfl⟩
 have VB : Hid (∀ y z, bookV y z b = .agg #[y, z, .int .i64 bw, .int .i64 bm, .int .i64 bl]) := fun y z => by rw [hbw, hbm, hbl]; rfl
 rw [← hbw, ← hbm, ← hbl]
 obtain ⟨W3, hW3⟩ : ∃ W3, W3 = (((w.alloc (.cells #[p1, q1, .int .i64 bw, .int .i64 bm, .int .i64 bl] 25)).alloc (.cells #[.slice none 0 0, .slice none 0 0, .int .i64 0, .int .i64 0, .int .i64 0] BoxT)).alloc (.cells #[.slice none 0 0, .slice none 0 0, .int .i64 0, .int .i64 0, .int .i64 0] BoxT)) := ⟨_, rfl⟩
 have AW : Below w.heap.size w W3 := by rw [hW3]; exact (((Below.refl _ _).alloc nR _).alloc (by simp) _).alloc (by simp; omega) _
 have S3 : W3.heap.size = w.heap.size + 3 := by rw [hW3]; simp
 have R1 : W3.ownsRow w.heap.size 25 5 (.slice (some ⟨w.heap.size, 0, none⟩) 1 1) 1 [p1, q1, .int .i64 bw, .int .i64 bm, .int .i64 bl] := by rw [hW3]; exact ((own5_made w nR _ _ _ _ _ _).alloc _).alloc _
 have R2 : W3.ownsRow w.heap.size BoxT 5 (.slice (some ⟨w.heap.size + 1, 0, none⟩) 1 1) 1 [.slice none 0 0, .slice none 0 0, .int .i64 0, .int .i64 0, .int .i64 0] := by
  have := own5_made (w.alloc (.cells #[p1, q1, .int .i64 bw, .int .i64 bm, .int .i64 bl] 25)) (B := w.heap.size) (by simp) BoxT (.slice none 0 0) (.slice none 0 0) (.int .i64 0) (.int .i64 0) (.int .i64 0)
  rw [show (w.alloc (.cells #[p1, q1, .int .i64 bw, .int .i64 bm, .int .i64 bl] 25)).heap.size = w.heap.size + 1 by simp] at this
  rw [hW3]
  exact this.alloc _
 have R3 : W3.ownsRow w.heap.size BoxT 5 (.slice (some ⟨w.heap.size + 1 + 1, 0, none⟩) 1 1) 1 [.slice none 0 0, .slice none 0 0, .int .i64 0, .int .i64 0, .int .i64 0] := by
  have := own5_made ((w.alloc (.cells #[p1, q1, .int .i64 bw, .int .i64 bm, .int .i64 bl] 25)).alloc (.cells #[.slice none 0 0, .slice none 0 0, .int .i64 0, .int .i64 0, .int .i64 0] BoxT)) (B := w.heap.size) (by simp; omega) BoxT (.slice none 0 0) (.slice none 0 0) (.int .i64 0) (.int .i64 0) (.int .i64 0)
  rw [show ((w.alloc (.cells #[p1, q1, .int .i64 bw, .int .i64 bm, .int .i64 bl] 25)).alloc (.cells #[.slice none 0 0, .slice none 0 0, .int .i64 0, .int .i64 0, .int .i64 0] BoxT)).heap.size = w.heap.size + 1 + 1 by simp] at this
  rw [hW3]
  exact this
 have HA := hQ AW
 have HS3 := hQ S3
 have H1 := hQ R1
 have H2 := hQ R2
 have H3 := hQ R3
 have C1 := hQ (toSS_any p1 b.pars W3 (hp.below AW) h1 h2)
 have C2 := hQ (fun w' (hb : Below w.heap.size w w') => toT_any q1 b.pats w' (hq.below hb) h3)
 clear hp hq hbw hbm hbl AW S3 R1 R2 R3 h1 h2 h3
 unfold BoxT at hW3
 go_enter Tryz.func9, Tryz.ntmps9
 go_upto_region 2 with fail
 rw [← hW3]
 obtain ⟨c0, c1, c2, c3, c4⟩ := own5 H1.out
 clear hW3
 go_upto_region 7 with (first | (go_at_call 35; refine C1.out.mono ?_; rintro e w4 ⟨zP, lP, cP, us, rfl, o4, b4⟩; have K1 := hQ (owns_below H1.out b4); have K2 := hQ (owns_below H2.out b4); have K3 := hQ (owns_below H3.out b4); have T0 := hQ (K3.out.stored 0 (.slice zP lP cP)); have m0 := World.ownsRow.frozenAt K3.out 0; have q0 := (own5 K3.out).1; have J1 := hQ (World.ownsRow.kept K1.out T0.out.2 (.inr (show some (w.heap.size) ≠ some (w.heap.size + 1 + 1) from fun e => by have := Option.some.inj e; omega))); have J2 := hQ (World.ownsRow.kept K2.out T0.out.2 (.inr (show some (w.heap.size + 1) ≠ some (w.heap.size + 1 + 1) from fun e => by have := Option.some.inj e; omega))); have J3 : Hid ((w4.setCell ⟨w.heap.size + 1 + 1, 0, none⟩ (.slice zP lP cP)).ownsRow w.heap.size BoxT 5 (.slice (some ⟨w.heap.size + 1 + 1, 0, none⟩) 1 1) 1 [(.slice zP lP cP), .slice none 0 0, .int .i64 0, .int .i64 0, .int .i64 0]) := T0.out.1; obtain ⟨e0, e1, e2, e3, e4⟩ := own5 J1.out; have B4 : Hid (Below w.heap.size w (w4.setCell ⟨w.heap.size + 1 + 1, 0, none⟩ (.slice zP lP cP))) := (below_next HA.out b4 nR).grown T0.out.2 (below_next HA.out b4 nR).size (fun k hk => (by cases hk; omega)); have hs3 := HS3.out; have O4 := hQ (o4.grown T0.out.2 (fun k hk => (by cases hk; left; omega))); have Z4 := b4.size) | (go_at_call 22; refine (C2.out _ B4.out).mono ?_; rintro e w5 ⟨zQ, lQ, cQ, rfl, o5, b5⟩; have L1 := hQ (owns_below J1.out b5); have L2 := hQ (owns_below J2.out b5); have L3 := hQ (owns_below J3.out b5); have S1 := hQ (L3.out.stored 1 (.slice zQ lQ cQ)); have S2 := hQ (S1.out.1.stored 2 (.int .i64 bw)); have S3 := hQ (S2.out.1.stored 3 (.int .i64 bm)); have S4 := hQ (S3.out.1.stored 4 (.int .i64 bl)); have n1 := World.ownsRow.frozenAt L3.out 1; have q1 := (own5 L3.out).2.1; have q2 : (w5.setCell ⟨w.heap.size + 1 + 1, 1, none⟩ (.slice zQ lQ cQ)).cell? ⟨w.heap.size + 1 + 1, 2, none⟩ = some (.int .i64 0) := World.ownsRow.cellAt S1.out.1 2 (by omega); have q3 : ((w5.setCell ⟨w.heap.size + 1 + 1, 1, none⟩ (.slice zQ lQ cQ)).setCell ⟨w.heap.size + 1 + 1, 2, none⟩ (.int .i64 bw)).cell? ⟨w.heap.size + 1 + 1, 3, none⟩ = some (.int .i64 0) := World.ownsRow.cellAt S2.out.1 3 (by omega); have q4 : (((w5.setCell ⟨w.heap.size + 1 + 1, 1, none⟩ (.slice zQ lQ cQ)).setCell ⟨w.heap.size + 1 + 1, 2, none⟩ (.int .i64 bw)).setCell ⟨w.heap.size + 1 + 1, 3, none⟩ (.int .i64 bm)).cell? ⟨w.heap.size + 1 + 1, 4, none⟩ = some (.int .i64 0) := World.ownsRow.cellAt S3.out.1 4 (by omega); have n2 := World.ownsRow.frozenAt S1.out.1 2; have n3 := World.ownsRow.frozenAt S2.out.1 3; have n4 := World.ownsRow.frozenAt S3.out.1 4; have M1 := hQ (World.ownsRow.kept L1.out S1.out.2 (.inr (show some (w.heap.size) ≠ some (w.heap.size + 1 + 1) from fun e => by have := Option.some.inj e; omega))); have M2 := hQ (World.ownsRow.kept M1.out S2.out.2 (.inr (show some (w.heap.size) ≠ some (w.heap.size + 1 + 1) from fun e => by have := Option.some.inj e; omega))); have M3 := hQ (World.ownsRow.kept M2.out S3.out.2 (.inr (show some (w.heap.size) ≠ some (w.heap.size + 1 + 1) from fun e => by have := Option.some.inj e; omega))); have f2 := (own5 M1.out).2.2.1; have f3 := (own5 M2.out).2.2.2.1; have f4 := (own5 M3.out).2.2.2.2))
 have N1 := hQ (World.ownsRow.kept L2.out S1.out.2 (.inr (show some (w.heap.size + 1) ≠ some (w.heap.size + 1 + 1) from fun e => by have := Option.some.inj e; omega)))
 have N2 := hQ (World.ownsRow.kept N1.out S2.out.2 (.inr (show some (w.heap.size + 1) ≠ some (w.heap.size + 1 + 1) from fun e => by have := Option.some.inj e; omega)))
 have N3 := hQ (World.ownsRow.kept N2.out S3.out.2 (.inr (show some (w.heap.size + 1) ≠ some (w.heap.size + 1 + 1) from fun e => by have := Option.some.inj e; omega)))
 have N4 := hQ (World.ownsRow.kept N3.out S4.out.2 (.inr (show some (w.heap.size + 1) ≠ some (w.heap.size + 1 + 1) from fun e => by have := Option.some.inj e; omega)))
 have Q4 : Hid (((((w5.setCell ⟨w.heap.size + 1 + 1, 1, none⟩ (.slice zQ lQ cQ)).setCell ⟨w.heap.size + 1 + 1, 2, none⟩ (.int .i64 bw)).setCell ⟨w.heap.size + 1 + 1, 3, none⟩ (.int .i64 bm)).setCell ⟨w.heap.size + 1 + 1, 4, none⟩ (.int .i64 bl)).ownsRow w.heap.size BoxT 5 (.slice (some ⟨w.heap.size + 1 + 1, 0, none⟩) 1 1) 1 [(.slice zP lP cP), (.slice zQ lQ cQ), .int .i64 bw, .int .i64 bm, .int .i64 bl]) := S4.out.1
 obtain ⟨y0, y1, y2, y3, y4⟩ := own5 Q4.out
 obtain ⟨x0, x1, x2, x3, x4⟩ := own5 N4.out
 obtain ⟨r0, r1, r2, r3, r4⟩ := fz5 N4.out
 have FF := hQ (own5_set N4.out (.slice zP lP cP) (.slice zQ lQ cQ) (.int .i64 bw) (.int .i64 bm) (.int .i64 bl))
 go_wp2_with fail
 obtain ⟨i0, i1, i2, i3, i4⟩ := own5 FF.out.1
 have hs3 := HS3.out
 have z4 := Z4
 have z5 := b5.size
 have sz4 : (w4.setCell ⟨w.heap.size + 1 + 1, 0, none⟩ (.slice zP lP cP)).heap.size = w4.heap.size := by simp [World.setCell]
 have t1 := S1.out.2.size
 have t2 := S2.out.2.size
 have t3 := S3.out.2.size
 have t4 := S4.out.2.size
 have t5 := FF.out.2.size
 have G4 := grownBy_trans (grownBy_trans (grownBy_trans S1.out.2 S2.out.2) S3.out.2) S4.out.2
 have FU := ((O4.out.below b5).grown G4 (fun k hk => by cases hk; left; omega)).grown FF.out.2 (fun k hk => by cases hk; left; omega)
 have hlt := fun k hk => (World.ownsRow.lt o5 k hk).1
 have hlt2 := fun k hk => (World.ownsRow.lt o5 k hk).2
 have nq : ∀ m, m < w4.heap.size → ((.slice zQ lQ cQ) : Value).ownBlock = none ∨ ((.slice zQ lQ cQ) : Value).ownBlock ≠ some m := fun m hm => by
  cases hh : ((.slice zQ lQ cQ) : Value).ownBlock with
  | none => exact .inl rfl
  | some k => exact .inr fun e => by have := hlt k hh; have := Option.some.inj e; omega
 have FQ := World.ownsRow.kept (World.ownsRow.kept o5 G4 (nq _ (by omega))) FF.out.2 (nq _ (by omega))
 have FB0 := below_next B4.out b5 nR
 have FB := (FB0.grown G4 FB0.size (fun k hk => by cases hk; omega)).grown FF.out.2 (by have := FB0.size; omega) (fun k hk => by cases hk; omega)
 have hpv := O4.out.2.2.1
 have hus := O4.out.us_lt
 refine bodyPost_ret (v := .agg #[(.slice zP lP cP), (.slice zQ lQ cQ), .int .i64 bw, .int .i64 bm, .int .i64 bl]) (by simp [results, Tryz.results9, go_sem, i0, i1, i2, i3, i4]) rfl ⟨(.slice zP lP cP), (.slice zQ lQ cQ), us, by rw [VB.out], ⟨(FU.mono (by omega)).wider (by omega), World.ownsRow.mono FQ (by omega), fun k hk => ⟨by have := hlt2 k hk; omega, fun e => by have := hpv k e; have := hlt k hk; omega, fun u hu e => by have := (hus u hu k e).2; have := hlt k hk; omega⟩⟩, FB⟩
end Go.Proofs.YtofnchdijanikaaGreatDoor
namespace Go.Proofs.YtofnchdijanikaaGreatDoor
open Go.RowKit
open Go.ChangeShapes Go.WideShapes Go.Deep Go.Joins
section
variable {H : Type} {enc : TypeId × Value → H} {w : World} {base : Nat} {spare : Nat → Bool} {held : Bool}
theorem array5 {α : Type} {cs : Array α} (h : cs.size = 5) : ∃ c0 c1 c2 c3 c4, cs = #[c0, c1, c2, c3, c4] := by
 obtain ⟨l⟩ := cs
 match l, h with
 | [c0, c1, c2, c3, c4], _ => exact ⟨c0, c1, c2, c3, c4, rfl⟩
theorem trod_struct5 {P : Program} {t : TypeId} {f0 f1 f2 f3 f4 : Field} {fuel : Nat} {cs : List Value} {x : DataW H × List MemPlace} (ht : P.underlying t = some (.struct #[f0, f1, f2, f3, f4])) (h : DataW.trod enc P w base spare held fuel t cs = some x) :
  ∃ y0 y1 y2 y3 y4 n, cs.length = P.cellsOf t ∧ x.1 = .agg [Prod.fst y0, Prod.fst y1, Prod.fst y2, Prod.fst y3, Prod.fst y4] ∧ DataW.trod enc P w base spare held n f0.type ((cs.drop f0.offset).take (P.cellsOf f0.type)) = some y0 ∧
   DataW.trod enc P w base spare held n f1.type ((cs.drop f1.offset).take (P.cellsOf f1.type)) = some y1 ∧ DataW.trod enc P w base spare held n f2.type ((cs.drop f2.offset).take (P.cellsOf f2.type)) = some y2 ∧
   DataW.trod enc P w base spare held n f3.type ((cs.drop f3.offset).take (P.cellsOf f3.type)) = some y3 ∧ DataW.trod enc P w base spare held n f4.type ((cs.drop f4.offset).take (P.cellsOf f4.type)) = some y4 := by
 obtain ⟨xs, n, _, rfl, hl, hlen, hf⟩ := DataW.trod_struct ht h
 match xs, hlen with
 | [y0, y1, y2, y3, y4], _ => exact ⟨y0, y1, y2, y3, y4, n, hl, by simp, by simpa using hf 0 f0 rfl, by simpa using hf 1 f1 rfl, by simpa using hf 2 f2 rfl, by simpa using hf 3 f3 rfl, by simpa using hf 4 f4 rfl⟩
theorem open_agg5 {P : Program} {r : Reach} {b0 : Nat} {t : TypeId} {f0 f1 f2 f3 f4 : Field} {v : Value} {d : DataW H} {p : List MemPlace} (hs : P.underlying t = some (.struct #[f0, f1, f2, f3, f4])) (hone : oneCellFields P #[f0, f1, f2, f3, f4] = true) (hC : P.cellsOf t = 5)
  (hv : Value.okWide P w r b0 t v) (h : DataW.Trod enc P w base spare held t v d p) :
  ∃ (v0 v1 v2 v3 v4 : Value) (y0 y1 y2 y3 y4 : DataW H × List MemPlace) (n : Nat), v = .agg #[v0, v1, v2, v3, v4] ∧
   DataW.trod enc P w base spare held n f0.type [v0] = some y0 ∧ DataW.trod enc P w base spare held n f1.type [v1] = some y1 ∧ DataW.trod enc P w base spare held n f2.type [v2] = some y2 ∧ DataW.trod enc P w base spare held n f3.type [v3] = some y3 ∧ DataW.trod enc P w base spare held n f4.type [v4] = some y4 := by
 obtain ⟨cs, rfl, hsz⟩ := okWide_struct hs hv
 obtain ⟨c0, c1, c2, c3, c4, rfl⟩ := array5 (hsz.trans hC)
 obtain ⟨fuel, hf⟩ := h
 obtain ⟨y0, y1, y2, y3, y4, n, _, _, h0, h1, h2, h3, h4⟩ := trod_struct5 hs hf
 obtain ⟨o0, k0⟩ := hone_of hone 0 f0 rfl
 obtain ⟨o1, k1⟩ := hone_of hone 1 f1 rfl
 obtain ⟨o2, k2⟩ := hone_of hone 2 f2 rfl
 obtain ⟨o3, k3⟩ := hone_of hone 3 f3 rfl
 obtain ⟨o4, k4⟩ := hone_of hone 4 f4 rfl
 exact ⟨c0, c1, c2, c3, c4, y0, y1, y2, y3, y4, n, rfl, by simpa [Value.cells, o0, k0] using h0, by simpa [Value.cells, o1, k1] using h1, by simpa [Value.cells, o2, k2] using h2, by simpa [Value.cells, o3, k3] using h3, by simpa [Value.cells, o4, k4] using h4⟩
def ShM (xs : List (List UInt8)) : Prop := ∀ x ∈ xs, x.length ≤ 9223372036854775807
theorem row_of {y : DataW H × List MemPlace} {n : Nat} {c : Value} (h : DataW.trod enc Tryz.prog w base spare held n 23 [c] = some y) : ∃ x, TxtS w c x ∧ ShM x := by
 obtain ⟨a, len, cap, rfl⟩ : ∃ a len cap, c = .slice a len cap := by
  rcases open_slice Tryz.underlying23 h with ⟨h0, _⟩ | ⟨a, len, cap, m, n, D, Pl, h1, _⟩
  ·simp at h0; exact ⟨_, _, _, h0⟩
  ·simp at h1; exact ⟨_, _, _, h1⟩
 obtain ⟨zs, hl2, _, hG, hr⟩ := open_rows (k := 1) encS (fun z => z.size ≤ 9223372036854775807) (by decide) Tryz.underlying23 (by kernel_rfl) one_string (a0 := a) (len0 := len) (cap0 := cap) (by simpa [Value.cells] using h)
 refine ⟨zs.map (fun x : ByteArray => x.data.toList), TxtS.of_s (by rw [map_bs]; exact hr), fun x hx => ?_⟩
 obtain ⟨z, hz, rfl⟩ := List.mem_map.1 hx
 have := hG z hz
 rw [Array.length_toList]
 exact this
theorem one_row (cs : List Value) (y : DataW H × List MemPlace) (n : Nat) (h : DataW.trod enc Tryz.prog w base spare held n 23 cs = some y) : ∃ z : Value, cs = encV z ∧ ∃ x, TxtS w z x ∧ ShM x := by
 obtain ⟨z, rfl⟩ : ∃ z, cs = [z] := by
  rcases open_slice Tryz.underlying23 h with ⟨h0, _⟩ | ⟨a, len, cap, m, n, D, Pl, h1, _⟩
  ·exact ⟨_, h0⟩
  ·exact ⟨_, h1⟩
 obtain ⟨x, hx⟩ := row_of h
 exact ⟨z, rfl, x, hx⟩
theorem rows_of {y : DataW H × List MemPlace} {n : Nat} {c : Value} (h : DataW.trod enc Tryz.prog w base spare held n 22 [c] = some y) : ∃ xss, TxtSS w c xss ∧ ∀ x ∈ xss, ShM x := by
 obtain ⟨a, len, cap, rfl⟩ : ∃ a len cap, c = .slice a len cap := by
  rcases open_slice Tryz.underlying22 h with ⟨h0, _⟩ | ⟨a, len, cap, m, n, D, Pl, h1, _⟩
  ·simp at h0; exact ⟨_, _, _, h0⟩
  ·simp at h1; exact ⟨_, _, _, h1⟩
 obtain ⟨us, hl2, _, hG, hr⟩ := open_rows (k := 1) encV (fun z => ∃ x, TxtS w z x ∧ ShM x) (by decide) Tryz.underlying22 (by kernel_rfl) one_row (a0 := a) (len0 := len) (cap0 := cap) (by simpa [Value.cells] using h)
 obtain ⟨xss, hl, hS, hp⟩ := list_choose (α := List (List UInt8)) (G := ShM) (n := us.length) (p := fun i x => ∀ u, us[i]? = some u → TxtS w u x) (fun i hi => by
  obtain ⟨x, hx, hs⟩ := hG us[i] (List.getElem_mem hi)
  refine ⟨x, fun u hu => ?_, hs⟩
  rw [List.getElem?_eq_getElem hi] at hu
  cases hu
  exact hx)
 exact ⟨xss, ⟨us, hr, hl.symm, fun j hj => ⟨us[j]'(by omega), List.getElem?_eq_getElem (by omega), hp j hj _ (List.getElem?_eq_getElem (by omega))⟩⟩, hS⟩
theorem open_book {r : Reach} {b0 : Nat} {v : Value} {d : DataW H} {p : List MemPlace} (hv : Value.okWide Tryz.prog w r b0 25 v) (h : DataW.Trod enc Tryz.prog w base spare held 25 v d p) :
  ∃ pv qv x y z b, v = .agg #[pv, qv, .int .i64 x, .int .i64 y, .int .i64 z] ∧ BookR w v b ∧ (∀ x ∈ b.pars, ShM x) ∧ ShM b.pats := by
 obtain ⟨v0, v1, v2, v3, v4, y0, y1, y2, y3, y4, n, rfl, h0, h1, h2, h3, h4⟩ := open_agg5 Tryz.underlying25 (by kernel_rfl) (by kernel_rfl) hv h
 obtain ⟨xss, hp, hps⟩ := rows_of h0
 obtain ⟨xs, hq, hqs⟩ := row_of h1
 obtain ⟨x, e2, _⟩ := DataW.trod_int Tryz.underlying3 h2
 obtain ⟨y, e3, _⟩ := DataW.trod_int Tryz.underlying3 h3
 obtain ⟨z, e4, _⟩ := DataW.trod_int Tryz.underlying3 h4
 simp only [List.cons.injEq, and_true] at e2 e3 e4
 subst e2 e3 e4
 exact ⟨v0, v1, x, y, z, ⟨xss, xs, x, y, z⟩, rfl, ⟨v0, v1, rfl, hp, hq⟩, hps, hqs⟩
end
def SzB (b : DBook) (l r : Int) : Prop := r = -1 ∨ (0 ≤ r ∧ r + b.pars.length + totT b.pars + b.pats.length ≤ l ∧ (∀ x ∈ b.pars, ∀ y ∈ x, (y.length : Int) ≤ l) ∧ ∀ y ∈ b.pats, (y.length : Int) ≤ l)
set_option maxHeartbeats 8000000 in
theorem szBook_any (v : Value) (b : DBook) (l : Int) (w : World) (h : BookR w v b) (h1 : ∀ x ∈ b.pars, ShM x) (h2 : ShM b.pats) (hl : 0 ≤ l) (hl' : l ≤ 1048576) : Calls Tryz.prog 7 #[v, .int .i64 l] w fun e w' => (∃ r, e = .returned (.int .i64 r) ∧ SzB b l r) ∧ Below w.heap.size w w' := by
 obtain ⟨p1, q1, rfl, hp, hq⟩ := h
 obtain ⟨bw, hbw⟩ : ∃ y, y = b.w := ⟨_, rfl⟩
 obtain ⟨bm, hbm⟩ : ∃ y, y = b.most := ⟨_, rfl⟩
 obtain ⟨bl, hbl⟩ : ∃ y, y = b.lines := ⟨_, rfl⟩
 rw [← hbw, ← hbm, ← hbl]
 obtain ⟨W2, hW2⟩ : ∃ W2, W2 = (w.alloc (.cells #[p1, q1, .int .i64 bw, .int .i64 bm, .int .i64 bl] 25)) := ⟨_, rfl⟩
 have AW : Below w.heap.size w W2 := by rw [hW2]; exact ((Below.refl _ _).alloc nR _)
 have R1 : W2.ownsRow w.heap.size 25 5 (.slice (some ⟨w.heap.size, 0, none⟩) 1 1) 1 [p1, q1, .int .i64 bw, .int .i64 bm, .int .i64 bl] := by rw [hW2]; exact (own5_made w nR _ _ _ _ _ _)
 have HA := hQ AW
 have H1 := hQ R1
 have C1 := hQ (szSS_any p1 b.pars l W2 (hp.below AW) h1 hl hl')
 have C2 := hQ (fun r (h0 : 0 ≤ r) (h9 : r ≤ 1000000000) => szT_any q1 b.pats r W2 (hq.below AW) h2 h0 h9)
 clear hp hq hbw hbm hbl AW R1 h1 h2
 go_enter Tryz.func7, Tryz.ntmps7
 go_upto_region 1 with fail
 rw [← hW2]
 obtain ⟨r0, r1, r2, r3, r4⟩ := own5 H1.out
 clear hW2
 go_wp2_with (go_at_call 28; refine C1.out.mono ?_)
 rintro e w4 ⟨r, rfl, hr, rfl⟩
 rcases hr with rfl | ⟨hr0, hr1, hr2⟩
 ·go_wp2
  go_ret
  exact ⟨⟨_, rfl, .inl rfl⟩, HA.out⟩
 ·have n0 : ¬ r < 0 := by omega
  have C3 := hQ (C2.out r hr0 (by omega))
  have E1 := hQ hr1
  have E2 := hQ hr2
  clear hr1 hr2
  go_wp2_with (go_at_call 21; refine C3.out.mono ?_)
  rintro e w5 ⟨q, rfl, hq, rfl⟩
  rcases hq with rfl | ⟨hq0, hq1, hq2⟩
  ·go_wp2
   go_ret
   exact ⟨⟨_, rfl, .inl rfl⟩, HA.out⟩
  ·have n1 : ¬ q < 0 := by omega
   have E3 := hQ hq1
   have E4 := hQ hq2
   clear hq1 hq2
   go_wp2
   go_ret
   have e1 := E1.out
   have e3 := E3.out
   exact ⟨⟨_, rfl, .inr ⟨hq0, by omega, E2.out, fun y hy => by have := E4.out y hy; omega⟩⟩, HA.out⟩
end Go.Proofs.YtofnchdijanikaaGreatDoor
namespace Go.Proofs.YtofnchdijanikaaGreatDoor
open Go.RowKit
theorem OwnB.onlyU {vs : List Value} {w w' : World} {base hi : Nat} {pv qv : Value} {us : List Value} {b : DBook} (h : OwnB w base hi pv qv us b) (ho : OnlyU vs w w') (hd : ∀ u ∈ vs, ∀ k, u.ownBlock = some k → k < base ∨ hi ≤ k) : OwnB w' base hi pv qv us b :=
 ⟨h.p.kept (fun k h1 h2 h3 => ho.block k h3 fun u hu e => by have := hd u hu k e; omega), owns_onlyU h.q ho (fun k hk u hu e => by have := (h.ap k hk).1; have := (World.ownsRow.lt h.q k hk).1; have := hd u hu k e; omega), h.ap⟩
theorem OwnB.range {w : World} {base hi : Nat} {pv qv : Value} {us : List Value} {b : DBook} (h : OwnB w base hi pv qv us b) : ∀ u ∈ qv :: us, ∀ k, u.ownBlock = some k → base ≤ k ∧ k < hi := by
 intro u hu k hk
 rcases List.mem_cons.1 hu with rfl | hu
 ·exact ⟨(World.ownsRow.lt h.q k hk).1, (h.ap k hk).1⟩
 ·exact h.p.us_lt u hu k hk
theorem OwnB.alloc {w : World} {base hi : Nat} {pv qv : Value} {us : List Value} {b : DBook} (h : OwnB w base hi pv qv us b) (o : Obj) : OwnB (w.alloc o) base hi pv qv us b := h.below ((Below.refl _ _).alloc nR o)
theorem box_onlyU {vs : List Value} {w w' : World} {B g : Nat} {E : TypeId} {l : List Value} (h : w.ownsRow B E 5 (.slice (some ⟨g, 0, none⟩) 1 1) 1 l) (ho : OnlyU vs w w') (hd : ∀ u ∈ vs, ∀ k, u.ownBlock = some k → k ≠ g) : w'.ownsRow B E 5 (.slice (some ⟨g, 0, none⟩) 1 1) 1 l :=
 owns_onlyU h ho (fun k hk u hu e => hd u hu k e (Option.some.inj (show some g = some k from hk)).symm)
theorem NC.ownB {w : World} {base hi : Nat} {pv qv : Value} {us : List Value} {b : DBook} {x y z : Value} (h : OwnB w base hi pv qv us b) : BookN (.agg #[pv, qv, x, y, z]) := fun p q a b c e => by
 injection e with e
 have := congrArg (fun s : Array Value => s[1]?) e
 simp at this
 subst this
 exact NC.own h.q
theorem totT_le (m : Nat) : ∀ xs : List (List (List UInt8)), (∀ x ∈ xs, x.length ≤ m) → totT xs ≤ m * xs.length
 | [], _ => by simp [totT]
 | x :: t, h => by
  have h1 := h x (by simp)
  have h2 := totT_le m t (fun y hy => h y (List.mem_cons_of_mem _ hy))
  rw [totT, List.length_cons, Nat.mul_succ]
  omega
theorem small_ok {b : DBook} (h : bookB b = true) : totT b.pars ≤ 1000 ∧ b.pats.length ≤ 1000 ∧ b.pars.length ≤ 1000 := by
 have hok := bookB_true h
 have h1 := totT_le 12 b.pars (fun x hx => (parB_words (hok.pars x hx)).2.1)
 have h2 := hok.six
 have h3 := (pats_all hok.pats).2
 exact ⟨by omega, by omega, by omega⟩
theorem prL_small (b : DBook) (l : List UInt8) : totT (prL b l).1.pars ≤ 1000 ∧ (prL b l).1.pats.length ≤ 1000 ∧ (prL b l).1.pars.length ≤ 1000 := by
 unfold prL
 split
 ·rename_i hv
  exact small_ok (prLine_ok hv l)
 ·exact ⟨by decide, by decide, by decide⟩
theorem sz_sh {b : DBook} {l r : Int} (h : SzB b l r) (hr : 0 ≤ r) (hl : l ≤ 4000000) : BookSh b ∧ b.pars.length ≤ l.toNat ∧ totT b.pars ≤ l.toNat ∧ b.pats.length ≤ l.toNat := by
 rcases h with rfl | ⟨_, h1, h2, h3⟩
 ·omega
 ·exact ⟨⟨fun p hp x hx => by have := h2 p hp x hx; omega, fun x hx => by have := h3 x hx; omega⟩, by omega, by omega, by omega⟩
end Go.Proofs.YtofnchdijanikaaGreatDoor

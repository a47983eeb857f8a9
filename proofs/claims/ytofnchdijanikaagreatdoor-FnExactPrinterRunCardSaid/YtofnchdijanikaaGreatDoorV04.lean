/-
  PROVED HERE: what the printer's lines need, part V04. Conditions: each theorem's own.
-/
import Derived.Test.YtofnchdijanikaaGreatDoorV03
import Derived.Test.YtofnchdijanikaaGreatDoorC03
import Derived.Test.YtofnchdijanikaaGreatDoorC05
import Derived.LaidLaws
import Derived.Lib.AppendIntMem
import Derived.WalkSmall
import Derived.Test.YtofnchdijanikaaGreatDoorV01
set_option linter.unusedVariables false
set_option linter.unusedSimpArgs false
set_option maxRecDepth 100000
namespace Go.Proofs.YtofnchdijanikaaGreatDoor
open Go.RowKit
section
variable {w w' : World} {base base' hi hi' g : Nat} {pv qv : Value} {us : List Value} {b : DBook}
theorem OwnB.below (h : OwnB w base hi pv qv us b) (hb : Below w.heap.size w w') : OwnB w' base hi pv qv us b := ⟨h.p.below hb, owns_below h.q hb, h.ap⟩
theorem OwnB.wider (h : OwnB w base hi pv qv us b) (hh : hi ≤ hi') : OwnB w base hi' pv qv us b := ⟨h.p.wider hh, h.q, fun k hk => ⟨Nat.lt_of_lt_of_le (h.ap k hk).1 hh, (h.ap k hk).2⟩⟩
theorem OwnB.mono (h : OwnB w base hi pv qv us b) (hb : base' ≤ base) : OwnB w base' hi pv qv us b := ⟨h.p.mono hb, World.ownsRow.mono h.q hb, h.ap⟩
theorem OwnB.grown (h : OwnB w base hi pv qv us b) (hg : w.grownBy w' (some g)) (hr : g < base ∨ hi ≤ g) : OwnB w' base hi pv qv us b :=
 ⟨h.p.grown hg (fun k hk => by cases hk; exact hr), World.ownsRow.kept h.q hg (by
  cases hl : qv.ownBlock with
  | none => exact .inl rfl
  | some k =>
   have h1 := (World.ownsRow.lt h.q k hl).1
   have h2 := (h.ap k hl).1
   exact .inr fun e => absurd (Option.some.inj e) (by omega)), h.ap⟩
theorem OwnB.forms (h : OwnB w base hi pv qv us b) : ∃ za la ca zb lb cb, pv = .slice za la ca ∧ qv = .slice zb lb cb := by
 obtain ⟨za, ca, rfl⟩ := h.p.form
 obtain ⟨zb, cb, rfl⟩ := own_form h.q
 exact ⟨za, _, ca, zb, _, cb, rfl, rfl⟩
end
def LinePost (B : Nat) (r : DBook × List UInt8) (w : World) (e : Ending) (w' : World) : Prop := ∃ pv qv us, e = .returned (.tuple #[bookV pv qv r.1, .string (bs r.2)]) ∧ OwnB w' B w'.heap.size pv qv us r.1 ∧ Below w.heap.size w w'
set_option maxHeartbeats 16000000 in
theorem printed_any (b x : DBook) (hv : bookB b = true) (hs : BookSh x) (v : Value) (w : World) (h : BookR w v b) (hz : BookN v) (B : Nat) (hB : B ≤ w.heap.size) (pv qv : Value) (us : List Value) (hx : OwnB w B w.heap.size pv qv us x) :
  Calls Tryz.prog 40 #[v, bookV pv qv x] w (LinePost B (tried b x) w) := by
 obtain ⟨za, la, ca, zb, lb, cb, rfl, rfl⟩ := hx.forms
 have hok := bookB_true hv
 obtain ⟨p1, q1, rfl, hp, hq⟩ := h
 obtain ⟨pa, pl, pc, rfl⟩ : ∃ a l c, p1 = .slice a l c := by obtain ⟨va, vc, e, _⟩ := ss_idx hp; exact ⟨_, _, _, e⟩
 obtain ⟨qa, ql, qc, rfl⟩ : ∃ a l c, q1 = .slice a l c := by obtain ⟨a, c, e, _⟩ := hq; exact ⟨_, _, _, e⟩
 obtain ⟨bw, hbw⟩ : ∃ y, y = b.w := ⟨_, rfl⟩
 obtain ⟨bm, hbm⟩ : ∃ y, y = b.most := ⟨_, rfl⟩
 obtain ⟨bl, hbl⟩ : ∃ y, y = b.lines := ⟨_, rfl⟩
 obtain ⟨xw, hxw⟩ : ∃ y, y = x.w := ⟨_, rfl⟩
 obtain ⟨xm, hxm⟩ : ∃ y, y = x.most := ⟨_, rfl⟩
 obtain ⟨xl, hxl⟩ : ∃ y, y = x.lines := ⟨_, rfl⟩
 have VB : Hid (∀ y z, bookV y z b = .agg #[y, z, .int .i64 bw, .int .i64 bm, .int .i64 bl]) := fun y z => by rw [hbw, hbm, hbl]; rfl
 have VX : Hid (∀ y z, bookV y z x = .agg #[y, z, .int .i64 xw, .int .i64 xm, .int .i64 xl]) := fun y z => by rw [hxw, hxm, hxl]; rfl
 rw [VX.out]
 have BRB := hQ (fun w' (hb : Below w.heap.size w w') => BookR.below (b := b) ⟨_, _, rfl, hp, hq⟩ hb)
 rw [← hbw, ← hbm, ← hbl] at BRB hz ⊢
 obtain ⟨W3, hW3⟩ : ∃ W3, W3 = (((w.alloc (.cells #[.slice pa pl pc, .slice qa ql qc, .int .i64 bw, .int .i64 bm, .int .i64 bl] BoxT)).alloc (.cells #[.slice za la ca, .slice zb lb cb, .int .i64 xw, .int .i64 xm, .int .i64 xl] BoxT)).alloc (.cells #[.slice none 0 0, .slice none 0 0, .int .i64 0, .int .i64 0, .int .i64 0] BoxT)) := ⟨_, rfl⟩
 have AW : Below w.heap.size w W3 := by rw [hW3]; exact (((Below.refl _ _).alloc nR _).alloc (by simp) _).alloc (by simp; omega) _
 have S3 : W3.heap.size = w.heap.size + 3 := by rw [hW3]; simp
 have R1 : W3.ownsRow w.heap.size BoxT 5 (.slice (some ⟨w.heap.size, 0, none⟩) 1 1) 1 [.slice pa pl pc, .slice qa ql qc, .int .i64 bw, .int .i64 bm, .int .i64 bl] := by rw [hW3]; exact ((own5_made w nR _ _ _ _ _ _).alloc _).alloc _
 have R2 : W3.ownsRow w.heap.size BoxT 5 (.slice (some ⟨w.heap.size + 1, 0, none⟩) 1 1) 1 [.slice za la ca, .slice zb lb cb, .int .i64 xw, .int .i64 xm, .int .i64 xl] := by
  have := own5_made (w.alloc (.cells #[.slice pa pl pc, .slice qa ql qc, .int .i64 bw, .int .i64 bm, .int .i64 bl] BoxT)) (B := w.heap.size) (by simp) BoxT (.slice za la ca) (.slice zb lb cb) (.int .i64 xw) (.int .i64 xm) (.int .i64 xl)
  rw [show (w.alloc (.cells #[.slice pa pl pc, .slice qa ql qc, .int .i64 bw, .int .i64 bm, .int .i64 bl] BoxT)).heap.size = w.heap.size + 1 by simp] at this
  rw [hW3]
  exact this.alloc _
 have R3 : W3.ownsRow w.heap.size BoxT 5 (.slice (some ⟨w.heap.size + 1 + 1, 0, none⟩) 1 1) 1 [.slice none 0 0, .slice none 0 0, .int .i64 0, .int .i64 0, .int .i64 0] := by
  have := own5_made ((w.alloc (.cells #[.slice pa pl pc, .slice qa ql qc, .int .i64 bw, .int .i64 bm, .int .i64 bl] BoxT)).alloc (.cells #[.slice za la ca, .slice zb lb cb, .int .i64 xw, .int .i64 xm, .int .i64 xl] BoxT)) (B := w.heap.size) (by simp; omega) BoxT (.slice none 0 0) (.slice none 0 0) (.int .i64 0) (.int .i64 0) (.int .i64 0)
  rw [show ((w.alloc (.cells #[.slice pa pl pc, .slice qa ql qc, .int .i64 bw, .int .i64 bm, .int .i64 bl] BoxT)).alloc (.cells #[.slice za la ca, .slice zb lb cb, .int .i64 xw, .int .i64 xm, .int .i64 xl] BoxT)).heap.size = w.heap.size + 1 + 1 by simp] at this
  rw [hW3]
  exact this
 have OX := hQ (hx.below AW)
 have BV := hQ (implBook_any x hs _ W3 (BookR.below hx.read AW))
 rw [VX.out] at BV
 have HA := hQ AW
 have HS3 := hQ S3
 have H1 := hQ R1
 have H2 := hQ R2
 have H3 := hQ R3
 have hB' := hQ hB
 have CLH : Hid (∀ w', Below w.heap.size w w' → Calls Tryz.prog 37 #[.agg #[.slice pa pl pc, .slice qa ql qc, .int .i64 bw, .int .i64 bm, .int .i64 bl]] w' fun e w2 => ∃ ya ma da yb mb db us2, e = .returned (.agg #[.slice ya ma da, .slice yb mb db, .int .i64 bw, .int .i64 bm, .int .i64 bl]) ∧ OwnB w2 w'.heap.size w2.heap.size (.slice ya ma da) (.slice yb mb db) us2 b ∧ Below w'.heap.size w' w2) := fun w' hb => by
  refine Calls.mono (clone_any b hv _ w' (BRB.out w' hb) hz) ?_
  rintro e w2 ⟨pv2, qv2, us2, rfl, ho, hb⟩
  obtain ⟨ya, ma, da, yb, mb, db, rfl, rfl⟩ := ho.forms
  exact ⟨ya, ma, da, yb, mb, db, us2, by rw [VB.out], ho, hb⟩
 clear hok hp hq hbw hbm hbl hxw hxm hxl AW S3 R1 R2 R3 hz hx hs BRB hB
 unfold BoxT at hW3
 cases hbx : bookB x with
 | true =>
  have E : Hid (tried b x = (x, tOk)) := by show _ = _; unfold tried; rw [if_pos hbx]
  rw [hbx] at BV
  clear hbx CLH
  go_enter Tryz.func40, Tryz.ntmps40
  go_upto_region 1 with fail
  rw [← hW3]
  obtain ⟨r0, r1, r2, r3, r4⟩ := own5 H2.out
  clear hW3
  go_wp2_with (go_at_call 27; refine BV.out.mono ?_; rintro e w4 ⟨rfl, hb4⟩; have K2 := hQ (owns_below H2.out hb4); have K3 := hQ (owns_below H3.out hb4); obtain ⟨e0, e1, e2, e3, e4⟩ := own5 K2.out; obtain ⟨q0, q1, q2, q3, q4⟩ := own5 K3.out; obtain ⟨m0, m1, m2, m3, m4⟩ := fz5 K3.out; have FF := hQ (own5_set K3.out (.slice za la ca) (.slice zb lb cb) (.int .i64 xw) (.int .i64 xm) (.int .i64 xl)))
  have B4 := below_next HA.out hb4 nR
  have s4 := hb4.size
  obtain ⟨g0, g1, g2, g3, g4⟩ := own5 FF.out.1
  have hs3 := HS3.out
  have fs := FF.out.2.size
  have hbB := hB'.out
  have FX := (OX.out.below hb4).grown FF.out.2 (.inr (by omega))
  have FB := (B4).grown FF.out.2 B4.size (fun k hk => by cases hk; omega)
  refine bodyPost_ret (v := .tuple #[.agg #[(.slice za la ca), (.slice zb lb cb), .int .i64 xw, .int .i64 xm, .int .i64 xl], .string (bs tOk)]) (by simp [results, Tryz.results40, go_sem, g0, g1, g2, g3, g4]; rfl) rfl ⟨(.slice za la ca), (.slice zb lb cb), us, by rw [E.out, VX.out], by rw [E.out]; exact FX.wider (by omega), FB⟩
 | false =>
  have E : Hid (tried b x = (b, tNo)) := by show _ = _; unfold tried; rw [if_neg (by rw [hbx]; decide)]
  rw [hbx] at BV
  clear hbx
  go_enter Tryz.func40, Tryz.ntmps40
  go_upto_region 1 with fail
  rw [← hW3]
  obtain ⟨r0, r1, r2, r3, r4⟩ := own5 H2.out
  clear hW3
  go_wp2_with (first | (go_at_call 27; refine BV.out.mono ?_; rintro e w4 ⟨rfl, hb4⟩; have K1 := hQ (owns_below H1.out hb4); obtain ⟨e0, e1, e2, e3, e4⟩ := own5 K1.out; have BW4 := hQ (below_next HA.out hb4 nR)) | (go_at_call 37; refine (CLH.out _ BW4.out).mono ?_; rintro e w5 ⟨ya, ma, da, yb, mb, db, us2, rfl, ho5, hb5⟩; have K3 := hQ (owns_below (owns_below H3.out hb4) hb5); obtain ⟨q0, q1, q2, q3, q4⟩ := own5 K3.out; obtain ⟨m0, m1, m2, m3, m4⟩ := fz5 K3.out; have FF := hQ (own5_set K3.out (.slice ya ma da) (.slice yb mb db) (.int .i64 bw) (.int .i64 bm) (.int .i64 bl))))
  have s4 := hb4.size
  have s5 := hb5.size
  have B5 := below_next BW4.out hb5 nR
  obtain ⟨g0, g1, g2, g3, g4⟩ := own5 FF.out.1
  have hs3 := HS3.out
  have fs := FF.out.2.size
  have hbB := hB'.out
  have FX := (ho5.grown FF.out.2 (.inl (by omega))).mono (by omega : B ≤ w4.heap.size)
  have FB := (B5).grown FF.out.2 B5.size (fun k hk => by cases hk; omega)
  refine bodyPost_ret (v := .tuple #[.agg #[(.slice ya ma da), (.slice yb mb db), .int .i64 bw, .int .i64 bm, .int .i64 bl], .string (bs tNo)]) (by simp [results, Tryz.results40, go_sem, g0, g1, g2, g3, g4]; rfl) rfl ⟨(.slice ya ma da), (.slice yb mb db), us2, by rw [E.out, VB.out], by rw [E.out]; exact FX.wider (by omega), FB⟩
end Go.Proofs.YtofnchdijanikaaGreatDoor
namespace Go.Proofs.YtofnchdijanikaaGreatDoor
open Go.RowKit
def ErrTab (w : World) : Prop := (∃ tp p, w.cell? ⟨2, 0, none⟩ = some (.iface tp p)) ∧ ∃ tp p, w.cell? ⟨3, 0, none⟩ = some (.iface tp p)
theorem cell_kept {w w' : World} {b o B : Nat} {u : Value} (h : w.cell? ⟨b, o, none⟩ = some u) (hb : Below B w w') (hB : w.heap.size ≤ B) : w'.cell? ⟨b, o, none⟩ = some u :=
 (hb.cell (p := ⟨b, o, none⟩) (Nat.lt_of_lt_of_le (World.block_lt_of_cell? w _ h) hB)).trans h
theorem ErrTab.below {w w' : World} {B : Nat} (h : ErrTab w) (hb : Below B w w') (hB : w.heap.size ≤ B) : ErrTab w' := by
 obtain ⟨⟨a, b, h1⟩, c, d, h2⟩ := h
 exact ⟨⟨a, b, cell_kept h1 hb hB⟩, c, d, cell_kept h2 hb hB⟩
def AtoiPost (l : List UInt8) (w : World) (e : Ending) (w' : World) : Prop :=
 ∃ (n : Int) (ev : Value), e = .returned (.tuple #[.int .i64 n, ev]) ∧ ((Lib.atoiAll l = .ok n ∧ ev = .nilIface) ∨ ((∀ v, Lib.atoiAll l ≠ .ok v) ∧ ∃ t p, ev = .iface t p)) ∧ Below w.heap.size w w'
theorem atoi_any (l : List UInt8) (hl : l.length ≤ 4000000) (w : World) (he : ErrTab w) : Calls Tryz.prog 68 #[.string (bs l)] w (AtoiPost l w) := by
 have hs : (bs l).size = l.length := by simp [ByteArray.size]
 have hd : (bs l).data.toList = l := by simp
 obtain ⟨⟨a, b, h1⟩, c, d, h2⟩ := he
 rcases h : Lib.atoiAll l with v | _ | _
 ·skip
  refine (Tryz.strconv_Atoi_ok (bs l) (by rw [hs]; omega) v (by rw [hd]; exact h) w).mono ?_
  rintro e w' ⟨rfl, hw⟩
  refine ⟨v, .nilIface, rfl, .inl ⟨h, rfl⟩, ?_⟩
  rcases hw with rfl | ⟨t, rfl⟩
  ·exact Below.refl _ _
  ·exact Lib.bytesWorld_below _ _ _
 ·skip
  refine (Tryz.strconv_Atoi_syntax (bs l) (by rw [hs]; omega) (by rw [hd]; exact h) _ w h1 (.inr ⟨a, b, rfl⟩)).mono ?_
  rintro e w' ⟨N, rfl, _, _, hb⟩
  exact ⟨_, _, rfl, .inr ⟨(fun v hv => by rw [h] at hv; cases hv), _, _, rfl⟩, hb⟩
 ·skip
  refine (Tryz.strconv_Atoi_range (bs l) (by rw [hs]; omega) (by rw [hd]; exact h) _ w h2 (.inr ⟨c, d, rfl⟩)).mono ?_
  rintro e w' ⟨N, rfl, _, _, hb⟩
  exact ⟨_, _, rfl, .inr ⟨(fun v hv => by rw [h] at hv; cases hv), _, _, rfl⟩, hb⟩
theorem gPow : Tryz.prog.globalNamed "internal/strconv.uint64pow10" = some 1 := by kernel_rfl
def PrTab (w : World) : Prop := ErrTab w ∧ Lib.TabIs Tryz.prog w "internal/strconv.uint64pow10" .u64 Lib.pow10Tab
theorem PrTab.below {w w' : World} {B : Nat} (h : PrTab w) (hb : Below B w w') (hB : w.heap.size ≤ B) : PrTab w' := by
 refine ⟨h.1.below hb hB, var?_below hb gPow ?_ h.2⟩
 exact Nat.lt_of_lt_of_le (World.block_lt_of_cell? w _ (Lib.TabIs.cell h.2 gPow 0 (by decide))) hB
theorem itoa_any (n : Int) (h0 : -9223372036854775808 ≤ n) (h1 : n ≤ 9223372036854775807) (w : World) (h : PrTab w) : Calls Tryz.prog 39 #[.int .i64 n] w (Ret (.string (bs (Lib.itoa n))) w) := by
 refine (Tryz.strconv_Itoa n h0 h1 w h.2).mono ?_
 rintro e w' ⟨rfl, k, os, rfl⟩
 exact ⟨rfl, Lib.below_grow _ _ nR _ _⟩
theorem atoi_rng (l : List UInt8) (v : Int) (h : Lib.atoiAll l = .ok v) : -9223372036854775808 ≤ v ∧ v ≤ 9223372036854775807 := by
 exact Lib.atoiAll_bounds h
def NumPr (s : List UInt8) (w : World) (e : Ending) (w' : World) : Prop := ∃ n : Int, e = .returned (.tuple #[.int .i64 n, .bool (numV s).isSome]) ∧ (∀ u, numV s = some u → n = (u : Int)) ∧ Below w.heap.size w w'
set_option maxHeartbeats 4000000 in
theorem number_any (s : List UInt8) (hl : s.length ≤ 4000000) (w : World) (h : PrTab w) : Calls Tryz.prog 41 #[.string (bs s)] w (NumPr s w) := by
 have AT0 := atoi_any s hl w h.1
 have NA := numV_atoi s
 rcases hA : Lib.atoiAll s with v | _ | _
 ·skip
  have AT : Hid (Calls Tryz.prog 68 #[.string (bs s)] w fun e w' => e = .returned (.tuple #[.int .i64 v, .nilIface]) ∧ Below w.heap.size w w') := AT0.mono fun e w' ⟨n, ev, he, hd, hb⟩ => by
   rcases hd with ⟨h1, h2⟩ | ⟨h1, _⟩
   ·rw [hA] at h1
    cases h1
    rw [h2] at he
    exact ⟨he, hb⟩
   ·exact absurd hA (h1 v)
  have vb := atoi_rng s v hA
  have IT := hQ (fun w' h => itoa_any v vb.1 vb.2 w' h)
  have HT := hQ h
  have LEN : (bs s).size = s.length := by simp [ByteArray.size]
  clear AT0 h
  by_cases c1 : 0 ≤ v
  ·by_cases c2 : s.length ≤ 6
   ·by_cases c3 : Lib.itoa v = s
    ·obtain ⟨u, hu, hu2⟩ : ∃ u, numV s = some u ∧ v = (u : Int) := by
      rcases NA with ⟨u, h1, h2, _⟩ | ⟨_, h2⟩
      ·rw [hA] at h2
       injection h2 with h3
       exact ⟨u, h1, h3⟩
      ·exact absurd c3 (h2 v hA c1 c2)
     have E := hQ hu
     have E2 := hQ hu2
     have IT2 : Hid (∀ w' : World, PrTab w' → Calls Tryz.prog 39 #[.int .i64 v] w' (Ret (.string (bs s)) w')) := by
      have := IT.out
      rw [c3] at this
      exact this
     have c2' : (s.length : Int) ≤ 6 := by omega
     clear hu hu2 NA hA IT c3 hl
     go_enter Tryz.func41, Tryz.ntmps41
     go_wp2_with (first | (go_at_call 68; refine AT.out.mono ?_; rintro e w2 ⟨rfl, hb2⟩) | (go_at_call 39; refine (IT2.out _ (HT.out.below hb2 nR)).mono ?_; rintro e w3 ⟨rfl, hb3⟩))
     go_ret2
     exact ⟨v, by rw [E.out]; rfl, fun u' h' => by rw [E.out] at h'; cases h'; exact E2.out, below_next hb2 hb3 nR⟩
    ·have E : Hid (numV s = none) := by
      rcases NA with ⟨u, h1, h2, _, h4⟩ | ⟨h1, _⟩
      ·rw [hA] at h2
       injection h2 with h3
       rw [← h3] at h4
       exact absurd h4 c3
      ·exact h1
     have c3' : (Lib.itoa v == s) = false := by rw [beq_eq_false_iff_ne]; exact c3
     have c2' : (s.length : Int) ≤ 6 := by omega
     clear NA hA c3 hl
     go_enter Tryz.func41, Tryz.ntmps41
     go_wp2_with (first | (go_at_call 68; refine AT.out.mono ?_; rintro e w2 ⟨rfl, hb2⟩) | (go_at_call 39; refine (IT.out _ (HT.out.below hb2 nR)).mono ?_; rintro e w3 ⟨rfl, hb3⟩))
     go_ret2
     exact ⟨v, by rw [E.out]; rfl, (fun u h => by rw [E.out] at h; cases h), below_next hb2 hb3 nR⟩
   ·have E : Hid (numV s = none) := by
     rcases NA with ⟨u, h1, h2, h3, _⟩ | ⟨h1, _⟩
     ·exact absurd h3 c2
     ·exact h1
    have c2' : ¬ (s.length : Int) ≤ 6 := by omega
    clear NA hA hl IT
    go_enter Tryz.func41, Tryz.ntmps41
    go_wp2_with (go_at_call 68; refine AT.out.mono ?_; rintro e w2 ⟨rfl, hb2⟩)
    go_ret2
    exact ⟨v, by rw [E.out]; rfl, (fun u h => by rw [E.out] at h; cases h), hb2⟩
  ·have E : Hid (numV s = none) := by
    rcases NA with ⟨u, h1, h2, h3, _⟩ | ⟨h1, _⟩
    ·rw [hA] at h2
     injection h2 with h3
     omega
    ·exact h1
   clear NA hA hl IT
   go_enter Tryz.func41, Tryz.ntmps41
   go_wp2_with (go_at_call 68; refine AT.out.mono ?_; rintro e w2 ⟨rfl, hb2⟩)
   go_ret2
   exact ⟨v, by rw [E.out]; rfl, (fun u h => by rw [E.out] at h; cases h), hb2⟩
 ·skip
  have E : Hid (numV s = none) := by
   rcases NA with ⟨u, h1, h2, _⟩ | ⟨h1, _⟩
   ·rw [hA] at h2; cases h2
   ·exact h1
  have AT : Hid (Calls Tryz.prog 68 #[.string (bs s)] w fun e w' => ∃ n t p, e = .returned (.tuple #[.int .i64 n, .iface t p]) ∧ Below w.heap.size w w') := AT0.mono fun e w' ⟨n, ev, he, hd, hb⟩ => by
   rcases hd with ⟨h1, h2⟩ | ⟨h1, t, p, h2⟩
   ·rw [hA] at h1; cases h1
   ·rw [h2] at he
    exact ⟨n, t, p, he, hb⟩
  clear NA AT0 hA h hl
  go_enter Tryz.func41, Tryz.ntmps41
  go_wp2_with (go_at_call 68; refine AT.out.mono ?_; rintro e w2 ⟨n, t, p, rfl, hb2⟩)
  go_ret2
  exact ⟨n, by rw [E.out]; rfl, (fun u h => by rw [E.out] at h; cases h), hb2⟩
 ·skip
  have E : Hid (numV s = none) := by
   rcases NA with ⟨u, h1, h2, _⟩ | ⟨h1, _⟩
   ·rw [hA] at h2; cases h2
   ·exact h1
  have AT : Hid (Calls Tryz.prog 68 #[.string (bs s)] w fun e w' => ∃ n t p, e = .returned (.tuple #[.int .i64 n, .iface t p]) ∧ Below w.heap.size w w') := AT0.mono fun e w' ⟨n, ev, he, hd, hb⟩ => by
   rcases hd with ⟨h1, h2⟩ | ⟨h1, t, p, h2⟩
   ·rw [hA] at h1; cases h1
   ·rw [h2] at he
    exact ⟨n, t, p, he, hb⟩
  clear NA AT0 hA h hl
  go_enter Tryz.func41, Tryz.ntmps41
  go_wp2_with (go_at_call 68; refine AT.out.mono ?_; rintro e w2 ⟨n, t, p, rfl, hb2⟩)
  go_ret2
  exact ⟨n, by rw [E.out]; rfl, (fun u h => by rw [E.out] at h; cases h), hb2⟩
end Go.Proofs.YtofnchdijanikaaGreatDoor
namespace Go.Proofs.YtofnchdijanikaaGreatDoor
open Go.RowKit
set_option maxHeartbeats 16000000 in
theorem setW_any (b : DBook) (hv : bookB b = true) (v : Value) (w : World) (h : BookR w v b) (hz : BookN v) (n : Int) :
  Calls Tryz.prog 42 #[v, .string (bs tWidth), .int .i64 n] w (LinePost w.heap.size (tried b { b with w := n }) w) := by
 obtain ⟨p1, q1, rfl, hp, hq⟩ := h
 have hok := bookB_true hv
 obtain ⟨pa, pl, pc, rfl⟩ : ∃ a l c, p1 = .slice a l c := by obtain ⟨va, vc, e, _⟩ := ss_idx hp; exact ⟨_, _, _, e⟩
 obtain ⟨qa, ql, qc, rfl⟩ : ∃ a l c, q1 = .slice a l c := by obtain ⟨a, c, e, _⟩ := hq; exact ⟨_, _, _, e⟩
 obtain ⟨bw, hbw⟩ : ∃ y, y = b.w := ⟨_, rfl⟩
 obtain ⟨bm, hbm⟩ : ∃ y, y = b.most := ⟨_, rfl⟩
 obtain ⟨bl, hbl⟩ : ∃ y, y = b.lines := ⟨_, rfl⟩
 have VB : Hid (∀ y z, bookV y z b = .agg #[y, z, .int .i64 bw, .int .i64 bm, .int .i64 bl]) := fun y z => by rw [hbw, hbm, hbl]; rfl
 have VX : Hid (∀ y z, bookV y z { b with w := n } = .agg #[y, z, .int .i64 n, .int .i64 bm, .int .i64 bl]) := fun y z => by unfold bookV; simp only [hbw, hbm, hbl]
 have BRB := hQ (fun w' (hb : Below w.heap.size w w') => BookR.below (b := b) ⟨_, _, rfl, hp, hq⟩ hb)
 have SX : Hid (BookSh { b with w := n }) := ⟨(bookSh_ok hok).pars, (bookSh_ok hok).pats⟩
 have OXX : Hid (∀ w' B hi pv qv us, OwnB w' B hi pv qv us b → OwnB w' B hi pv qv us { b with w := n }) := fun w' B hi pv qv us h => ⟨h.p, h.q, h.ap⟩
 obtain ⟨x, hx⟩ : ∃ x, x = { b with w := n } := ⟨_, rfl⟩
 rw [← hx] at SX OXX VX ⊢
 rw [← hbw, ← hbm, ← hbl] at BRB hz ⊢
 have HZ := hQ hz
 obtain ⟨W2, hW2⟩ : ∃ W2, W2 = ((w.alloc (.cells #[.slice pa pl pc, .slice qa ql qc, .int .i64 bw, .int .i64 bm, .int .i64 bl] BoxT)).alloc (.cells #[.slice none 0 0, .slice none 0 0, .int .i64 0, .int .i64 0, .int .i64 0] BoxT)) := ⟨_, rfl⟩
 have AW : Below w.heap.size w W2 := by rw [hW2]; exact ((Below.refl _ _).alloc nR _).alloc (by simp) _
 have S2 : W2.heap.size = w.heap.size + 2 := by rw [hW2]; simp
 have R1 : W2.ownsRow w.heap.size BoxT 5 (.slice (some ⟨w.heap.size, 0, none⟩) 1 1) 1 [.slice pa pl pc, .slice qa ql qc, .int .i64 bw, .int .i64 bm, .int .i64 bl] := by rw [hW2]; exact (own5_made w nR _ _ _ _ _ _).alloc _
 have R2 : W2.ownsRow w.heap.size BoxT 5 (.slice (some ⟨w.heap.size + 1, 0, none⟩) 1 1) 1 [.slice none 0 0, .slice none 0 0, .int .i64 0, .int .i64 0, .int .i64 0] := by
  have := own5_made (w.alloc (.cells #[.slice pa pl pc, .slice qa ql qc, .int .i64 bw, .int .i64 bm, .int .i64 bl] BoxT)) (B := w.heap.size) (by simp) BoxT (.slice none 0 0) (.slice none 0 0) (.int .i64 0) (.int .i64 0) (.int .i64 0)
  rw [show (w.alloc (.cells #[.slice pa pl pc, .slice qa ql qc, .int .i64 bw, .int .i64 bm, .int .i64 bl] BoxT)).heap.size = w.heap.size + 1 by simp] at this
  rw [hW2]
  exact this
 have HA := hQ AW
 have HS2 := hQ S2
 have H1 := hQ R1
 have H2 := hQ R2
 have CLH : Hid (Calls Tryz.prog 37 #[.agg #[.slice pa pl pc, .slice qa ql qc, .int .i64 bw, .int .i64 bm, .int .i64 bl]] W2 fun e w2 => ∃ ya ma da yb mb db us2, e = .returned (.agg #[.slice ya ma da, .slice yb mb db, .int .i64 bw, .int .i64 bm, .int .i64 bl]) ∧ OwnB w2 W2.heap.size w2.heap.size (.slice ya ma da) (.slice yb mb db) us2 b ∧ Below W2.heap.size W2 w2) := by
  refine Calls.mono (clone_any b hv _ W2 (BRB.out W2 AW) hz) ?_
  rintro e w2 ⟨pv2, qv2, us2, rfl, ho, hb⟩
  obtain ⟨ya, ma, da, yb, mb, db, rfl, rfl⟩ := ho.forms
  exact ⟨ya, ma, da, yb, mb, db, us2, by rw [VB.out], ho, hb⟩
 have HV := hQ hv
 have PRT : Hid (∀ w4, Below w.heap.size w w4 → W2.heap.size ≤ w4.heap.size → ∀ pv qv us, OwnB w4 W2.heap.size w4.heap.size pv qv us x → Calls Tryz.prog 40 #[.agg #[.slice pa pl pc, .slice qa ql qc, .int .i64 bw, .int .i64 bm, .int .i64 bl], .agg #[pv, qv, .int .i64 n, .int .i64 bm, .int .i64 bl]] w4 fun e w5 => ∃ zc lc cc zd ld cd rw rm rl us2, e = .returned (.tuple #[.agg #[.slice zc lc cc, .slice zd ld cd, .int .i64 rw, .int .i64 rm, .int .i64 rl], .string (bs (tried b x).2)]) ∧ bookV (.slice zc lc cc) (.slice zd ld cd) (tried b x).1 = .agg #[.slice zc lc cc, .slice zd ld cd, .int .i64 rw, .int .i64 rm, .int .i64 rl] ∧ OwnB w5 W2.heap.size w5.heap.size (.slice zc lc cc) (.slice zd ld cd) us2 (tried b x).1 ∧ (∀ k, k < w.heap.size + 2 → w.heap.size ≤ k → True) ∧ Below w4.heap.size w4 w5) := fun w4 hb hs4 pv qv us ho => by
  have := printed_any b x hv SX.out (.agg #[.slice pa pl pc, .slice qa ql qc, .int .i64 bw, .int .i64 bm, .int .i64 bl]) w4 (BRB.out w4 hb) hz W2.heap.size hs4 pv qv us ho
  rw [VX.out] at this
  refine this.mono ?_
  rintro e w5 ⟨pv2, qv2, us2, rfl, ho2, hb2⟩
  obtain ⟨zc, lc, cc, zd, ld, cd, rfl, rfl⟩ := ho2.forms
  exact ⟨zc, lc, cc, zd, ld, cd, _, _, _, us2, rfl, rfl, ho2, fun _ _ _ => trivial, hb2⟩
 clear hok hp hq hbw hbm hbl hx AW S2 R1 R2 hz hv
 unfold BoxT at hW2
 unfold tWidth
 go_enter Tryz.func42, Tryz.ntmps42
 go_upto_region 1 with fail
 rw [← hW2]
 obtain ⟨r0, r1, r2, r3, r4⟩ := own5 H1.out
 clear hW2
 go_upto_region 2 with (go_at_call 37; refine CLH.out.mono ?_; rintro e w3 ⟨ya, ma, da, yb, mb, db, us, rfl, ho3, hb3⟩)
 have s2 := HS2.out
 have s3 := hb3.size
 have B3 := hQ (below_next HA.out hb3 nR)
 have K1 := (owns_below H1.out hb3).alloc (.cells #[.slice ya ma da, .slice yb mb db, .int .i64 bw, .int .i64 bm, .int .i64 bl] BoxT)
 have K2 := (owns_below H2.out hb3).alloc (.cells #[.slice ya ma da, .slice yb mb db, .int .i64 bw, .int .i64 bm, .int .i64 bl] BoxT)
 have K3 := own5_made w3 (B := w.heap.size) B3.out.size BoxT (.slice ya ma da) (.slice yb mb db) (.int .i64 bw) (.int .i64 bm) (.int .i64 bl)
 have O4 := ho3.below ((Below.refl w3.heap.size w3).alloc nR (.cells #[.slice ya ma da, .slice yb mb db, .int .i64 bw, .int .i64 bm, .int .i64 bl] BoxT))
 have B4 := B3.out.alloc B3.out.size (.cells #[.slice ya ma da, .slice yb mb db, .int .i64 bw, .int .i64 bm, .int .i64 bl] BoxT)
 obtain ⟨ws, hws⟩ : ∃ ws, ws = w3.alloc (.cells #[.slice ya ma da, .slice yb mb db, .int .i64 bw, .int .i64 bm, .int .i64 bl] BoxT) := ⟨_, rfl⟩
 have Sws : ws.heap.size = w3.heap.size + 1 := by rw [hws]; simp
 rw [← hws] at K1 K2 K3 O4 B4
 unfold BoxT at hws
 rw [← hws]
 have T := K3.stored 2 (.int .i64 n)
 have K4 : (ws.setCell ⟨w3.heap.size, 2, none⟩ (.int .i64 n)).ownsRow w.heap.size BoxT 5 (.slice (some ⟨w3.heap.size, 0, none⟩) 1 1) 1 [.slice ya ma da, .slice yb mb db, .int .i64 n, .int .i64 bm, .int .i64 bl] := T.1
 have L1 := World.ownsRow.kept K1 T.2 (.inr (show some w.heap.size ≠ some w3.heap.size from fun e => by have := Option.some.inj e; omega))
 have L2 := World.ownsRow.kept K2 T.2 (.inr (show some (w.heap.size + 1) ≠ some w3.heap.size from fun e => by have := Option.some.inj e; omega))
 have O5 := O4.grown T.2 (.inr nR)
 have B5 := B4.grown T.2 B4.size (fun k hk => by cases hk; omega)
 have ts := T.2.size
 have O6 := hQ (OXX.out _ _ _ _ _ _ (O5.wider (by omega : w3.heap.size ≤ (ws.setCell ⟨w3.heap.size, 2, none⟩ (.int .i64 n)).heap.size)))
 obtain ⟨q0, q1, q2, q3, q4⟩ := own5 K3
 have m := World.ownsRow.frozenAt K3 2
 obtain ⟨c0, c1, c2, c3, c4⟩ := own5 K4
 obtain ⟨d0, d1, d2, d3, d4⟩ := own5 L1
 have PR := hQ (PRT.out _ B5 (by omega) _ _ _ O6.out)
 have HL2 := hQ L2
 have HB5 := hQ B5
 clear hws K1 K2 K3 K4 T L1 L2 O4 O5 B4 ts B5 hb3 ho3 s3 s2
 go_wp2_with (go_at_call 40; refine PR.out.mono ?_; rintro e w5 ⟨zc, lc, cc, zd, ld, cd, rw, rm, rl, us2, rfl, hbv, ho5, -, hb5⟩; have HBV := hQ hbv; have K5 := hQ (owns_below HL2.out hb5); obtain ⟨p0, p1, p2, p3, p4⟩ := own5 K5.out; obtain ⟨n0, n1, n2, n3, n4⟩ := fz5 K5.out; have FF := hQ (own5_set K5.out (.slice zc lc cc) (.slice zd ld cd) (.int .i64 rw) (.int .i64 rm) (.int .i64 rl)))
 obtain ⟨g0, g1, g2, g3, g4⟩ := own5 FF.out.1
 have s2 := HS2.out
 have fs := FF.out.2.size
 have FX := ((ho5.grown FF.out.2 (.inl (by omega))).mono (by omega : w.heap.size ≤ W2.heap.size)).wider fs
 have B6 := below_next HB5.out hb5 nR
 have FB := B6.grown FF.out.2 B6.size (fun k hk => by cases hk; omega)
 refine bodyPost_ret (v := .tuple #[.agg #[.slice zc lc cc, .slice zd ld cd, .int .i64 rw, .int .i64 rm, .int .i64 rl], .string (bs (tried b x).2)]) (by simp [results, Tryz.results42, go_sem, g0, g1, g2, g3, g4]) rfl ⟨.slice zc lc cc, .slice zd ld cd, us2, by rw [HBV.out], FX, FB⟩
set_option maxHeartbeats 16000000 in
theorem setM_any (b : DBook) (hv : bookB b = true) (v : Value) (w : World) (h : BookR w v b) (hz : BookN v) (n : Int) :
  Calls Tryz.prog 42 #[v, .string (bs tMost), .int .i64 n] w (LinePost w.heap.size (tried b { b with most := n }) w) := by
 obtain ⟨p1, q1, rfl, hp, hq⟩ := h
 have hok := bookB_true hv
 obtain ⟨pa, pl, pc, rfl⟩ : ∃ a l c, p1 = .slice a l c := by obtain ⟨va, vc, e, _⟩ := ss_idx hp; exact ⟨_, _, _, e⟩
 obtain ⟨qa, ql, qc, rfl⟩ : ∃ a l c, q1 = .slice a l c := by obtain ⟨a, c, e, _⟩ := hq; exact ⟨_, _, _, e⟩
 obtain ⟨bw, hbw⟩ : ∃ y, y = b.w := ⟨_, rfl⟩
 obtain ⟨bm, hbm⟩ : ∃ y, y = b.most := ⟨_, rfl⟩
 obtain ⟨bl, hbl⟩ : ∃ y, y = b.lines := ⟨_, rfl⟩
 have VB : Hid (∀ y z, bookV y z b = .agg #[y, z, .int .i64 bw, .int .i64 bm, .int .i64 bl]) := fun y z => by rw [hbw, hbm, hbl]; rfl
 have VX : Hid (∀ y z, bookV y z { b with most := n } = .agg #[y, z, .int .i64 bw, .int .i64 n, .int .i64 bl]) := fun y z => by unfold bookV; simp only [hbw, hbm, hbl]
 have BRB := hQ (fun w' (hb : Below w.heap.size w w') => BookR.below (b := b) ⟨_, _, rfl, hp, hq⟩ hb)
 have SX : Hid (BookSh { b with most := n }) := ⟨(bookSh_ok hok).pars, (bookSh_ok hok).pats⟩
 have OXX : Hid (∀ w' B hi pv qv us, OwnB w' B hi pv qv us b → OwnB w' B hi pv qv us { b with most := n }) := fun w' B hi pv qv us h => ⟨h.p, h.q, h.ap⟩
 obtain ⟨x, hx⟩ : ∃ x, x = { b with most := n } := ⟨_, rfl⟩
 rw [← hx] at SX OXX VX ⊢
 rw [← hbw, ← hbm, ← hbl] at BRB hz ⊢
 have HZ := hQ hz
 obtain ⟨W2, hW2⟩ : ∃ W2, W2 = ((w.alloc (.cells #[.slice pa pl pc, .slice qa ql qc, .int .i64 bw, .int .i64 bm, .int .i64 bl] BoxT)).alloc (.cells #[.slice none 0 0, .slice none 0 0, .int .i64 0, .int .i64 0, .int .i64 0] BoxT)) := ⟨_, rfl⟩
 have AW : Below w.heap.size w W2 := by rw [hW2]; exact ((Below.refl _ _).alloc nR _).alloc (by simp) _
 have S2 : W2.heap.size = w.heap.size + 2 := by rw [hW2]; simp
 have R1 : W2.ownsRow w.heap.size BoxT 5 (.slice (some ⟨w.heap.size, 0, none⟩) 1 1) 1 [.slice pa pl pc, .slice qa ql qc, .int .i64 bw, .int .i64 bm, .int .i64 bl] := by rw [hW2]; exact (own5_made w nR _ _ _ _ _ _).alloc _
 have R2 : W2.ownsRow w.heap.size BoxT 5 (.slice (some ⟨w.heap.size + 1, 0, none⟩) 1 1) 1 [.slice none 0 0, .slice none 0 0, .int .i64 0, .int .i64 0, .int .i64 0] := by
  have := own5_made (w.alloc (.cells #[.slice pa pl pc, .slice qa ql qc, .int .i64 bw, .int .i64 bm, .int .i64 bl] BoxT)) (B := w.heap.size) (by simp) BoxT (.slice none 0 0) (.slice none 0 0) (.int .i64 0) (.int .i64 0) (.int .i64 0)
  rw [show (w.alloc (.cells #[.slice pa pl pc, .slice qa ql qc, .int .i64 bw, .int .i64 bm, .int .i64 bl] BoxT)).heap.size = w.heap.size + 1 by simp] at this
  rw [hW2]
  exact this
 have HA := hQ AW
 have HS2 := hQ S2
 have H1 := hQ R1
 have H2 := hQ R2
 have CLH : Hid (Calls Tryz.prog 37 #[.agg #[.slice pa pl pc, .slice qa ql qc, .int .i64 bw, .int .i64 bm, .int .i64 bl]] W2 fun e w2 => ∃ ya ma da yb mb db us2, e = .returned (.agg #[.slice ya ma da, .slice yb mb db, .int .i64 bw, .int .i64 bm, .int .i64 bl]) ∧ OwnB w2 W2.heap.size w2.heap.size (.slice ya ma da) (.slice yb mb db) us2 b ∧ Below W2.heap.size W2 w2) := by
  refine Calls.mono (clone_any b hv _ W2 (BRB.out W2 AW) hz) ?_
  rintro e w2 ⟨pv2, qv2, us2, rfl, ho, hb⟩
  obtain ⟨ya, ma, da, yb, mb, db, rfl, rfl⟩ := ho.forms
  exact ⟨ya, ma, da, yb, mb, db, us2, by rw [VB.out], ho, hb⟩
 have HV := hQ hv
 have PRT : Hid (∀ w4, Below w.heap.size w w4 → W2.heap.size ≤ w4.heap.size → ∀ pv qv us, OwnB w4 W2.heap.size w4.heap.size pv qv us x → Calls Tryz.prog 40 #[.agg #[.slice pa pl pc, .slice qa ql qc, .int .i64 bw, .int .i64 bm, .int .i64 bl], .agg #[pv, qv, .int .i64 bw, .int .i64 n, .int .i64 bl]] w4 fun e w5 => ∃ zc lc cc zd ld cd rw rm rl us2, e = .returned (.tuple #[.agg #[.slice zc lc cc, .slice zd ld cd, .int .i64 rw, .int .i64 rm, .int .i64 rl], .string (bs (tried b x).2)]) ∧ bookV (.slice zc lc cc) (.slice zd ld cd) (tried b x).1 = .agg #[.slice zc lc cc, .slice zd ld cd, .int .i64 rw, .int .i64 rm, .int .i64 rl] ∧ OwnB w5 W2.heap.size w5.heap.size (.slice zc lc cc) (.slice zd ld cd) us2 (tried b x).1 ∧ (∀ k, k < w.heap.size + 2 → w.heap.size ≤ k → True) ∧ Below w4.heap.size w4 w5) := fun w4 hb hs4 pv qv us ho => by
  have := printed_any b x hv SX.out (.agg #[.slice pa pl pc, .slice qa ql qc, .int .i64 bw, .int .i64 bm, .int .i64 bl]) w4 (BRB.out w4 hb) hz W2.heap.size hs4 pv qv us ho
  rw [VX.out] at this
  refine this.mono ?_
  rintro e w5 ⟨pv2, qv2, us2, rfl, ho2, hb2⟩
  obtain ⟨zc, lc, cc, zd, ld, cd, rfl, rfl⟩ := ho2.forms
  exact ⟨zc, lc, cc, zd, ld, cd, _, _, _, us2, rfl, rfl, ho2, fun _ _ _ => trivial, hb2⟩
 clear hok hp hq hbw hbm hbl hx AW S2 R1 R2 hz hv
 unfold BoxT at hW2
 unfold tMost
 go_enter Tryz.func42, Tryz.ntmps42
 go_upto_region 1 with fail
 rw [← hW2]
 obtain ⟨r0, r1, r2, r3, r4⟩ := own5 H1.out
 clear hW2
 go_upto_region 2 with (go_at_call 37; refine CLH.out.mono ?_; rintro e w3 ⟨ya, ma, da, yb, mb, db, us, rfl, ho3, hb3⟩)
 have s2 := HS2.out
 have s3 := hb3.size
 have B3 := hQ (below_next HA.out hb3 nR)
 have K1 := (owns_below H1.out hb3).alloc (.cells #[.slice ya ma da, .slice yb mb db, .int .i64 bw, .int .i64 bm, .int .i64 bl] BoxT)
 have K2 := (owns_below H2.out hb3).alloc (.cells #[.slice ya ma da, .slice yb mb db, .int .i64 bw, .int .i64 bm, .int .i64 bl] BoxT)
 have K3 := own5_made w3 (B := w.heap.size) B3.out.size BoxT (.slice ya ma da) (.slice yb mb db) (.int .i64 bw) (.int .i64 bm) (.int .i64 bl)
 have O4 := ho3.below ((Below.refl w3.heap.size w3).alloc nR (.cells #[.slice ya ma da, .slice yb mb db, .int .i64 bw, .int .i64 bm, .int .i64 bl] BoxT))
 have B4 := B3.out.alloc B3.out.size (.cells #[.slice ya ma da, .slice yb mb db, .int .i64 bw, .int .i64 bm, .int .i64 bl] BoxT)
 obtain ⟨ws, hws⟩ : ∃ ws, ws = w3.alloc (.cells #[.slice ya ma da, .slice yb mb db, .int .i64 bw, .int .i64 bm, .int .i64 bl] BoxT) := ⟨_, rfl⟩
 have Sws : ws.heap.size = w3.heap.size + 1 := by rw [hws]; simp
 rw [← hws] at K1 K2 K3 O4 B4
 unfold BoxT at hws
 rw [← hws]
 have T := K3.stored 3 (.int .i64 n)
 have K4 : (ws.setCell ⟨w3.heap.size, 3, none⟩ (.int .i64 n)).ownsRow w.heap.size BoxT 5 (.slice (some ⟨w3.heap.size, 0, none⟩) 1 1) 1 [.slice ya ma da, .slice yb mb db, .int .i64 bw, .int .i64 n, .int .i64 bl] := T.1
 have L1 := World.ownsRow.kept K1 T.2 (.inr (show some w.heap.size ≠ some w3.heap.size from fun e => by have := Option.some.inj e; omega))
 have L2 := World.ownsRow.kept K2 T.2 (.inr (show some (w.heap.size + 1) ≠ some w3.heap.size from fun e => by have := Option.some.inj e; omega))
 have O5 := O4.grown T.2 (.inr nR)
 have B5 := B4.grown T.2 B4.size (fun k hk => by cases hk; omega)
 have ts := T.2.size
 have O6 := hQ (OXX.out _ _ _ _ _ _ (O5.wider (by omega : w3.heap.size ≤ (ws.setCell ⟨w3.heap.size, 3, none⟩ (.int .i64 n)).heap.size)))
 obtain ⟨q0, q1, q2, q3, q4⟩ := own5 K3
 have m := World.ownsRow.frozenAt K3 3
 obtain ⟨c0, c1, c2, c3, c4⟩ := own5 K4
 obtain ⟨d0, d1, d2, d3, d4⟩ := own5 L1
 have PR := hQ (PRT.out _ B5 (by omega) _ _ _ O6.out)
 have HL2 := hQ L2
 have HB5 := hQ B5
 clear hws K1 K2 K3 K4 T L1 L2 O4 O5 B4 ts B5 hb3 ho3 s3 s2
 go_wp2_with (go_at_call 40; refine PR.out.mono ?_; rintro e w5 ⟨zc, lc, cc, zd, ld, cd, rw, rm, rl, us2, rfl, hbv, ho5, -, hb5⟩; have HBV := hQ hbv; have K5 := hQ (owns_below HL2.out hb5); obtain ⟨p0, p1, p2, p3, p4⟩ := own5 K5.out; obtain ⟨n0, n1, n2, n3, n4⟩ := fz5 K5.out; have FF := hQ (own5_set K5.out (.slice zc lc cc) (.slice zd ld cd) (.int .i64 rw) (.int .i64 rm) (.int .i64 rl)))
 obtain ⟨g0, g1, g2, g3, g4⟩ := own5 FF.out.1
 have s2 := HS2.out
 have fs := FF.out.2.size
 have FX := ((ho5.grown FF.out.2 (.inl (by omega))).mono (by omega : w.heap.size ≤ W2.heap.size)).wider fs
 have B6 := below_next HB5.out hb5 nR
 have FB := B6.grown FF.out.2 B6.size (fun k hk => by cases hk; omega)
 refine bodyPost_ret (v := .tuple #[.agg #[.slice zc lc cc, .slice zd ld cd, .int .i64 rw, .int .i64 rm, .int .i64 rl], .string (bs (tried b x).2)]) (by simp [results, Tryz.results42, go_sem, g0, g1, g2, g3, g4]) rfl ⟨.slice zc lc cc, .slice zd ld cd, us2, by rw [HBV.out], FX, FB⟩
set_option maxHeartbeats 16000000 in
theorem setL_any (b : DBook) (hv : bookB b = true) (v : Value) (w : World) (h : BookR w v b) (hz : BookN v) (n : Int) :
  Calls Tryz.prog 42 #[v, .string (bs tLines), .int .i64 n] w (LinePost w.heap.size (tried b { b with lines := n }) w) := by
 obtain ⟨p1, q1, rfl, hp, hq⟩ := h
 have hok := bookB_true hv
 obtain ⟨pa, pl, pc, rfl⟩ : ∃ a l c, p1 = .slice a l c := by obtain ⟨va, vc, e, _⟩ := ss_idx hp; exact ⟨_, _, _, e⟩
 obtain ⟨qa, ql, qc, rfl⟩ : ∃ a l c, q1 = .slice a l c := by obtain ⟨a, c, e, _⟩ := hq; exact ⟨_, _, _, e⟩
 obtain ⟨bw, hbw⟩ : ∃ y, y = b.w := ⟨_, rfl⟩
 obtain ⟨bm, hbm⟩ : ∃ y, y = b.most := ⟨_, rfl⟩
 obtain ⟨bl, hbl⟩ : ∃ y, y = b.lines := ⟨_, rfl⟩
 have VB : Hid (∀ y z, bookV y z b = .agg #[y, z, .int .i64 bw, .int .i64 bm, .int .i64 bl]) := fun y z => by rw [hbw, hbm, hbl]; rfl
 have VX : Hid (∀ y z, bookV y z { b with lines := n } = .agg #[y, z, .int .i64 bw, .int .i64 bm, .int .i64 n]) := fun y z => by unfold bookV; simp only [hbw, hbm, hbl]
 have BRB := hQ (fun w' (hb : Below w.heap.size w w') => BookR.below (b := b) ⟨_, _, rfl, hp, hq⟩ hb)
 have SX : Hid (BookSh { b with lines := n }) := ⟨(bookSh_ok hok).pars, (bookSh_ok hok).pats⟩
 have OXX : Hid (∀ w' B hi pv qv us, OwnB w' B hi pv qv us b → OwnB w' B hi pv qv us { b with lines := n }) := fun w' B hi pv qv us h => ⟨h.p, h.q, h.ap⟩
 obtain ⟨x, hx⟩ : ∃ x, x = { b with lines := n } := ⟨_, rfl⟩
 rw [← hx] at SX OXX VX ⊢
 rw [← hbw, ← hbm, ← hbl] at BRB hz ⊢
 have HZ := hQ hz
 obtain ⟨W2, hW2⟩ : ∃ W2, W2 = ((w.alloc (.cells #[.slice pa pl pc, .slice qa ql qc, .int .i64 bw, .int .i64 bm, .int .i64 bl] BoxT)).alloc (.cells #[.slice none 0 0, .slice none 0 0, .int .i64 0, .int .i64 0, .int .i64 0] BoxT)) := ⟨_, rfl⟩
 have AW : Below w.heap.size w W2 := by rw [hW2]; exact ((Below.refl _ _).alloc nR _).alloc (by simp) _
 have S2 : W2.heap.size = w.heap.size + 2 := by rw [hW2]; simp
 have R1 : W2.ownsRow w.heap.size BoxT 5 (.slice (some ⟨w.heap.size, 0, none⟩) 1 1) 1 [.slice pa pl pc, .slice qa ql qc, .int .i64 bw, .int .i64 bm, .int .i64 bl] := by rw [hW2]; exact (own5_made w nR _ _ _ _ _ _).alloc _
 have R2 : W2.ownsRow w.heap.size BoxT 5 (.slice (some ⟨w.heap.size + 1, 0, none⟩) 1 1) 1 [.slice none 0 0, .slice none 0 0, .int .i64 0, .int .i64 0, .int .i64 0] := by
  have := own5_made (w.alloc (.cells #[.slice pa pl pc, .slice qa ql qc, .int .i64 bw, .int .i64 bm, .int .i64 bl] BoxT)) (B := w.heap.size) (by simp) BoxT (.slice none 0 0) (.slice none 0 0) (.int .i64 0) (.int .i64 0) (.int .i64 0)
  rw [show (w.alloc (.cells #[.slice pa pl pc, .slice qa ql qc, .int .i64 bw, .int .i64 bm, .int .i64 bl] BoxT)).heap.size = w.heap.size + 1 by simp] at this
  rw [hW2]
  exact this
 have HA := hQ AW
 have HS2 := hQ S2
 have H1 := hQ R1
 have H2 := hQ R2
 have CLH : Hid (Calls Tryz.prog 37 #[.agg #[.slice pa pl pc, .slice qa ql qc, .int .i64 bw, .int .i64 bm, .int .i64 bl]] W2 fun e w2 => ∃ ya ma da yb mb db us2, e = .returned (.agg #[.slice ya ma da, .slice yb mb db, .int .i64 bw, .int .i64 bm, .int .i64 bl]) ∧ OwnB w2 W2.heap.size w2.heap.size (.slice ya ma da) (.slice yb mb db) us2 b ∧ Below W2.heap.size W2 w2) := by
  refine Calls.mono (clone_any b hv _ W2 (BRB.out W2 AW) hz) ?_
  rintro e w2 ⟨pv2, qv2, us2, rfl, ho, hb⟩
  obtain ⟨ya, ma, da, yb, mb, db, rfl, rfl⟩ := ho.forms
  exact ⟨ya, ma, da, yb, mb, db, us2, by rw [VB.out], ho, hb⟩
 have HV := hQ hv
 have PRT : Hid (∀ w4, Below w.heap.size w w4 → W2.heap.size ≤ w4.heap.size → ∀ pv qv us, OwnB w4 W2.heap.size w4.heap.size pv qv us x → Calls Tryz.prog 40 #[.agg #[.slice pa pl pc, .slice qa ql qc, .int .i64 bw, .int .i64 bm, .int .i64 bl], .agg #[pv, qv, .int .i64 bw, .int .i64 bm, .int .i64 n]] w4 fun e w5 => ∃ zc lc cc zd ld cd rw rm rl us2, e = .returned (.tuple #[.agg #[.slice zc lc cc, .slice zd ld cd, .int .i64 rw, .int .i64 rm, .int .i64 rl], .string (bs (tried b x).2)]) ∧ bookV (.slice zc lc cc) (.slice zd ld cd) (tried b x).1 = .agg #[.slice zc lc cc, .slice zd ld cd, .int .i64 rw, .int .i64 rm, .int .i64 rl] ∧ OwnB w5 W2.heap.size w5.heap.size (.slice zc lc cc) (.slice zd ld cd) us2 (tried b x).1 ∧ (∀ k, k < w.heap.size + 2 → w.heap.size ≤ k → True) ∧ Below w4.heap.size w4 w5) := fun w4 hb hs4 pv qv us ho => by
  have := printed_any b x hv SX.out (.agg #[.slice pa pl pc, .slice qa ql qc, .int .i64 bw, .int .i64 bm, .int .i64 bl]) w4 (BRB.out w4 hb) hz W2.heap.size hs4 pv qv us ho
  rw [VX.out] at this
  refine this.mono ?_
  rintro e w5 ⟨pv2, qv2, us2, rfl, ho2, hb2⟩
  obtain ⟨zc, lc, cc, zd, ld, cd, rfl, rfl⟩ := ho2.forms
  exact ⟨zc, lc, cc, zd, ld, cd, _, _, _, us2, rfl, rfl, ho2, fun _ _ _ => trivial, hb2⟩
 clear hok hp hq hbw hbm hbl hx AW S2 R1 R2 hz hv
 unfold BoxT at hW2
 unfold tLines
 go_enter Tryz.func42, Tryz.ntmps42
 go_upto_region 1 with fail
 rw [← hW2]
 obtain ⟨r0, r1, r2, r3, r4⟩ := own5 H1.out
 clear hW2
 go_upto_region 2 with (go_at_call 37; refine CLH.out.mono ?_; rintro e w3 ⟨ya, ma, da, yb, mb, db, us, rfl, ho3, hb3⟩)
 have s2 := HS2.out
 have s3 := hb3.size
 have B3 := hQ (below_next HA.out hb3 nR)
 have K1 := (owns_below H1.out hb3).alloc (.cells #[.slice ya ma da, .slice yb mb db, .int .i64 bw, .int .i64 bm, .int .i64 bl] BoxT)
 have K2 := (owns_below H2.out hb3).alloc (.cells #[.slice ya ma da, .slice yb mb db, .int .i64 bw, .int .i64 bm, .int .i64 bl] BoxT)
 have K3 := own5_made w3 (B := w.heap.size) B3.out.size BoxT (.slice ya ma da) (.slice yb mb db) (.int .i64 bw) (.int .i64 bm) (.int .i64 bl)
 have O4 := ho3.below ((Below.refl w3.heap.size w3).alloc nR (.cells #[.slice ya ma da, .slice yb mb db, .int .i64 bw, .int .i64 bm, .int .i64 bl] BoxT))
 have B4 := B3.out.alloc B3.out.size (.cells #[.slice ya ma da, .slice yb mb db, .int .i64 bw, .int .i64 bm, .int .i64 bl] BoxT)
 obtain ⟨ws, hws⟩ : ∃ ws, ws = w3.alloc (.cells #[.slice ya ma da, .slice yb mb db, .int .i64 bw, .int .i64 bm, .int .i64 bl] BoxT) := ⟨_, rfl⟩
 have Sws : ws.heap.size = w3.heap.size + 1 := by rw [hws]; simp
 rw [← hws] at K1 K2 K3 O4 B4
 unfold BoxT at hws
 rw [← hws]
 have T := K3.stored 4 (.int .i64 n)
 have K4 : (ws.setCell ⟨w3.heap.size, 4, none⟩ (.int .i64 n)).ownsRow w.heap.size BoxT 5 (.slice (some ⟨w3.heap.size, 0, none⟩) 1 1) 1 [.slice ya ma da, .slice yb mb db, .int .i64 bw, .int .i64 bm, .int .i64 n] := T.1
 have L1 := World.ownsRow.kept K1 T.2 (.inr (show some w.heap.size ≠ some w3.heap.size from fun e => by have := Option.some.inj e; omega))
 have L2 := World.ownsRow.kept K2 T.2 (.inr (show some (w.heap.size + 1) ≠ some w3.heap.size from fun e => by have := Option.some.inj e; omega))
 have O5 := O4.grown T.2 (.inr nR)
 have B5 := B4.grown T.2 B4.size (fun k hk => by cases hk; omega)
 have ts := T.2.size
 have O6 := hQ (OXX.out _ _ _ _ _ _ (O5.wider (by omega : w3.heap.size ≤ (ws.setCell ⟨w3.heap.size, 4, none⟩ (.int .i64 n)).heap.size)))
 obtain ⟨q0, q1, q2, q3, q4⟩ := own5 K3
 have m := World.ownsRow.frozenAt K3 4
 obtain ⟨c0, c1, c2, c3, c4⟩ := own5 K4
 obtain ⟨d0, d1, d2, d3, d4⟩ := own5 L1
 have PR := hQ (PRT.out _ B5 (by omega) _ _ _ O6.out)
 have HL2 := hQ L2
 have HB5 := hQ B5
 clear hws K1 K2 K3 K4 T L1 L2 O4 O5 B4 ts B5 hb3 ho3 s3 s2
 go_wp2_with (go_at_call 40; refine PR.out.mono ?_; rintro e w5 ⟨zc, lc, cc, zd, ld, cd, rw, rm, rl, us2, rfl, hbv, ho5, -, hb5⟩; have HBV := hQ hbv; have K5 := hQ (owns_below HL2.out hb5); obtain ⟨p0, p1, p2, p3, p4⟩ := own5 K5.out; obtain ⟨n0, n1, n2, n3, n4⟩ := fz5 K5.out; have FF := hQ (own5_set K5.out (.slice zc lc cc) (.slice zd ld cd) (.int .i64 rw) (.int .i64 rm) (.int .i64 rl)))
 obtain ⟨g0, g1, g2, g3, g4⟩ := own5 FF.out.1
 have s2 := HS2.out
 have fs := FF.out.2.size
 have FX := ((ho5.grown FF.out.2 (.inl (by omega))).mono (by omega : w.heap.size ≤ W2.heap.size)).wider fs
 have B6 := below_next HB5.out hb5 nR
 have FB := B6.grown FF.out.2 B6.size (fun k hk => by cases hk; omega)
 refine bodyPost_ret (v := .tuple #[.agg #[.slice zc lc cc, .slice zd ld cd, .int .i64 rw, .int .i64 rm, .int .i64 rl], .string (bs (tried b x).2)]) (by simp [results, Tryz.results42, go_sem, g0, g1, g2, g3, g4]) rfl ⟨.slice zc lc cc, .slice zd ld cd, us2, by rw [HBV.out], FX, FB⟩
end Go.Proofs.YtofnchdijanikaaGreatDoor

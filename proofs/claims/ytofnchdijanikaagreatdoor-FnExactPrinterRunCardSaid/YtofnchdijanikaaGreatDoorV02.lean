/-
  PROVED HERE: what the printer's lines need, part V02. Conditions: each theorem's own.
-/
import Derived.Test.YtofnchdijanikaaGreatDoorV01
import Derived.Test.YtofnchdijanikaaGreatDoorC16
set_option linter.unusedVariables false
set_option linter.unusedSimpArgs false
set_option maxRecDepth 100000
namespace Go.Proofs.YtofnchdijanikaaGreatDoor
open Go.RowKit
set_option maxHeartbeats 16000000 in
theorem ownBook_any (b : DBook) (hv : bookB b = true) (v : Value) (w : World) (h : BookR w v b) (hz : BookN v) : Calls Tryz.prog 59 #[v] w (CopyPost b w) := by
 have hok := bookB_true hv
 obtain ⟨pv, qv, rfl, hp, hq⟩ := h
 have NQ : NC qv := hz _ _ _ _ _ rfl
 obtain ⟨bw, hbw⟩ : ∃ x, x = b.w := ⟨_, rfl⟩
 obtain ⟨bm, hbm⟩ : ∃ x, x = b.most := ⟨_, rfl⟩
 obtain ⟨bl, hbl⟩ : ∃ x, x = b.lines := ⟨_, rfl⟩
 have VB : Hid (∀ x y, bookV x y b = .agg #[x, y, .int .i64 bw, .int .i64 bm, .int .i64 bl]) := fun x y => by rw [hbw, hbm, hbl]; rfl
 rw [← hbw, ← hbm, ← hbl]
 obtain ⟨pa, pl, pc, rfl⟩ : ∃ a l c, pv = .slice a l c := by obtain ⟨va, vc, e, _⟩ := ss_idx hp; exact ⟨_, _, _, e⟩
 obtain ⟨qa, ql, qc, rfl⟩ : ∃ a l c, qv = .slice a l c := by obtain ⟨a, c, e, _⟩ := hq; exact ⟨_, _, _, e⟩
 obtain ⟨W3, hW3⟩ : ∃ W3, W3 = ((w.alloc (.cells #[.slice pa pl pc, .slice qa ql qc, .int .i64 bw, .int .i64 bm, .int .i64 bl] BoxT)).alloc (.cells #[.slice none 0 0, .slice none 0 0, .int .i64 0, .int .i64 0, .int .i64 0] BoxT)).alloc (.cells #[.slice pa pl pc, .slice qa ql qc, .int .i64 bw, .int .i64 bm, .int .i64 bl] BoxT) := ⟨_, rfl⟩
 have A1 : Below w.heap.size w W3 := by rw [hW3]; exact (((Below.refl _ _).alloc nR _).alloc (by simp) _).alloc (by simp; omega) _
 have S3 : W3.heap.size = w.heap.size + 3 := by rw [hW3]; simp
 have R1 : W3.ownsRow w.heap.size BoxT 5 (.slice (some ⟨w.heap.size, 0, none⟩) 1 1) 1 [.slice pa pl pc, .slice qa ql qc, .int .i64 bw, .int .i64 bm, .int .i64 bl] := by rw [hW3]; exact ((own5_made w nR _ _ _ _ _ _).alloc _).alloc _
 have R2 : W3.ownsRow w.heap.size BoxT 5 (.slice (some ⟨w.heap.size + 1, 0, none⟩) 1 1) 1 [.slice none 0 0, .slice none 0 0, .int .i64 0, .int .i64 0, .int .i64 0] := by
  have := own5_made (w.alloc (.cells #[.slice pa pl pc, .slice qa ql qc, .int .i64 bw, .int .i64 bm, .int .i64 bl] BoxT)) (B := w.heap.size) (by simp) BoxT (.slice none 0 0) (.slice none 0 0) (.int .i64 0) (.int .i64 0) (.int .i64 0)
  rw [show (w.alloc (.cells #[.slice pa pl pc, .slice qa ql qc, .int .i64 bw, .int .i64 bm, .int .i64 bl] BoxT)).heap.size = w.heap.size + 1 by simp] at this
  rw [hW3]
  exact this.alloc _
 have R3 : W3.ownsRow w.heap.size BoxT 5 (.slice (some ⟨w.heap.size + 1 + 1, 0, none⟩) 1 1) 1 [.slice pa pl pc, .slice qa ql qc, .int .i64 bw, .int .i64 bm, .int .i64 bl] := by
  have := own5_made ((w.alloc (.cells #[.slice pa pl pc, .slice qa ql qc, .int .i64 bw, .int .i64 bm, .int .i64 bl] BoxT)).alloc (.cells #[.slice none 0 0, .slice none 0 0, .int .i64 0, .int .i64 0, .int .i64 0] BoxT)) (B := w.heap.size) (by simp; omega) BoxT (.slice pa pl pc) (.slice qa ql qc) (.int .i64 bw) (.int .i64 bm) (.int .i64 bl)
  rw [show ((w.alloc (.cells #[.slice pa pl pc, .slice qa ql qc, .int .i64 bw, .int .i64 bm, .int .i64 bl] BoxT)).alloc (.cells #[.slice none 0 0, .slice none 0 0, .int .i64 0, .int .i64 0, .int .i64 0] BoxT)).heap.size = w.heap.size + 1 + 1 by simp] at this
  rw [hW3]
  exact this
 have OR := hQ (ownRows_any b.pars hok.six (fun p hp => ⟨(parB_words (hok.pars p hp)).2.2, (parB_words (hok.pars p hp)).2.1⟩) (.slice pa pl pc) W3 (hp.below A1))
 have HA1 := hQ A1
 have HS3 := hQ S3
 have HR1 := hQ R1
 have HR2 := hQ R2
 have HR3 := hQ R3
 have HQ := hQ hq
 have HNQ := hQ NQ
 have YL : b.pats.length ≤ 4000000 := by have := (pats_all hok.pats).2; omega
 clear hp hq hbw hbm hbl A1 S3 R1 R2 R3 hok hv hz NQ
 unfold BoxT at hW3
 go_enter Tryz.func59, Tryz.ntmps59
 go_wp2_with fail
 rw [← hW3]
 refine OR.out.mono ?_
 rintro e w4 ⟨v4, us, rfl, hu4, hb4⟩
 obtain ⟨zP, cP, lP, rfl⟩ : ∃ z c l, v4 = .slice z l c := by obtain ⟨z, c, e⟩ := hu4.form; exact ⟨z, c, _, e⟩
 have s3 := HS3.out
 have s4 := hb4.size
 have P1 := owns_below HR1.out hb4
 have P2 := owns_below HR2.out hb4
 have P3 := owns_below HR3.out hb4
 obtain ⟨x0, x1, x2, x3, x4⟩ := own5 P3
 have y0 := World.ownsRow.frozenAt P3 0
 have T1 := P3.stored 0 (.slice zP lP cP)
 have Q3 : (w4.setCell ⟨w.heap.size + 1 + 1, 0, none⟩ (.slice zP lP cP)).ownsRow w.heap.size BoxT 5 (.slice (some ⟨w.heap.size + 1 + 1, 0, none⟩) 1 1) 1 [.slice zP lP cP, .slice qa ql qc, .int .i64 bw, .int .i64 bm, .int .i64 bl] := T1.1
 have Q1 := World.ownsRow.kept P1 T1.2 (.inr (show some w.heap.size ≠ some (w.heap.size + 1 + 1) from fun e => by have := Option.some.inj e; omega))
 have Q2 := World.ownsRow.kept P2 T1.2 (.inr (show some (w.heap.size + 1) ≠ some (w.heap.size + 1 + 1) from fun e => by have := Option.some.inj e; omega))
 have U1 := hu4.grown T1.2 (fun k hk => by cases hk; left; omega)
 have BB : Below w.heap.size w w4 := HA1.out.trans (hb4.mono (by omega))
 have B1 := BB.grown T1.2 BB.size (fun k hk => by cases hk; omega)
 obtain ⟨wa, hwa⟩ : ∃ wa, wa = w4.setCell ⟨w.heap.size + 1 + 1, 0, none⟩ (.slice zP lP cP) := ⟨_, rfl⟩
 have SW : wa.heap.size = w4.heap.size := by rw [hwa]; simp [World.setCell]
 rw [← hwa] at Q1 Q2 Q3 U1 B1 T1
 have AL : Below wa.heap.size wa (wa.alloc (.cells #[] 9)) := (Below.refl _ _).alloc nR _
 have N0 := OwnT.made wa (B := wa.heap.size) nR
 have QA := hQ Q1
 have QB := hQ Q2
 have QC := hQ Q3
 have UA := hQ U1
 have BA := hQ B1
 have q1 := keepc (own5 Q1).2.1 AL
 have BAL := hQ (below_next B1 AL nR)
 have HQA := hQ (HQ.out.below BAL.out)
 have HAL := hQ AL
 have PU := hQ (fun k (hk : (Value.slice zP lP cP).ownBlock = some k) => (show k < w4.heap.size from hu4.2.2.1 k hk))
 have PUS := hQ (fun u hu k hk => (hu4.us_lt u hu k hk).2)
 have HSW := hQ SW
 have HS4 := hQ s4
 clear s3 s4 P1 P2 P3 T1 Q1 Q2 Q3 U1 BB B1 AL hu4 hb4 SW hW3
 go_upto_region 3 with fail
 rw [← hwa]
 clear hwa x0 x1 x2 x3 x4 y0
 go_wp2_with (first | (at_builtin; refine append_strs wa (wa.alloc (.cells #[] 9)) rfl _ _ rfl wa.heap.size (.slice (some ⟨wa.heap.size, 0, none⟩) 0 0) [] b.pats (.slice qa ql qc) rfl rfl N0 HQA.out HNQ.out (by decide) YL nR HAL.out ?_; intro v8 w8 ho8 hb8 hm8 hg8; have D8 := hQ (fun k hk => (World.ownsRow.lt ho8 k hk).1); obtain ⟨zQ, cQ, lQ, rfl⟩ : ∃ z c l, v8 = .slice z l c := (by obtain ⟨z, c, e⟩ := own_form ho8; exact ⟨z, c, _, e⟩); have U8 := hQ (UA.out.below hb8); have B8 := hQ (below_next BA.out hb8 nR); have R8 := hQ (owns_below QC.out hb8); have RR8 := hQ (owns_below QB.out hb8); have T8 := hQ (R8.out.stored 1 (.slice zQ lQ cQ)); have q2 := (own5 R8.out).2.1; have y1 := World.ownsRow.frozenAt R8.out 1; have Q8 := hQ (show (w8.setCell ⟨w.heap.size + 1 + 1, 1, none⟩ (.slice zQ lQ cQ)).ownsRow w.heap.size BoxT 5 (.slice (some ⟨w.heap.size + 1 + 1, 0, none⟩) 1 1) 1 [.slice zP lP cP, .slice zQ lQ cQ, .int .i64 bw, .int .i64 bm, .int .i64 bl] from T8.out.1); obtain ⟨f0, f1, f2, f3, f4⟩ := own5 Q8.out; have QQ8 := hQ (World.ownsRow.kept RR8.out T8.out.2 (.inr (show some (w.heap.size + 1) ≠ some (w.heap.size + 1 + 1) from fun e => by have := Option.some.inj e; omega))); obtain ⟨e0, e1, e2, e3, e4⟩ := own5 QQ8.out; obtain ⟨m0, m1, m2, m3, m4⟩ := fz5 QQ8.out; have FF := hQ (own5_set QQ8.out (.slice zP lP cP) (.slice zQ lQ cQ) (.int .i64 bw) (.int .i64 bm) (.int .i64 bl))))
 obtain ⟨g0, g1, g2, g3, g4⟩ := own5 FF.out.1
 have s8 := hb8.size
 have sw := HSW.out
 have s3 := HS3.out
 have s4 := HS4.out
 have FU := ((U8.out.grown T8.out.2 (fun k hk => by cases hk; left; omega)).grown FF.out.2 (fun k hk => by cases hk; left; omega))
 have FQ := World.ownsRow.kept (World.ownsRow.kept ho8 T8.out.2 (by
  cases hh : (Value.slice zQ lQ cQ).ownBlock with
  | none => exact .inl rfl
  | some k => exact .inr fun e => by have := D8.out k hh; have := Option.some.inj e; omega)) FF.out.2 (by
  cases hh : (Value.slice zQ lQ cQ).ownBlock with
  | none => exact .inl rfl
  | some k => exact .inr fun e => by have := D8.out k hh; have := Option.some.inj e; omega)
 have fs1 := T8.out.2.size
 have fs2 := FF.out.2.size
 have FB := (B8.out.grown T8.out.2 B8.out.size (fun k hk => by cases hk; omega)).grown FF.out.2 (Nat.le_trans B8.out.size fs1) (fun k hk => by cases hk; omega)
 refine bodyPost_ret (v := .agg #[.slice zP lP cP, .slice zQ lQ cQ, .int .i64 bw, .int .i64 bm, .int .i64 bl]) (by simp [results, Tryz.results59, go_sem, g0, g1, g2, g3, g4]) rfl ⟨.slice zP lP cP, .slice zQ lQ cQ, us, by rw [VB.out], ⟨(FU.mono (by omega)).wider (by omega), World.ownsRow.mono FQ (by omega), fun k hk => ⟨by have := (World.ownsRow.lt FQ k hk).2; exact this, fun e => by have := PU.out k e; have := D8.out k hk; omega, fun u hu e => by have := PUS.out u hu k e; have := D8.out k hk; omega⟩⟩, FB⟩
end Go.Proofs.YtofnchdijanikaaGreatDoor
namespace Go.Proofs.YtofnchdijanikaaGreatDoor
open Go.RowKit
theorem bestP_nil (L : Nat) : bestP [] L = some [] := rfl
theorem implRows0_any (z : Option Addr) (c : Nat) (w : World) : Calls Tryz.prog 108 #[.slice z 0 c] w fun e w' => e = .returned (.bool true) ∧ w = w' := by
 go_enter Tryz.func108, Tryz.ntmps108
 go_wp2
 refine wp_loop_rounds 1 ?_
 rw [rounds_succ]
 go_wp2
 go_ret
 exact ⟨rfl, rfl⟩
theorem pageArgs0_any (z : Option Addr) (c L : Nat) (w : World) (hL : 1 ≤ L ∧ L ≤ 30) : Calls Tryz.prog 86 #[.slice z 0 c, .int .i64 L] w fun e w' => e = .returned (.bool true) ∧ w = w' := by
 have I1 : Hid (inB (L : Int) 1 1000 = true) := inB_yes (by omega) (by omega)
 go_enter Tryz.func86, Tryz.ntmps86
 go_wp2_with (first | (go_at_call 108; refine (implRows0_any _ _ _).mono ?_; rintro e w' ⟨rfl, rfl⟩) | (go_at_call 88; refine (isHeight_any _ _).mono ?_; rintro e w' ⟨rfl, rfl⟩; rw [I1.out]))
 go_ret
 exact ⟨rfl, rfl⟩
set_option maxHeartbeats 4000000 in
theorem implPages0_any (z : Option Addr) (c L : Nat) (w : World) (hL : 1 ≤ L ∧ L ≤ 30) : Calls Tryz.prog 65 #[.slice z 0 c, .int .i64 L] w (BestPPost [] L w) := by
 obtain ⟨i0, hi, hz0, hz1, hz2⟩ := info_parts info_int
 have I1 : Hid (inB (L : Int) 1 1000 = true) := inB_yes (by omega) (by omega)
 have OM := hQ (OwnI.made w (B := w.heap.size) nR)
 have AW := hQ ((Below.refl w.heap.size w).alloc nR (.cells #[] 3))
 go_enter Tryz.func65, Tryz.ntmps65
 go_wp2_with (first | (go_at_call 86; refine (pageArgs0_any _ _ _ _ hL).mono ?_; rintro e w' ⟨rfl, rfl⟩) | (at_make; refine wpList_make_full _ rfl _ _ 72 rfl w.heap.size 3 i0 (.int .i64 0) 1 Tryz.underlying72 hi hz0 hz1 .i64 .i64 _ _ 1 rfl rfl rfl rfl (by rw [hz2]; omega) (by unfold maxLen; omega) nR ?_; intro w3 hown3 hgrow3) | (at_make; refine wpList_make_full _ rfl _ _ 72 rfl w3.heap.size 3 i0 (.int .i64 0) 1 Tryz.underlying72 hi hz0 hz1 .i64 .i64 _ _ 1 rfl rfl rfl rfl (by rw [hz2]; omega) (by unfold maxLen; omega) nR ?_; intro w4 hown4 hgrow4))
 have c3 : w3.cell? ⟨w.heap.size, 0, none⟩ = some (.int .i64 0) := by
  have h : w3.ownsRow (w.heap.size) 3 1 (.slice (some ⟨w.heap.size, 0, none⟩) 1 1) 1 [.int .i64 0] := by
   have hh := hown3
   simp [madeCells] at hh
   exact hh
  exact h.cellAt 0 (by omega)
 have b3 : Below w.heap.size w w3 := below_of_grown hgrow3 nR
 have b4 : Below w3.heap.size w3 w4 := below_of_grown hgrow4 nR
 have c4 := keepc c3 b4
 have B4 := hQ (below_next (Below.refl w.heap.size w) (below_next b3 b4 nR) nR)
 clear hown3 hown4 hgrow3 hgrow4 b3 b4 c3
 refine wp_loop_rounds 1 ?_
 rw [rounds_succ]
 go_wp2
 refine wp_loop_rounds 1 ?_
 rw [rounds_succ]
 go_wp2
 go_ret2
 exact ⟨_, rfl, OwnI.nil _ _, B4.out⟩
theorem specRows0_any (z : Option Addr) (c : Nat) (w : World) : Calls Tryz.prog 81 #[.slice z 0 c] w fun e w' => e = .returned (.bool true) ∧ w = w' := by
 go_enter Tryz.func81, Tryz.ntmps81
 go_wp2
 refine wp_loop_rounds 1 ?_
 rw [rounds_succ]
 go_wp2
 go_ret
 exact ⟨rfl, rfl⟩
set_option maxHeartbeats 4000000 in
theorem specPages0_any (z : Option Addr) (c L : Nat) (w : World) (hL : 1 ≤ L ∧ L ≤ 30) : Calls Tryz.prog 61 #[.slice z 0 c, .int .i64 L] w (BestPPost [] L w) := by
 obtain ⟨i0, hi, hz0, hz1, hz2⟩ := info_parts info_int
 have I1 : Hid (inB (L : Int) 1 1000 = true) := inB_yes (by omega) (by omega)
 have OM := hQ (OwnI.made w (B := w.heap.size) nR)
 have AW := hQ ((Below.refl w.heap.size w).alloc nR (.cells #[] 3))
 go_enter Tryz.func61, Tryz.ntmps61
 go_wp2_with (first | (go_at_call 81; refine (specRows0_any _ _ _).mono ?_; rintro e w' ⟨rfl, rfl⟩) | (go_at_call 34; refine (l1In_any _ _ _ _).mono ?_; rintro e w' ⟨rfl, rfl⟩; rw [I1.out]) | (at_make; refine wpList_make_full _ rfl _ _ 72 rfl (w.alloc (.cells #[] 3)).heap.size 3 i0 (.int .i64 0) 1 Tryz.underlying72 hi hz0 hz1 .i64 .i64 _ _ 1 rfl rfl rfl rfl (by rw [hz2]; omega) (by unfold maxLen; omega) nR ?_; intro w3 hown3 hgrow3) | (at_make; refine wpList_make_full _ rfl _ _ 72 rfl w3.heap.size 3 i0 (.int .i64 0) 1 Tryz.underlying72 hi hz0 hz1 .i64 .i64 _ _ 1 rfl rfl rfl rfl (by rw [hz2]; omega) (by unfold maxLen; omega) nR ?_; intro w4 hown4 hgrow4))
 have c3 : w3.cell? ⟨w.heap.size + 1, 0, none⟩ = some (.int .i64 0) := by
  have h : w3.ownsRow (w.heap.size + 1) 3 1 (.slice (some ⟨w.heap.size + 1, 0, none⟩) 1 1) 1 [.int .i64 0] := by
   have hh := hown3
   simp [madeCells] at hh
   exact hh
  exact h.cellAt 0 (by omega)
 have b3 : Below (w.alloc (.cells #[] 3)).heap.size (w.alloc (.cells #[] 3)) w3 := below_of_grown hgrow3 nR
 have b4 : Below w3.heap.size w3 w4 := below_of_grown hgrow4 nR
 have c4 := keepc c3 b4
 have B4 := hQ (below_next (AW.out) (below_next b3 b4 nR) nR)
 have O4 := hQ (owns_below (owns_below OM.out b3) b4)
 clear hown3 hown4 hgrow3 hgrow4 b3 b4 c3
 refine wp_loop_rounds 1 ?_
 rw [rounds_succ]
 go_wp2
 refine wp_loop_rounds 1 ?_
 rw [rounds_succ]
 go_wp2
 go_ret2
 exact ⟨_, rfl, O4.out, B4.out⟩
end Go.Proofs.YtofnchdijanikaaGreatDoor
namespace Go.Proofs.YtofnchdijanikaaGreatDoor
open Go.RowKit
theorem info_Row : (Tryz.prog.info? 94).map (fun i => (i.zero, i.size, i.bytes)) = some (some (.agg #[.int .i64 0, .bool false, .int .i64 0, .int .i64 0]), 4, 32) := by kernel_rfl
def OwnR (w : World) (B : Nat) (v : Value) (ks : List Bool) : Prop := w.ownsRow B 94 4 v ks.length (ks.flatMap encR)
theorem OwnR.nil (w : World) (B : Nat) : OwnR w B (.slice none 0 0) [] := ⟨rfl, .inl ⟨rfl, rfl⟩⟩
theorem OwnR.made (w : World) {B : Nat} (hB : B ≤ w.heap.size) : OwnR (w.alloc (.cells #[] 94)) B (.slice (some ⟨w.heap.size, 0, none⟩) 0 0) [] := World.ownsRow_made w #[] 0 hB (Nat.zero_le _) rfl
theorem OwnR.below {w w' : World} {B : Nat} {v : Value} {ks : List Bool} (h : OwnR w B v ks) (hb : Below w.heap.size w w') : OwnR w' B v ks := owns_below h hb
theorem flat_encR (ks : List Bool) : (ks.flatMap encR).length = ks.length * 4 := flatMap_len encR 4 ks (fun x _ => encR_len x)
theorem append_row (w wr : World) {ops : Array Oper} {rest : List Oper} {o : Oper} {a : Act} {Q : Exit → Act → World → Prop} (hgd : o.guard = none) (s x : Operand)
  (ho : o.op = .call { callee := .builtin .append, args := #[s, x], argTypes := #[77, 77] }) (B : Nat) (v : Value) (ks : List Bool) (l : Bool)
  (hs : a.eval s = v) (hx : a.eval x = .slice (some ⟨wr.heap.size, 0, none⟩) 1 1) (hown : OwnR wr B v ks) (hn : ks.length ≤ 10000) (hB : B ≤ w.heap.size) (hb : Below B w wr)
  (h : ∀ v' w', OwnR w' B v' (ks ++ [l]) → Below B w w' → wpList Tryz.prog ops Q rest (a.put o.dst v') w') :
  wpList Tryz.prog ops Q (o :: rest) a (wr.alloc (.cells #[.int .i64 1, .bool l, .int .i64 0, .int .i64 0] 94)) := by
 obtain ⟨i0, hi, hz0, hz1, hz2⟩ := info_parts info_Row
 have hws := hb.size
 refine append_mine _ hgd s x 77 ho B 94 i0 (.agg #[.int .i64 0, .bool false, .int .i64 0, .int .i64 0]) 4 32 Tryz.underlying77 hi hz0 hz1 hz2 rfl (by decide) v ks.length _ hs (World.ownsRow.alloc hown _) ⟨wr.heap.size, 0, none⟩ 1 1 [.int .i64 1, .bool l, .int .i64 0, .int .i64 0] hx rfl (by simpa using cells_new wr [.int .i64 1, .bool l, .int .i64 0, .int .i64 0] _) (by intro u hu; simp at hu; rcases hu with rfl | rfl | rfl | rfl <;> rfl) (by unfold maxLen; omega) (by omega) (by simp; omega) ?_
 intro v' w' h1 h2 h3
 refine h v' w' ?_ ?_
 ·unfold OwnR
  rw [List.length_append, List.flatMap_append]
  exact h1
 ·exact below_append hb hB hown h2
theorem OwnR.rows {w : World} {B : Nat} {v : Value} {ks : List Bool} (h : OwnR w B v ks) (hp : 0 < ks.length) : ∃ b cap, v = .slice (some ⟨b, 0, none⟩) ks.length cap ∧ ks.length ≤ cap ∧ RwC w b 0 ks.length ks := by
 have hl := h.lt
 rcases h.2 with ⟨_, h2⟩ | ⟨g, cap, cur, rfl, hg, hb, hcap, _⟩
 ·omega
 ·refine ⟨g, cap, rfl, hcap, rfl, (hl g rfl).2, fun j hj => ?_⟩
  have e : ∀ i, i < 4 → w.cell? ⟨g, 0 + j * 4 + i, none⟩ = (encR (ks.getD j false))[i]? := fun i hi => by
   rw [h.cellAt (0 + j * 4 + i) (by omega)]
   have := flatMap_get encR 4 ks j i hj (fun x _ => encR_len x) hi
   rw [show 0 + j * 4 + i = j * 4 + i by omega, this]
   simp [List.getD, hj]
  exact ⟨e 0 (by omega), e 1 (by omega), e 2 (by omega), e 3 (by omega)⟩
def RowsPost (ks : List Bool) (w : World) (e : Ending) (w' : World) : Prop := ∃ v, e = .returned v ∧ OwnR w' w.heap.size v ks ∧ Below w.heap.size w w'
theorem keeps_take {cs : List Nat} {k : Nat} (hk : k < cs.length) : keeps (cs.take (k + 1)) = keeps (cs.take k) ++ keepN (cs.getD k 0) := by
 rw [List.take_succ_eq_append_getElem hk, keeps_snoc, getD_eq cs 0 k hk]
theorem keepN_take {n j : Nat} (h : j < n) : (keepN n).take (j + 1) = (keepN n).take j ++ [keep1 n j] := by
 rw [List.take_succ_eq_append_getElem (by rw [keepN_len]; exact h)]
 simp [keepN]
theorem ints_getN (cs : List Nat) (k : Nat) : (ints cs).getD k 0 = ((cs.getD k 0 : Nat) : Int) := by
 unfold ints
 by_cases h : k < cs.length
 ·simp [List.getD, h]
 ·simp [List.getD, Nat.le_of_not_lt h]
def sliceCap : Value → Nat | .slice _ _ c => c | _ => 0
theorem own_slice {w : World} {B : Nat} {v : Value} {ks : List Bool} (h : OwnR w B v ks) : ∃ z, v = .slice z ks.length (sliceCap v) := by
 rcases h.2 with ⟨rfl, h0⟩ | ⟨g, cap, cur, rfl, _⟩
 ·exact ⟨none, by rw [h0]; rfl⟩
 ·exact ⟨_, rfl⟩
set_option maxHeartbeats 16000000 in
theorem implPRows_any (v : Value) (cs : List Nat) (hcs : ∀ c ∈ cs, 1 ≤ c) (h30 : sumN cs ≤ 30) (w : World) (h : IRow w v (ints cs)) :
  Calls Tryz.prog 66 #[v, .int .i64 1] w (RowsPost (keeps cs) w) := by
 have I0 : Hid (inB 1 1 1000 = true) := inB_yes (by omega) (by omega)
 obtain ⟨va, vc, rfl⟩ : ∃ va vc, v = .slice va (ints cs).length vc := by obtain ⟨a, c, e, _⟩ := h; exact ⟨a, c, e⟩
 have hidx : ∀ j, j < cs.length → ∃ b off, va = some ⟨b, off, none⟩ ∧ b < w.heap.size ∧ w.cell? ⟨b, off + j, none⟩ = some (.int .i64 ((cs.getD j 0 : Nat) : Int)) := by
  obtain ⟨a, c, e, _, hc⟩ := h
  injection e with e1
  subst e1
  intro j hj
  obtain ⟨b, off, e1, e2⟩ := hc j (by simpa [ints] using hj)
  rw [ints_getN] at e2
  exact ⟨b, off, e1, World.block_lt_of_cell? w _ e2, e2⟩
 rw [show (ints cs).length = cs.length by simp [ints]]
 have ZLE := hQ (fun k => (show (keeps (cs.take k)).length ≤ 30 by rw [keeps_len]; have := sumN_take_le cs k; omega))
 have CLE := hQ (fun k (hk : k < cs.length) => (show 1 ≤ cs.getD k 0 ∧ (keeps (cs.take k)).length + cs.getD k 0 ≤ 30 by
  have h1 := hcs _ (List.getElem_mem hk)
  rw [← getD_eq cs 0 k hk] at h1
  have h2 := congrArg List.length (keeps_take hk)
  rw [List.length_append, keepN_len, keeps_len, keeps_len] at h2
  have h3 := sumN_take_le cs (k + 1)
  rw [keeps_len]
  omega))
 have KTK := hQ (fun k (hk : k < cs.length) => keeps_take hk)
 have KALL := hQ (show cs.take cs.length = cs from List.take_length)
 obtain ⟨n, hn⟩ : ∃ n, n = cs.length := ⟨_, rfl⟩
 rw [← hn] at KALL hidx CLE KTK ⊢
 have n30 : n ≤ 30 := by
  have key : ∀ l : List Nat, (∀ c ∈ l, 1 ≤ c) → l.length ≤ sumN l := by
   intro l
   induction l with
   | nil => intro _; exact nR
   | cons a t ih => intro h; rw [sumN, List.length_cons]; have := h a (by simp); have := ih (fun c hc => h c (List.mem_cons_of_mem _ hc)); omega
  have := key cs hcs
  omega
 have HI := hQ hidx
 have OW0 := hQ (OwnR.nil w w.heap.size)
 have BW0 := hQ (Below.refl w.heap.size w)
 clear hcs h30 h hidx hn
 go_enter Tryz.func66, Tryz.ntmps66
 go_wp2_with (go_at_call 88; refine (isHeight_any _ _).mono ?_; rintro e w' ⟨rfl, rfl⟩; rw [I0.out])
 go_loopw [5, 14] (fun v i wr => ∃ k : Nat, k ≤ n ∧ i = .int .i64 k ∧ Hid (OwnR wr w.heap.size v (keeps (cs.take k))) ∧ Hid (Below w.heap.size w wr)) (fun _ i _ => n - (intOf i).toNat)
 case atStart => exact ⟨0, Nat.zero_le _, rfl, OW0.out, BW0.out⟩
 case round =>
  obtain ⟨k, hk, rfl, ho, hb⟩ := hrel
  clear OW0 BW0
  by_cases hlt : k < n
  ·obtain ⟨b, off, rfl, hbl, hck⟩ := HI.out k hlt
   have hlt' : (k : Int) < (n : Int) := by omega
   obtain ⟨cl1, cl2⟩ := CLE.out k hlt
   have KK := hQ (KTK.out k hlt)
   obtain ⟨c, hc⟩ : ∃ c, c = cs.getD k 0 := ⟨_, rfl⟩
   rw [← hc] at hck cl1 cl2 KK
   have HCK := hQ hck
   have HBL := hQ hbl
   have ZL := hQ cl2
   have KN : Hid ((keepN c).take c = keepN c) := by show _ = _; rw [List.take_of_length_le (by rw [keepN_len]; exact nR)]
   have hsl : ∃ z, u5 = .slice z (keeps (cs.take k)).length (sliceCap u5) := own_slice ho.out
   obtain ⟨Z, hZ⟩ : ∃ Z, Z = keeps (cs.take k) := ⟨_, rfl⟩
   have HZ := hQ hZ
   rw [← hZ] at ho cl2 hsl
   obtain ⟨z, hz⟩ := hsl
   obtain ⟨zc, hzc⟩ : ∃ zc, zc = sliceCap u5 := ⟨_, rfl⟩
   rw [← hzc] at hz
   have I1 : Hid (inB (c : Int) 1 (30 - (Z.length : Int)) = true) := inB_yes (by omega) (by omega)
   have sm : ¬ (30 : Int) < (Z.length : Int) + (c : Int) := by omega
   have c0 := (hb.out.cell (p := ⟨b, off + k, none⟩) hbl).trans hck
   have HOZ : Hid (OwnR wr w.heap.size u5 (keeps (cs.take k) ++ (keepN c).take 0)) := by show OwnR _ _ _ _; rw [List.take_zero, List.append_nil, ← HZ.out]; exact ho.out
   subst hz
   clear hc hck hbl hZ hzc cl2 ho
   go_wp2_with (go_at_call 57; refine (in_any _ _ _ _).mono ?_; rintro e w' ⟨rfl, rfl⟩; rw [I1.out])
   go_loopw [5, 25] (fun v i wr => ∃ j : Nat, j ≤ c ∧ i = .int .i64 j ∧ Hid (OwnR wr w.heap.size v (keeps (cs.take k) ++ (keepN c).take j)) ∧ Hid (Below w.heap.size w wr)) (fun _ i _ => c - (intOf i).toNat)
   case atStart => exact ⟨0, Nat.zero_le _, rfl, HOZ.out, hb.out⟩
   case round =>
    obtain ⟨j, hj, rfl, ho, hb⟩ := hrel
    clear HOZ
    by_cases hjl : j < c
    ·skip
     have KT := hQ (keepN_take hjl)
     have YL : (keeps (cs.take k) ++ (keepN c).take j).length ≤ 10000 := by rw [List.length_append, List.length_take, keepN_len]; have := ZL.out; omega
     obtain ⟨Y, hY⟩ : ∃ Y, Y = keeps (cs.take k) ++ (keepN c).take j := ⟨_, rfl⟩
     have HY := hQ hY.symm
     rw [← hY] at ho YL
     clear hY
     have hjl' : (j : Int) < (c : Int) := by omega
     by_cases hj0 : j = 0
     ·have hj0' : ((j : Int) == 0) = true := by rw [beq_iff_eq]; omega
      by_cases h2 : 2 ≤ c
      ·have h2' : (2 : Int) ≤ (c : Int) := by omega
       have KB : Hid (keep1 c j = true) := by show _ = _; unfold keep1; simp <;> omega
       have SX : Hid (Y ++ [true] = keeps (cs.take k) ++ (keepN c).take (j + 1)) := by show _ = _; rw [KT.out, ← List.append_assoc, HY.out, KB.out]
       go_wp2_with (at_builtin; refine append_row w wr rfl _ _ rfl w.heap.size u5 Y true rfl rfl ho.out YL nR hb.out ?_; intro v' w5 hown' hbel)
       first
        | exact ⟨⟨j + 1, by omega, by go_num, by rw [← SX.out]; exact hown', hbel⟩, by (simp [intOf]) <;> omega⟩
        | (go_roundw
           case rel => exact ⟨j + 1, by omega, by go_num, by rw [← SX.out]; exact hown', hbel⟩
           case measure => (simp [intOf]) <;> omega)
      ·have h2' : ¬ (2 : Int) ≤ (c : Int) := by omega
       have e2 : ((j : Int) == (c : Int) - 2) = false := by rw [beq_eq_false_iff_ne]; omega
       have KB : Hid (keep1 c j = false) := by show _ = _; unfold keep1; simp <;> omega
       have SX : Hid (Y ++ [false] = keeps (cs.take k) ++ (keepN c).take (j + 1)) := by show _ = _; rw [KT.out, ← List.append_assoc, HY.out, KB.out]
       go_wp2_with (at_builtin; refine append_row w wr rfl _ _ rfl w.heap.size u5 Y false rfl rfl ho.out YL nR hb.out ?_; intro v' w5 hown' hbel)
       first
        | exact ⟨⟨j + 1, by omega, by go_num, by rw [← SX.out]; exact hown', hbel⟩, by (simp [intOf]) <;> omega⟩
        | (go_roundw
           case rel => exact ⟨j + 1, by omega, by go_num, by rw [← SX.out]; exact hown', hbel⟩
           case measure => (simp [intOf]) <;> omega)
     ·have hj0' : ((j : Int) == 0) = false := by rw [beq_eq_false_iff_ne]; omega
      by_cases h2 : j + 2 = c
      ·have e2 : ((j : Int) == (c : Int) - 2) = true := by rw [beq_iff_eq]; omega
       have h3' : (3 : Int) ≤ (c : Int) := by omega
       have h2h := hQ h2
       clear h2
       have KB : Hid (keep1 c j = true) := by show _ = _; unfold keep1; have := h2h.out; simp; omega
       have SX : Hid (Y ++ [true] = keeps (cs.take k) ++ (keepN c).take (j + 1)) := by show _ = _; rw [KT.out, ← List.append_assoc, HY.out, KB.out]
       go_wp2_with (at_builtin; refine append_row w wr rfl _ _ rfl w.heap.size u5 Y true rfl rfl ho.out YL nR hb.out ?_; intro v' w5 hown' hbel)
       first
        | exact ⟨⟨j + 1, by omega, by go_num, by rw [← SX.out]; exact hown', hbel⟩, by (simp [intOf]) <;> omega⟩
        | (go_roundw
           case rel => exact ⟨j + 1, by omega, by go_num, by rw [← SX.out]; exact hown', hbel⟩
           case measure => (simp [intOf]) <;> omega)
      ·have e2 : ((j : Int) == (c : Int) - 2) = false := by rw [beq_eq_false_iff_ne]; omega
       have KB : Hid (keep1 c j = false) := by show _ = _; unfold keep1; simp <;> omega
       have SX : Hid (Y ++ [false] = keeps (cs.take k) ++ (keepN c).take (j + 1)) := by show _ = _; rw [KT.out, ← List.append_assoc, HY.out, KB.out]
       go_wp2_with (at_builtin; refine append_row w wr rfl _ _ rfl w.heap.size u5 Y false rfl rfl ho.out YL nR hb.out ?_; intro v' w5 hown' hbel)
       first
        | exact ⟨⟨j + 1, by omega, by go_num, by rw [← SX.out]; exact hown', hbel⟩, by (simp [intOf]) <;> omega⟩
        | (go_roundw
           case rel => exact ⟨j + 1, by omega, by go_num, by rw [← SX.out]; exact hown', hbel⟩
           case measure => (simp [intOf]) <;> omega)
    ·obtain rfl : j = c := by omega
     have hjj : ¬ (j : Int) < (j : Int) := by omega
     have HO2 : Hid (OwnR wr w.heap.size u5 (keeps (cs.take (k + 1)))) := by
      show OwnR _ _ _ _
      rw [KK.out]
      have := ho.out
      rw [KN.out] at this
      exact this
     go_wp2_with fail
     first
      | exact ⟨⟨k + 1, by omega, by go_num, HO2.out, hb.out⟩, by (simp [intOf]) <;> omega⟩
      | (go_roundw
         case rel => exact ⟨k + 1, by omega, by go_num, HO2.out, hb.out⟩
         case measure => (simp [intOf]) <;> omega)
  ·obtain rfl : k = n := by omega
   have ho2 := ho.out
   rw [KALL.out] at ho2
   have HO2 := hQ ho2
   clear ho2
   go_wp2_with fail
   go_ret
   exact ⟨_, rfl, HO2.out, hb.out⟩
set_option maxHeartbeats 16000000 in
theorem specPRows_any (v : Value) (cs : List Nat) (hcs : ∀ c ∈ cs, 1 ≤ c) (h30 : sumN cs ≤ 30) (w : World) (h : IRow w v (ints cs)) :
  Calls Tryz.prog 62 #[v, .int .i64 1] w (RowsPost (keeps cs) w) := by
 have I0 : Hid (inB 1 1 1000 = true) := inB_yes (by omega) (by omega)
 obtain ⟨va, vc, rfl⟩ : ∃ va vc, v = .slice va (ints cs).length vc := by obtain ⟨a, c, e, _⟩ := h; exact ⟨a, c, e⟩
 have hidx : ∀ j, j < cs.length → ∃ b off, va = some ⟨b, off, none⟩ ∧ b < w.heap.size ∧ w.cell? ⟨b, off + j, none⟩ = some (.int .i64 ((cs.getD j 0 : Nat) : Int)) := by
  obtain ⟨a, c, e, _, hc⟩ := h
  injection e with e1
  subst e1
  intro j hj
  obtain ⟨b, off, e1, e2⟩ := hc j (by simpa [ints] using hj)
  rw [ints_getN] at e2
  exact ⟨b, off, e1, World.block_lt_of_cell? w _ e2, e2⟩
 rw [show (ints cs).length = cs.length by simp [ints]]
 have ZLE := hQ (fun k => (show (keeps (cs.take k)).length ≤ 30 by rw [keeps_len]; have := sumN_take_le cs k; omega))
 have CLE := hQ (fun k (hk : k < cs.length) => (show 1 ≤ cs.getD k 0 ∧ (keeps (cs.take k)).length + cs.getD k 0 ≤ 30 by
  have h1 := hcs _ (List.getElem_mem hk)
  rw [← getD_eq cs 0 k hk] at h1
  have h2 := congrArg List.length (keeps_take hk)
  rw [List.length_append, keepN_len, keeps_len, keeps_len] at h2
  have h3 := sumN_take_le cs (k + 1)
  rw [keeps_len]
  omega))
 have KTK := hQ (fun k (hk : k < cs.length) => keeps_take hk)
 have KALL := hQ (show cs.take cs.length = cs from List.take_length)
 obtain ⟨n, hn⟩ : ∃ n, n = cs.length := ⟨_, rfl⟩
 rw [← hn] at KALL hidx CLE KTK ⊢
 have n30 : n ≤ 30 := by
  have key : ∀ l : List Nat, (∀ c ∈ l, 1 ≤ c) → l.length ≤ sumN l := by
   intro l
   induction l with
   | nil => intro _; exact nR
   | cons a t ih => intro h; rw [sumN, List.length_cons]; have := h a (by simp); have := ih (fun c hc => h c (List.mem_cons_of_mem _ hc)); omega
  have := key cs hcs
  omega
 have HI := hQ hidx
 have OW0 := hQ (OwnR.made w (B := w.heap.size) nR)
 have BW0 := hQ ((Below.refl w.heap.size w).alloc nR (.cells #[] 94))
 clear hcs h30 h hidx hn
 go_enter Tryz.func62, Tryz.ntmps62
 go_wp2_with fail
 go_loopw [5, 6] (fun v i wr => ∃ k : Nat, k ≤ n ∧ i = .int .i64 k ∧ Hid (OwnR wr w.heap.size v (keeps (cs.take k))) ∧ Hid (Below w.heap.size w wr)) (fun _ i _ => n - (intOf i).toNat)
 case atStart => exact ⟨0, Nat.zero_le _, rfl, OW0.out, BW0.out⟩
 case round =>
  obtain ⟨k, hk, rfl, ho, hb⟩ := hrel
  clear OW0 BW0
  by_cases hlt : k < n
  ·obtain ⟨b, off, rfl, hbl, hck⟩ := HI.out k hlt
   have hlt' : (k : Int) < (n : Int) := by omega
   obtain ⟨cl1, cl2⟩ := CLE.out k hlt
   have KK := hQ (KTK.out k hlt)
   obtain ⟨c, hc⟩ : ∃ c, c = cs.getD k 0 := ⟨_, rfl⟩
   rw [← hc] at hck cl1 cl2 KK
   have HCK := hQ hck
   have HBL := hQ hbl
   have ZL := hQ cl2
   have KN : Hid ((keepN c).take c = keepN c) := by show _ = _; rw [List.take_of_length_le (by rw [keepN_len]; exact nR)]
   have hsl : ∃ z, u5 = .slice z (keeps (cs.take k)).length (sliceCap u5) := own_slice ho.out
   obtain ⟨Z, hZ⟩ : ∃ Z, Z = keeps (cs.take k) := ⟨_, rfl⟩
   have HZ := hQ hZ
   rw [← hZ] at ho cl2 hsl
   obtain ⟨z, hz⟩ := hsl
   obtain ⟨zc, hzc⟩ : ∃ zc, zc = sliceCap u5 := ⟨_, rfl⟩
   rw [← hzc] at hz
   have I1 : Hid (inB (c : Int) 1 30 = true) := inB_yes (by omega) (by omega)
   have sm : ¬ (30 : Int) < (Z.length : Int) + (c : Int) := by omega
   have c0 := (hb.out.cell (p := ⟨b, off + k, none⟩) hbl).trans hck
   have HOZ : Hid (OwnR wr w.heap.size u5 (keeps (cs.take k) ++ (keepN c).take 0)) := by show OwnR _ _ _ _; rw [List.take_zero, List.append_nil, ← HZ.out]; exact ho.out
   subst hz
   clear hc hck hbl hZ hzc cl2 ho
   go_wp2_with (go_at_call 34; refine (l1In_any _ _ _ _).mono ?_; rintro e w' ⟨rfl, rfl⟩; rw [I1.out])
   go_loopw [5, 7] (fun v i wr => ∃ j : Nat, j ≤ c ∧ i = .int .i64 j ∧ Hid (OwnR wr w.heap.size v (keeps (cs.take k) ++ (keepN c).take j)) ∧ Hid (Below w.heap.size w wr)) (fun _ i _ => c - (intOf i).toNat)
   case atStart => exact ⟨0, Nat.zero_le _, rfl, HOZ.out, hb.out⟩
   case round =>
    obtain ⟨j, hj, rfl, ho, hb⟩ := hrel
    clear HOZ
    by_cases hjl : j < c
    ·skip
     have KT := hQ (keepN_take hjl)
     have YL : (keeps (cs.take k) ++ (keepN c).take j).length ≤ 10000 := by rw [List.length_append, List.length_take, keepN_len]; have := ZL.out; omega
     obtain ⟨Y, hY⟩ : ∃ Y, Y = keeps (cs.take k) ++ (keepN c).take j := ⟨_, rfl⟩
     have HY := hQ hY.symm
     rw [← hY] at ho YL
     clear hY
     have hjl' : (j : Int) < (c : Int) := by omega
     have c1 := (hb.out.cell (p := ⟨b, off + k, none⟩) HBL.out).trans HCK.out
     by_cases hj0 : j = 0
     ·have hj0' : ((j : Int) == 0) = true := by rw [beq_iff_eq]; omega
      by_cases h2 : 2 ≤ c
      ·have h2' : (1 : Int) < (c : Int) := by omega
       have KB : Hid (keep1 c j = true) := by show _ = _; unfold keep1; simp <;> omega
       have SX : Hid (Y ++ [true] = keeps (cs.take k) ++ (keepN c).take (j + 1)) := by show _ = _; rw [KT.out, ← List.append_assoc, HY.out, KB.out]
       go_wp2_with (at_builtin; refine append_row w wr rfl _ _ rfl w.heap.size u5 Y true rfl rfl ho.out YL nR hb.out ?_; intro v' w5 hown' hbel)
       first
        | exact ⟨⟨j + 1, by omega, by go_num, by rw [← SX.out]; exact hown', hbel⟩, by (simp [intOf]) <;> omega⟩
        | (go_roundw
           case rel => exact ⟨j + 1, by omega, by go_num, by rw [← SX.out]; exact hown', hbel⟩
           case measure => (simp [intOf]) <;> omega)
      ·have h2' : ¬ (1 : Int) < (c : Int) := by omega
       have e2 : ((j : Int) == (c : Int) - 2) = false := by rw [beq_eq_false_iff_ne]; omega
       have KB : Hid (keep1 c j = false) := by show _ = _; unfold keep1; simp <;> omega
       have SX : Hid (Y ++ [false] = keeps (cs.take k) ++ (keepN c).take (j + 1)) := by show _ = _; rw [KT.out, ← List.append_assoc, HY.out, KB.out]
       go_wp2_with (at_builtin; refine append_row w wr rfl _ _ rfl w.heap.size u5 Y false rfl rfl ho.out YL nR hb.out ?_; intro v' w5 hown' hbel)
       first
        | exact ⟨⟨j + 1, by omega, by go_num, by rw [← SX.out]; exact hown', hbel⟩, by (simp [intOf]) <;> omega⟩
        | (go_roundw
           case rel => exact ⟨j + 1, by omega, by go_num, by rw [← SX.out]; exact hown', hbel⟩
           case measure => (simp [intOf]) <;> omega)
     ·have hj0' : ((j : Int) == 0) = false := by rw [beq_eq_false_iff_ne]; omega
      by_cases h2 : j + 2 = c
      ·have e2 : ((j : Int) == (c : Int) - 2) = true := by rw [beq_iff_eq]; omega
       have h3' : (2 : Int) < (c : Int) := by omega
       have h2h := hQ h2
       clear h2
       have KB : Hid (keep1 c j = true) := by show _ = _; unfold keep1; have := h2h.out; simp; omega
       have SX : Hid (Y ++ [true] = keeps (cs.take k) ++ (keepN c).take (j + 1)) := by show _ = _; rw [KT.out, ← List.append_assoc, HY.out, KB.out]
       go_wp2_with (at_builtin; refine append_row w wr rfl _ _ rfl w.heap.size u5 Y true rfl rfl ho.out YL nR hb.out ?_; intro v' w5 hown' hbel)
       first
        | exact ⟨⟨j + 1, by omega, by go_num, by rw [← SX.out]; exact hown', hbel⟩, by (simp [intOf]) <;> omega⟩
        | (go_roundw
           case rel => exact ⟨j + 1, by omega, by go_num, by rw [← SX.out]; exact hown', hbel⟩
           case measure => (simp [intOf]) <;> omega)
      ·have e2 : ((j : Int) == (c : Int) - 2) = false := by rw [beq_eq_false_iff_ne]; omega
       have KB : Hid (keep1 c j = false) := by show _ = _; unfold keep1; simp <;> omega
       have SX : Hid (Y ++ [false] = keeps (cs.take k) ++ (keepN c).take (j + 1)) := by show _ = _; rw [KT.out, ← List.append_assoc, HY.out, KB.out]
       go_wp2_with (at_builtin; refine append_row w wr rfl _ _ rfl w.heap.size u5 Y false rfl rfl ho.out YL nR hb.out ?_; intro v' w5 hown' hbel)
       first
        | exact ⟨⟨j + 1, by omega, by go_num, by rw [← SX.out]; exact hown', hbel⟩, by (simp [intOf]) <;> omega⟩
        | (go_roundw
           case rel => exact ⟨j + 1, by omega, by go_num, by rw [← SX.out]; exact hown', hbel⟩
           case measure => (simp [intOf]) <;> omega)
    ·obtain rfl : j = c := by omega
     have hjj : ¬ (j : Int) < (j : Int) := by omega
     have c1 := (hb.out.cell (p := ⟨b, off + k, none⟩) HBL.out).trans HCK.out
     have HO2 : Hid (OwnR wr w.heap.size u5 (keeps (cs.take (k + 1)))) := by
      show OwnR _ _ _ _
      rw [KK.out]
      have := ho.out
      rw [KN.out] at this
      exact this
     go_wp2_with fail
     first
      | exact ⟨⟨k + 1, by omega, by go_num, HO2.out, hb.out⟩, by (simp [intOf]) <;> omega⟩
      | (go_roundw
         case rel => exact ⟨k + 1, by omega, by go_num, HO2.out, hb.out⟩
         case measure => (simp [intOf]) <;> omega)
  ·obtain rfl : k = n := by omega
   have ho2 := ho.out
   rw [KALL.out] at ho2
   have HO2 := hQ ho2
   clear ho2
   go_wp2_with (go_at_call 34; refine (l1In_any _ _ _ _).mono ?_; rintro e w' ⟨rfl, rfl⟩; rw [I0.out])
   go_ret
   exact ⟨_, rfl, HO2.out, hb.out⟩
end Go.Proofs.YtofnchdijanikaaGreatDoor
namespace Go.Proofs.YtofnchdijanikaaGreatDoor
open Go.RowKit
theorem cutP_take (l : List (List UInt8)) : ∀ (t : List Nat) (a k : Nat), k < t.length → cutP l a (t.take (k + 1)) = cutP l a (t.take k) ++ [(l.drop ((a :: t).getD k 0)).take (t.getD k 0 - (a :: t).getD k 0)]
 | [], _, _, h => by cases h
 | u :: t, a, 0, _ => by simp [cutP]
 | u :: t, a, k + 1, h => by
  have ih := cutP_take l t u k (by simpa using h)
  rw [List.take_succ_cons, cutP, ih, List.take_succ_cons, cutP]
  rfl
theorem ends_at {n : Nat} : ∀ (t : List Nat) (a k : Nat), Ends n a t → k < t.length → (a :: t).getD k 0 < t.getD k 0 ∧ t.getD k 0 ≤ n
 | [], _, _, _, h => by cases h
 | u :: t, a, 0, h, _ => ⟨h.1, h.2.1⟩
 | u :: t, a, k + 1, h, hk => ends_at t u k h.2.2 (by simpa using hk)
theorem bestP_ends {ks : List Bool} {L : Nat} {t : List Nat} (h : bestP ks L = some t) : Ends ks.length 0 t ∧ t.length ≤ ks.length := by
 unfold bestP at h
 cases hb : pgB ks L 0 with
 | none => rw [hb] at h; cases h
 | some p =>
  obtain ⟨m, u⟩ := p
  rw [hb] at h
  simp only [Option.map_some, Option.some.injEq] at h
  subst h
  have := pgP_ends (ks := ks) (L := L) (ks.length - 0) 0 nR (Nat.zero_le _) ⟨m, u, hb⟩
  exact ⟨this.1, by omega⟩
theorem txt_part {w : World} {b off n c : Nat} {T : List (List UInt8)} (h : TxtS w (.slice (some ⟨b, off, none⟩) n c) T) (a u c' : Nat) (ha : a ≤ u) (hu : u ≤ T.length) : TxtS w (.slice (some ⟨b, off + a, none⟩) (u - a) c') ((T.drop a).take (u - a)) := by
 obtain ⟨x, cap, e, hl, hc⟩ := h
 have hlen : ((T.drop a).take (u - a)).length = u - a := by rw [List.length_take, List.length_drop]; omega
 refine ⟨some ⟨b, off + a, none⟩, c', by rw [hlen], by omega, fun j hj => ⟨b, off + a, rfl, fun i z hz => ?_⟩⟩
 have hj2 : j < u - a := by rw [hlen] at hj; exact hj
 obtain ⟨b', o', e1, h1⟩ := hc (a + j) (by omega)
 injection e with e2
 rw [e1] at e2
 injection e2 with e3
 injection e3 with e4 e5
 have := h1 i z (by rw [← hz]; congr 2; simp)
 subst e4 e5
 rw [show off + (a + j) * 1 + i = off + a + j * 1 + i by omega] at this
 exact this
theorem own_cells {w : World} {B : Nat} {v : Value} {xs : List (List UInt8)} (h : OwnT w B v xs) (hp : 0 < xs.length) : ∃ g cap, v = .slice (some ⟨g, 0, none⟩) xs.length cap ∧ xs.length ≤ cap := by
 rcases h.2 with ⟨_, h0⟩ | ⟨g, cap, cur, rfl, _, _, hc, _⟩
 ·omega
 ·exact ⟨g, cap, rfl, hc⟩
theorem ownR_form {w : World} {B : Nat} {v : Value} {ks : List Bool} (h : OwnR w B v ks) : ∃ z c, v = .slice z ks.length c := by
 rcases h.2 with ⟨rfl, h0⟩ | ⟨g, cap, cur, rfl, _⟩
 ·exact ⟨none, 0, by rw [h0]⟩
 ·exact ⟨_, _, rfl⟩
theorem pagesR_impl {B : Nat} (v : Value) (ks : List Bool) (L : Nat) (w : World) (h : OwnR w B v ks) (n30 : ks.length ≤ 30) (hL : 1 ≤ L ∧ L ≤ 30) : Calls Tryz.prog 65 #[v, .int .i64 L] w (BestPPost ks L w) := by
 by_cases hp : 0 < ks.length
 ·obtain ⟨b, cap, rfl, hc, hr⟩ := h.rows hp
  exact implPages_any b 0 cap ks.length L ks w hr n30 hp hc hL
 ·have : ks = [] := List.eq_nil_of_length_eq_zero (by omega)
  subst this
  obtain ⟨z, c, rfl⟩ := ownR_form h
  exact implPages0_any z _ L w hL
theorem pagesR_spec {B : Nat} (v : Value) (ks : List Bool) (L : Nat) (w : World) (h : OwnR w B v ks) (n30 : ks.length ≤ 30) (hL : 1 ≤ L ∧ L ≤ 30) : Calls Tryz.prog 61 #[v, .int .i64 L] w (BestPPost ks L w) := by
 by_cases hp : 0 < ks.length
 ·obtain ⟨b, cap, rfl, hc, hr⟩ := h.rows hp
  exact specPages_any b 0 cap ks.length L ks w hr n30 hp hL
 ·have : ks = [] := List.eq_nil_of_length_eq_zero (by omega)
  subst this
  obtain ⟨z, c, rfl⟩ := ownR_form h
  exact specPages0_any z _ L w hL
def BPPost (b : DBook) (w : World) (e : Ending) (w' : World) : Prop := ∃ v us, e = .returned (.tuple #[v, .bool (bookP b).isSome]) ∧ OwnSU w' w.heap.size w'.heap.size v ((bookP b).getD []) us ∧ Below w.heap.size w w'
theorem bookP_none {b : DBook} (h : bookL b = none) : bookP b = none := by unfold bookP; rw [h]
theorem bookP_over {b : DBook} {ls : List (List (List UInt8))} (h : bookL b = some ls) (h30 : ¬ ls.flatten.length ≤ 30) : bookP b = none := by unfold bookP; rw [h]; simp only; rw [if_neg h30]
theorem bookP_bad {b : DBook} {ls : List (List (List UInt8))} {L : Nat} (h : bookL b = some ls) (hL : (L : Int) = b.lines) (h2 : bestP (keeps (counts ls)) L = none) : bookP b = none := by
 have e : b.lines.toNat = L := by omega
 unfold bookP; rw [h]; simp only; split
 ·rw [e, h2]
 ·rfl
theorem bookP_good {b : DBook} {ls : List (List (List UInt8))} {L : Nat} {t : List Nat} (h : bookL b = some ls) (h30 : ls.flatten.length ≤ 30) (hL : (L : Int) = b.lines) (h2 : bestP (keeps (counts ls)) L = some t) : bookP b = some (cutP ls.flatten 0 t) := by
 have e : b.lines.toNat = L := by omega
 unfold bookP; rw [h]; simp only; rw [if_pos h30, e, h2]
theorem ownI_form {w : World} {B : Nat} {v : Value} {xs : List Int} (h : OwnI w B v xs) : ∃ z c, v = .slice z xs.length c := by
 rcases h.2 with ⟨rfl, h0⟩ | ⟨g, cap, cur, rfl, _⟩
 ·exact ⟨none, 0, by rw [h0]⟩
 ·exact ⟨_, _, rfl⟩
end Go.Proofs.YtofnchdijanikaaGreatDoor

/-
  PROVED HERE: what the printer's lines need, part V05. Conditions: each theorem's own.
-/
import Derived.Test.YtofnchdijanikaaGreatDoorV04
import Derived.Deep.RegionHeldLaw
import Derived.Test.YtofnchdijanikaaGreatDoorV01
import Derived.Deep.AppendLies
set_option linter.unusedVariables false
set_option linter.unusedSimpArgs false
set_option maxRecDepth 100000
namespace Go.Proofs.YtofnchdijanikaaGreatDoor
open Go.RowKit
theorem slash_len : ∀ xs : List (List UInt8), (∀ x ∈ xs, x.length ≤ 1201) → (slash xs).length ≤ 1202 * xs.length
 | [], _ => by simp [slash, Lib.join]
 | [x], h => by
  have := h x (by simp)
  simp [slash, Lib.join]
  omega
 | x :: y :: t, h => by
  have ih := slash_len (y :: t) (fun z hz => h z (List.mem_cons_of_mem _ hz))
  have hx := h x (by simp)
  unfold slash at ih ⊢
  rw [Lib.join_cons] at ih ⊢
  have e : Lib.joinTail [47] (y :: t) = [47] ++ y ++ Lib.joinTail [47] t := by simp [Lib.joinTail]
  rw [e]
  simp only [List.length_append, List.length_cons, List.length_nil] at ih ⊢
  omega
theorem join_any {B : Nat} (v : Value) (xs : List (List UInt8)) (w : World) (h : OwnT w B v xs) (h30 : xs.length ≤ 1000) (hs : ∀ x ∈ xs, x.length ≤ 1201) : Calls Tryz.prog 69 #[v, .string (bs [47])] w (Ret (.string (bs (slash xs))) w) := by
 by_cases hp : 0 < xs.length
 ·obtain ⟨g, cap, rfl, hc⟩ := own_cells h hp
  have hr := OwnT.row h
  obtain ⟨b, off, cap', e, hb, hcell⟩ := txt_pos hr hp
  injection e with e1 e2 e3
  injection e1 with e4
  injection e4 with e5 e6
  subst e5 e6
  have em : (xs.map bs).map (fun x : ByteArray => x.data.toList) = xs := by simp [Function.comp_def]
  have hl := slash_len xs hs
  have key := Tryz.strings_Join g 0 cap (xs.map bs) (bs [47]) w (fun j x hx => by
   rw [List.getElem?_map] at hx
   cases hj : xs[j]? with
   | none => rw [hj] at hx; cases hx
   | some y =>
    rw [hj] at hx
    injection hx with hx
    have hjl := (List.getElem?_eq_some_iff.1 hj).1
    have := hcell j hjl
    rw [show xs.getD j [] = y by simp [List.getD, hj], hx] at this
    exact this) hb (by rw [List.length_map]; omega) (by rw [List.length_map]; exact hc) (by rw [em]; unfold slash at hl; simp only [List.toList_toArray]; omega)
  rw [em, List.length_map] at key
  exact key
 ·have : xs = [] := List.eq_nil_of_length_eq_zero (by omega)
  subst this
  obtain ⟨z, c, rfl⟩ := own_form h
  refine (Tryz.strings_Join_none z c (bs [47]) w).mono ?_
  rintro e w' ⟨rfl, rfl⟩
  exact ⟨rfl, Below.refl _ _⟩
end Go.Proofs.YtofnchdijanikaaGreatDoor
namespace Go.Proofs.YtofnchdijanikaaGreatDoor
open Go.RowKit
theorem cutP_mem (l : List (List UInt8)) : ∀ (t : List Nat) (a : Nat), ∀ pg ∈ cutP l a t, pg.length ≤ l.length ∧ ∀ x ∈ pg, x ∈ l
 | [], _, pg, h => by cases h
 | u :: t, a, pg, h => by
  rw [cutP, List.mem_cons] at h
  rcases h with rfl | h
  ·exact ⟨by rw [List.length_take, List.length_drop]; omega, fun x hx => List.mem_of_mem_drop (List.mem_of_mem_take hx)⟩
  ·exact cutP_mem l t u pg h
theorem bookP_lens {b : DBook} (hv : bookB b = true) {p : List (List (List UInt8))} (h : bookP b = some p) : ∀ pg ∈ p, pg.length ≤ 1000 ∧ ∀ x ∈ pg, x.length ≤ 1201 := by
 unfold bookP at h
 cases hl : bookL b with
 | none => rw [hl] at h; cases h
 | some ls =>
  rw [hl] at h
  simp only at h
  split at h
  ·rename_i h30
   cases hb : bestP (keeps (counts ls)) b.lines.toNat with
   | none => rw [hb] at h; cases h
   | some t =>
    rw [hb] at h
    simp only [Option.some.injEq] at h
    subst h
    intro pg hp
    obtain ⟨h1, h2⟩ := cutP_mem _ t 0 pg hp
    exact ⟨by omega, fun x hx => bookTo_short (bookB_true hv).pars _ ls nR hl x (h2 x hx)⟩
  ·cases h
set_option maxHeartbeats 16000000 in
theorem setP_any (b : DBook) (hv : bookB b = true) (v : Value) (w : World) (h : BookR w v b) (hz : BookN v) (n : Nat) (hn : n ≤ 999999) :
  Calls Tryz.prog 42 #[v, .string (bs tPage), .int .i64 n] w (LinePost w.heap.size (b, ansPage b n) w) := by
 obtain ⟨p1, q1, rfl, hp, hq⟩ := h
 have hok := bookB_true hv
 obtain ⟨pa, pl, pc, rfl⟩ : ∃ a l c, p1 = .slice a l c := by obtain ⟨va, vc, e, _⟩ := ss_idx hp; exact ⟨_, _, _, e⟩
 obtain ⟨qa, ql, qc, rfl⟩ : ∃ a l c, q1 = .slice a l c := by obtain ⟨a, c, e, _⟩ := hq; exact ⟨_, _, _, e⟩
 obtain ⟨bw, hbw⟩ : ∃ y, y = b.w := ⟨_, rfl⟩
 obtain ⟨bm, hbm⟩ : ∃ y, y = b.most := ⟨_, rfl⟩
 obtain ⟨bl, hbl⟩ : ∃ y, y = b.lines := ⟨_, rfl⟩
 have VB : Hid (∀ y z, bookV y z b = .agg #[y, z, .int .i64 bw, .int .i64 bm, .int .i64 bl]) := fun y z => by rw [hbw, hbm, hbl]; rfl
 have BRB := hQ (fun w' (hb : Below w.heap.size w w') => BookR.below (b := b) ⟨_, _, rfl, hp, hq⟩ hb)
 rw [← hbw, ← hbm, ← hbl] at BRB hz ⊢
 have HZ := hQ hz
 obtain ⟨W2, hW2⟩ : ∃ W2, W2 = ((w.alloc (.cells #[.slice pa pl pc, .slice qa ql qc, .int .i64 bw, .int .i64 bm, .int .i64 bl] BoxT)).alloc (.cells #[.slice none 0 0, .slice none 0 0, .int .i64 0, .int .i64 0, .int .i64 0] BoxT)) := ⟨_, rfl⟩
 have AW : Below w.heap.size w W2 := by rw [hW2]; exact ((Below.refl _ _).alloc nR _).alloc (by simp) _
 have S2 : W2.heap.size = w.heap.size + 2 := by rw [hW2]; simp
 have R1 : W2.ownsRow w.heap.size BoxT 5 (.slice (some ⟨w.heap.size, 0, none⟩) 1 1) 1 [.slice pa pl pc, .slice qa ql qc, .int .i64 bw, .int .i64 bm, .int .i64 bl] := by rw [hW2]; exact (own5_made w nR _ _ _ _ _ _).alloc _
 have R2 : W2.ownsRow w.heap.size BoxT 5 (.slice (some ⟨w.heap.size + 1, 0, none⟩) 1 1) 1 [.slice none 0 0, .slice none 0 0, .int .i64 0, .int .i64 0, .int .i64 0] := by
  have := own5_made (w.alloc (.cells #[.slice pa pl pc, .slice qa ql qc, .int .i64 bw, .int .i64 bm, .int .i64 bl] BoxT)) (B := w.heap.size) (by simp) BoxT (.slice none 0 0) (.slice none 0 0) (.int .i64 0) (.int .i64 0) (.int .i64 0)
  rw [show (w.alloc (.cells #[.slice pa pl pc, .slice qa ql qc, .int .i64 bw, .int .i64 bm, .int .i64 bl] BoxT)).heap.size = w.heap.size + 1 by simp] at this
  rw [hW2]
  exact this
 have HA := hQ AW
 have HS2 := hQ S2
 have H1 := hQ R1
 have H2 := hQ R2
 have CLH : Hid (Calls Tryz.prog 37 #[.agg #[.slice pa pl pc, .slice qa ql qc, .int .i64 bw, .int .i64 bm, .int .i64 bl]] W2 fun e w2 => ∃ ya ma da yb mb db us2, e = .returned (.agg #[.slice ya ma da, .slice yb mb db, .int .i64 bw, .int .i64 bm, .int .i64 bl]) ∧ OwnB w2 W2.heap.size w2.heap.size (.slice ya ma da) (.slice yb mb db) us2 b ∧ Below W2.heap.size W2 w2) := by
  refine Calls.mono (clone_any b hv _ W2 (BRB.out W2 AW) hz) ?_
  rintro e w2 ⟨pv2, qv2, us2, rfl, ho, hb⟩
  obtain ⟨ya, ma, da, yb, mb, db, rfl, rfl⟩ := ho.forms
  exact ⟨ya, ma, da, yb, mb, db, us2, by rw [VB.out], ho, hb⟩
 have HV := hQ hv
 have PLH := hQ (fun p (h : bookP b = some p) => bookP_lens hv h)
 have BPH := hQ (fun w4 (hb : Below w.heap.size w w4) => implBPages_any b hv _ w4 (BRB.out w4 hb))
 clear hok hp hq hbw hbm hbl AW S2 R1 R2 hz hv
 unfold BoxT at hW2
 unfold tPage
 go_enter Tryz.func42, Tryz.ntmps42
 go_upto_region 1 with fail
 rw [← hW2]
 obtain ⟨r0, r1, r2, r3, r4⟩ := own5 H1.out
 clear hW2
 go_upto_region 2 with (go_at_call 37; refine CLH.out.mono ?_; rintro e w3 ⟨ya, ma, da, yb, mb, db, us, rfl, ho3, hb3⟩)
 have s2 := HS2.out
 have s3 := hb3.size
 have B3 := hQ (below_next HA.out hb3 nR)
 have K1 := (owns_below H1.out hb3).alloc (.cells #[.slice ya ma da, .slice yb mb db, .int .i64 bw, .int .i64 bm, .int .i64 bl] BoxT)
 have K2 := (owns_below H2.out hb3).alloc (.cells #[.slice ya ma da, .slice yb mb db, .int .i64 bw, .int .i64 bm, .int .i64 bl] BoxT)
 have K3 := own5_made w3 (B := w.heap.size) B3.out.size BoxT (.slice ya ma da) (.slice yb mb db) (.int .i64 bw) (.int .i64 bm) (.int .i64 bl)
 have O4 := ho3.below ((Below.refl w3.heap.size w3).alloc nR (.cells #[.slice ya ma da, .slice yb mb db, .int .i64 bw, .int .i64 bm, .int .i64 bl] BoxT))
 have B4 := B3.out.alloc B3.out.size (.cells #[.slice ya ma da, .slice yb mb db, .int .i64 bw, .int .i64 bm, .int .i64 bl] BoxT)
 obtain ⟨ws, hws⟩ : ∃ ws, ws = w3.alloc (.cells #[.slice ya ma da, .slice yb mb db, .int .i64 bw, .int .i64 bm, .int .i64 bl] BoxT) := ⟨_, rfl⟩
 have Sws : ws.heap.size = w3.heap.size + 1 := by rw [hws]; simp
 rw [← hws] at K1 K2 K3 O4 B4
 unfold BoxT at hws
 rw [← hws]
 obtain ⟨c0, c1, c2, c3, c4⟩ := own5 K3
 obtain ⟨d0, d1, d2, d3, d4⟩ := own5 K1
 have BP := hQ (BPH.out _ B4)
 have HB4 := hQ B4
 have HK2 := hQ K2
 have HK3 := hQ K3
 have HO4 := hQ (O4.wider (by omega : w3.heap.size ≤ ws.heap.size))
 have HSW := hQ Sws
 clear hws K1 K2 K3 O4 B4 hb3 ho3 s3 s2 Sws c0 c1 c2 c3 c4
 cases hbp : bookP b with
 | none =>
  have E : Hid (ansPage b n = tNo) := by show _ = _; unfold ansPage; rw [hbp]
  have BPN : Hid (Calls Tryz.prog 38 #[.agg #[.slice pa pl pc, .slice qa ql qc, .int .i64 bw, .int .i64 bm, .int .i64 bl]] ws fun e w5 => ∃ v5, e = .returned (.tuple #[v5, .bool false]) ∧ Below ws.heap.size ws w5) := BP.out.mono fun e w5 ⟨v5, us5, he, _, hb⟩ => ⟨v5, by rw [he, hbp]; rfl, hb⟩
  clear hbp BP BPH
  go_wp2_with (go_at_call 38; refine BPN.out.mono ?_; rintro e w5 ⟨v5, rfl, hb5⟩; have K4 := hQ (owns_below HK3.out hb5); obtain ⟨c0, c1, c2, c3, c4⟩ := own5 K4.out; have K5 := hQ (owns_below HK2.out hb5); obtain ⟨p0, p1, p2, p3, p4⟩ := own5 K5.out; obtain ⟨n0, n1, n2, n3, n4⟩ := fz5 K5.out; have FF := hQ (own5_set K5.out (.slice ya ma da) (.slice yb mb db) (.int .i64 bw) (.int .i64 bm) (.int .i64 bl)))
  obtain ⟨g0, g1, g2, g3, g4⟩ := own5 FF.out.1
  have s2 := HS2.out
  have fs := FF.out.2.size
  have FX := ((((HO4.out.below hb5).wider hb5.size).grown FF.out.2 (.inl (by omega))).mono (by omega : w.heap.size ≤ W2.heap.size)).wider fs
  have B6 := below_next HB4.out hb5 nR
  have FB := B6.grown FF.out.2 B6.size (fun k hk => by cases hk; omega)
  refine bodyPost_ret (v := .tuple #[.agg #[.slice ya ma da, .slice yb mb db, .int .i64 bw, .int .i64 bm, .int .i64 bl], .string (bs tNo)]) (by simp [results, Tryz.results42, go_sem, g0, g1, g2, g3, g4]; rfl) rfl ⟨.slice ya ma da, .slice yb mb db, us, by rw [E.out, VB.out], FX, FB⟩
 | some p =>
  have BPS : Hid (Calls Tryz.prog 38 #[.agg #[.slice pa pl pc, .slice qa ql qc, .int .i64 bw, .int .i64 bm, .int .i64 bl]] ws fun e w5 => ∃ z m c us5, e = .returned (.tuple #[.slice z m c, .bool true]) ∧ p.length = m ∧ OwnSU w5 ws.heap.size w5.heap.size (.slice z m c) p us5 ∧ Below ws.heap.size ws w5) := BP.out.mono fun e w5 ⟨v5, us5, he, ho, hb⟩ => by
   rw [hbp] at he ho
   simp only [Option.getD_some] at ho
   obtain ⟨z, c, rfl⟩ := ho.form
   exact ⟨z, _, c, us5, he, rfl, ho, hb⟩
  by_cases hr : 1 ≤ n ∧ n ≤ p.length
  ·obtain ⟨m, hm⟩ : ∃ m, m = p.length := ⟨_, rfl⟩
   have E : Hid (ansPage b n = slash (p.getD (n - 1) [])) := by show _ = _; unfold ansPage; rw [hbp]; simp only; rw [if_pos hr]
   have I1 : Hid (inB (n : Int) 1 (m : Int) = true) := inB_yes (by omega) (by omega)
   rw [← hm] at BPS
   have HM := hQ hm
   have PLN := hQ (PLH.out p hbp)
   clear hbp BP BPH hm
   go_wp2_with (first | (go_at_call 38; refine BPS.out.mono ?_; rintro e w5 ⟨z5, m5, c5, us5, rfl, rfl, ho5, hb5⟩; have K4 := hQ (owns_below HK3.out hb5); obtain ⟨c0, c1, c2, c3, c4⟩ := own5 K4.out; have K5 := hQ (owns_below HK2.out hb5); obtain ⟨p0, p1, p2, p3, p4⟩ := own5 K5.out; obtain ⟨n0, n1, n2, n3, n4⟩ := fz5 K5.out; have FF := hQ (own5_set K5.out (.slice ya ma da) (.slice yb mb db) (.int .i64 bw) (.int .i64 bm) (.int .i64 bl))) | (go_at_call 57; refine (in_any _ _ _ _).mono ?_; rintro e w' ⟨rfl, rfl⟩; rw [I1.out]))
   obtain ⟨k, rfl⟩ : ∃ k, n = k + 1 := ⟨n - 1, by omega⟩
   have hm := HM.out
   obtain ⟨u, hu, hou, hku, hav⟩ := ho5.2.2.2.1 k (by omega)
   have hgk : p.getD (k + 1 - 1) [] = p[k]'(by omega) := by simp [List.getD, show k < p.length by omega]
   have LEN := PLN.out p[k] (List.getElem_mem _)
   obtain ⟨pg, hpg⟩ : ∃ pg, pg = p[k]'(by omega) := ⟨_, rfl⟩
   rw [← hpg] at hou hgk LEN
   have EK := E.out
   rw [hgk] at EK
   have hrow := ho5.2.1
   rw [← hm] at hrow
   obtain ⟨g, cap, eg⟩ : ∃ g cap, Value.slice z5 m c5 = .slice (some ⟨g, 0, none⟩) m cap := by
    rcases hrow.2 with ⟨_, h0⟩ | ⟨g, cap, cur, e, _⟩
    ·omega
    ·exact ⟨g, cap, e⟩
   cases eg
   have kc := (World.ownsRow.cellAt hrow k (by omega)).trans hu
   have kk : w5.cell? ⟨g, k, none⟩ = some u := by simpa using kc
   have HE := hQ EK
   have EE := hQ EK
   have OU := hQ hou
   have KU : Hid (∀ q, u.ownBlock = some q → ws.heap.size ≤ q) := fun q hq => (World.ownsRow.lt hou q hq).1
   have kn : ((k + 1 : Nat) : Int) - 1 = (k : Int) := by omega
   have JO : Hid (∀ w', OwnT w' ws.heap.size u pg → Calls Tryz.prog 69 #[u, .string (bs [47])] w' (Ret (.string (bs (slash pg))) w')) := fun w' h' => join_any u pg w' h' LEN.1 LEN.2
   have hlt := (World.ownsRow.lt HK2.out (w.heap.size + 1) rfl).2
   have D5 := hQ (hb5.drew)
   have K5d := hQ (owns_below K5.out ((Below.refl w5.heap.size w5).drew))
   have K4d := hQ (owns_below K4.out ((Below.refl w5.heap.size w5).drew))
   have OUd := hQ (OU.out.below ((Below.refl w5.heap.size w5).drew))
   have FD := hQ (own5_set K5d.out (.slice ya ma da) (.slice yb mb db) (.int .i64 bw) (.int .i64 bm) (.int .i64 bl))
   have OUs := hQ (World.ownsRow.kept OUd.out FD.out.2 (by
    cases hh : u.ownBlock with
    | none => exact .inl rfl
    | some q => exact .inr fun e => by have := KU.out q hh; have := Option.some.inj e; omega))
   have hkm : k < m := by omega
   have hkm2 : (k : Int) < (m : Int) := by omega
   clear hpg hm HE FF p0 p1 p2 p3 p4 n0 n1 n2 n3 n4 hlt
   obtain ⟨p0, p1, p2, p3, p4⟩ := own5 K5d.out
   obtain ⟨n0, n1, n2, n3, n4⟩ := fz5 K5d.out
   have kw : IntKind.i64.wrap (((k + 1 : Nat) : Int) - 1) = (k : Int) := by rw [kn]; exact IntWalk.i64_in _ (by omega)
   have kw2 : IntKind.i64.wrap (k : Int) = (k : Int) := IntWalk.i64_in _ (by omega)
   go_region_with (first
    | (go_at_call 69; refine (JO.out _ (by with_reducible exact OUd.out)).mono ?_; rintro e w6 ⟨rfl, b6⟩; obtain ⟨v0, v1, v2, v3, v4⟩ := own5 (owns_below K4d.out b6); have K6 := hQ (owns_below K5d.out b6); obtain ⟨x0, x1, x2, x3, x4⟩ := own5 K6.out; obtain ⟨y0, y1, y2, y3, y4⟩ := fz5 K6.out)
    | (go_at_call 69; refine (JO.out _ (by with_reducible exact OUs.out)).mono ?_; rintro e w6 ⟨rfl, b6⟩; have KS := hQ (owns_below FD.out.1 b6)))
   all_goals clear c0 c1 c2 c3 c4
   all_goals first
    | (go_wp2_with fail
       have FF6 := own5_set K6.out (.slice ya ma da) (.slice yb mb db) (.int .i64 bw) (.int .i64 bm) (.int .i64 bl)
       obtain ⟨g0, g1, g2, g3, g4⟩ := own5 FF6.1
       have hs2 := HS2.out
       have fs := FF6.2.size
       have B6 := below_next D5.out b6 nR
       have FX := ((((HO4.out.below B6).wider B6.size).grown FF6.2 (.inl (by omega))).mono (by omega : w.heap.size ≤ W2.heap.size)).wider fs
       have B7 := below_next HB4.out B6 nR
       have FB := B7.grown FF6.2 B7.size (fun k hk => by cases hk; omega)
       refine bodyPost_ret (v := .tuple #[.agg #[.slice ya ma da, .slice yb mb db, .int .i64 bw, .int .i64 bm, .int .i64 bl], .string (bs (slash pg))]) (by simp [results, Tryz.results42, go_sem, g0, g1, g2, g3, g4]) rfl ⟨.slice ya ma da, .slice yb mb db, us, by rw [EE.out, VB.out], FX, FB⟩)
    | (go_wp2_with fail
       obtain ⟨g0, g1, g2, g3, g4⟩ := own5 KS.out
       have hs2 := HS2.out
       have fs := FD.out.2.size
       have f6 := b6.size
       have O6 := (((HO4.out.below D5.out).wider D5.out.size).grown FD.out.2 (.inl (by omega))).below b6
       have FX := (O6.mono (by omega : w.heap.size ≤ W2.heap.size)).wider (Nat.le_trans fs f6)
       have B7 := below_next HB4.out D5.out nR
       have FB := below_next (B7.grown FD.out.2 B7.size (fun k hk => by cases hk; omega)) b6 nR
       refine bodyPost_ret (v := .tuple #[.agg #[.slice ya ma da, .slice yb mb db, .int .i64 bw, .int .i64 bm, .int .i64 bl], .string (bs (slash pg))]) (by simp [results, Tryz.results42, go_sem, g0, g1, g2, g3, g4]) rfl ⟨.slice ya ma da, .slice yb mb db, us, by rw [EE.out, VB.out], FX, FB⟩)
  ·have E : Hid (ansPage b n = tNo) := by show _ = _; unfold ansPage; rw [hbp]; simp only; rw [if_neg hr]
   obtain ⟨m, hm⟩ : ∃ m, m = p.length := ⟨_, rfl⟩
   have I1 : Hid (inB (n : Int) 1 (m : Int) = false) := by show _ = _; unfold inB; simp; omega
   rw [← hm] at BPS
   clear hbp BP BPH hr hm
   go_wp2_with (first | (go_at_call 38; refine BPS.out.mono ?_; rintro e w5 ⟨z5, m5, c5, us5, rfl, rfl, ho5, hb5⟩; have K4 := hQ (owns_below HK3.out hb5); obtain ⟨c0, c1, c2, c3, c4⟩ := own5 K4.out; have K5 := hQ (owns_below HK2.out hb5); obtain ⟨p0, p1, p2, p3, p4⟩ := own5 K5.out; obtain ⟨n0, n1, n2, n3, n4⟩ := fz5 K5.out; have FF := hQ (own5_set K5.out (.slice ya ma da) (.slice yb mb db) (.int .i64 bw) (.int .i64 bm) (.int .i64 bl))) | (go_at_call 57; refine (in_any _ _ _ _).mono ?_; rintro e w' ⟨rfl, rfl⟩; rw [I1.out]))
   obtain ⟨g0, g1, g2, g3, g4⟩ := own5 FF.out.1
   have s2 := HS2.out
   have fs := FF.out.2.size
   have FX := ((((HO4.out.below hb5).wider hb5.size).grown FF.out.2 (.inl (by omega))).mono (by omega : w.heap.size ≤ W2.heap.size)).wider fs
   have B6 := below_next HB4.out hb5 nR
   have FB := B6.grown FF.out.2 B6.size (fun k hk => by cases hk; omega)
   refine bodyPost_ret (v := .tuple #[.agg #[.slice ya ma da, .slice yb mb db, .int .i64 bw, .int .i64 bm, .int .i64 bl], .string (bs tNo)]) (by simp [results, Tryz.results42, go_sem, g0, g1, g2, g3, g4]; rfl) rfl ⟨.slice ya ma da, .slice yb mb db, us, by rw [E.out, VB.out], FX, FB⟩
end Go.Proofs.YtofnchdijanikaaGreatDoor
namespace Go.Proofs.YtofnchdijanikaaGreatDoor
open Go.RowKit
def MaxTab (w : World) : Prop := ∃ m : Int, w.cell? ⟨0, 0, none⟩ = some (.int .i64 m)
theorem MaxTab.below {w w' : World} {B : Nat} (h : MaxTab w) (hb : Below B w w') (hB : w.heap.size ≤ B) : MaxTab w' := by
 obtain ⟨m, hm⟩ := h
 have := World.block_lt_of_cell? w _ hm
 exact ⟨m, (hb.cell (p := ⟨0, 0, none⟩) (Nat.lt_of_lt_of_le this hB)).trans hm⟩
theorem flat_map_bs (xs : List (List UInt8)) : (xs.map bs).map Value.string = xs.flatMap encB := by
 induction xs with
 | nil => rfl
 | cons x t ih => rw [List.map_cons, List.map_cons, ih]; rfl
theorem map_bs (l : List ByteArray) : (l.map (fun x : ByteArray => x.data.toList)).map bs = l := by
 rw [List.map_map]
 conv => rhs; rw [← List.map_id l]
 exact List.map_congr_left fun x _ => by simp [bs]
theorem split_any (l : List UInt8) (w : World) (hl : l.length ≤ 4000000) (hm : MaxTab w) : Calls Tryz.prog 36 #[.string (bs l), .string (bs [32])] w fun e w' =>
  e = .returned (.slice (some ⟨w.heap.size, 0, none⟩) (wds l).length (wds l).length) ∧ OwnT w' w.heap.size (.slice (some ⟨w.heap.size, 0, none⟩) (wds l).length (wds l).length) (wds l) ∧ Below w.heap.size w w' := by
 obtain ⟨m, hm⟩ := hm
 have hsz : (bs l).size = l.length := by simp [ByteArray.size]
 have h1 : (bs [32]).size = 1 := rfl
 refine (Tryz.strings_Split (bs l) (bs [32]) m w (by omega) hm (by omega)).mono ?_
 rintro e w' ⟨rfl, rfl⟩
 have hk := Lib.splitB_data (bs [32]) 0 (Lib.countB (bs l) (bs [32])) (bs l)
 have hlen := Lib.splitB_all (bs [32]) (by omega) 0 (Lib.countB (bs l) (bs [32])) (bs l) rfl
 have hw : spl32 l = wds l := spl32_wds _ l nR
 have hk2 : (Lib.splitB (bs [32]) 0 (Lib.countB (bs l) (bs [32])) (bs l)).map (fun x : ByteArray => x.data.toList) = wds l := by
  rw [hk, ← hw]
  rfl
 obtain ⟨S, hS⟩ : ∃ S, S = Lib.splitB (bs [32]) 0 (Lib.countB (bs l) (bs [32])) (bs l) := ⟨_, rfl⟩
 rw [← hS] at hk2 hlen ⊢
 have hcl : S.map Value.string = (wds l).flatMap encB := by
  rw [← hk2, ← flat_map_bs, map_bs]
 have hwl : (wds l).length = S.length := by rw [← hk2, List.length_map]
 have hwd := wds_len l
 rw [← hlen, hcl, hwl]
 refine ⟨rfl, ?_, (Below.refl _ _).alloc nR _⟩
 unfold OwnT
 rw [hwl]
 exact ⟨by rw [flat_encB, hwl, Nat.mul_one], .inr ⟨w.heap.size, S.length, ((wds l).flatMap encB).toArray, rfl, nR, heap_alloc_new w _, nR, by unfold maxLen; omega, by rw [List.size_toArray, flat_encB, hwl, Nat.mul_one], by simp only [List.toList_toArray]; rw [Nat.mul_one, ← hwl, ← flat_encB, List.take_length]⟩⟩
end Go.Proofs.YtofnchdijanikaaGreatDoor
namespace Go.Proofs.YtofnchdijanikaaGreatDoor
open Go.RowKit
theorem prNum_any (b : DBook) (hv : bookB b = true) (v : Value) (w : World) (h : BookR w v b) (hz : BookN v) (w0 : List UInt8) (hw : isNumW w0 = true) (n : Nat) (hn : n ≤ 999999) :
  Calls Tryz.prog 42 #[v, .string (bs w0), .int .i64 n] w (LinePost w.heap.size (prNum b w0 n) w) := by
 unfold isNumW at hw
 simp only [Bool.or_eq_true, beq_iff_eq] at hw
 unfold prNum
 rcases hw with rfl | rfl | rfl | rfl
 ·rw [if_pos rfl]
  exact setW_any b hv v w h hz n
 ·rw [if_neg (by decide), if_pos rfl]
  exact setM_any b hv v w h hz n
 ·rw [if_neg (by decide), if_neg (by decide), if_pos rfl]
  exact setL_any b hv v w h hz n
 ·rw [if_neg (by decide), if_neg (by decide), if_neg (by decide)]
  exact setP_any b hv v w h hz n hn
def LnTab (w : World) : Prop := PrTab w ∧ MaxTab w
theorem LnTab.below {w w' : World} {B : Nat} (h : LnTab w) (hb : Below B w w') (hB : w.heap.size ≤ B) : LnTab w' := ⟨h.1.below hb hB, h.2.below hb hB⟩
end Go.Proofs.YtofnchdijanikaaGreatDoor
namespace Go.Proofs.YtofnchdijanikaaGreatDoor
open Go.RowKit
theorem step_list {P : Program} {ops ops' : Array Oper} {o : Oper} {a : Act} {w : World} {K : Act → World → Prop} {Q : Exit → Act → World → Prop} {E : Prop} (hg : o.guard = none)
  (h : wpList P ops' (fun ex a' w' => ex = .normal ∧ K a' w') [o] a w) : if Region.wanted o (yielded ops a.tmps) = true then Oper.wp P o a w K Q else E := by
 have hw : Region.wanted o (yielded ops a.tmps) = true := by simp [Region.wanted, hg]
 have hw' : Region.wanted o (yielded ops' a.tmps) = true := by simp [Region.wanted, hg]
 rw [if_pos hw]
 unfold wpList at h
 rw [if_pos hw'] at h
 rcases h with h | ⟨_, _, _, h, _⟩
 ·have hk : ∀ a w, wpList P ops' (fun ex a' w' => ex = .normal ∧ K a' w') [] a w → K a w := fun a w h => h.2
  unfold Oper.wp at *
  generalize (execOp a.eval o).run P w = r at *
  cases r with
  | ok n w' =>
   cases n <;> simp only [Oper.upon] at h ⊢ <;>
    first
     | exact hk _ _ h
     | exact Calls.mono h (fun e w'' he => by
       cases e
       ·exact hk _ _ he
       ·exact absurd he.1 (by simp)
       ·obtain ⟨_, _, h2, _⟩ := he; cases h2)
     | exact Rows.mono h (fun _ _ he => hk _ _ he)
  | halt x w' =>
   cases x <;> simp only [Oper.upon] at h ⊢
   all_goals first
    | exact absurd h.1 (by simp)
    | exact h
 ·cases h
section
variable {ops : Array Oper} {o : Oper} {a : Act} {K : Act → World → Prop} {Q : Exit → Act → World → Prop} {E : Prop}
theorem step_strs (w wr : World) (hgd : o.guard = none) (s x : Operand)
  (ho : o.op = .call { callee := .builtin .append, args := #[s, x], argTypes := #[23, 23] }) (B : Nat) (v : Value) (xs ys : List (List UInt8)) (u : Value)
  (hs : a.eval s = v) (hx : a.eval x = u) (hown : OwnT wr B v xs) (hu : TxtS wr u ys) (hz : NC u) (hn : xs.length ≤ 4000000) (hm : ys.length ≤ 4000000) (hB : B ≤ w.heap.size) (hb : Below B w wr)
  (h : ∀ z n c w', OwnT w' B (.slice z n c) (xs ++ ys) → Below B w w' → Moved wr v (.slice z n c) → wr.grownBy w' v.ownBlock → K (a.put o.dst (.slice z n c)) w') :
  if Region.wanted o (yielded ops a.tmps) = true then Oper.wp Tryz.prog o a wr K Q else E :=
 step_list (ops' := ops) hgd (append_strs w wr hgd s x ho B v xs ys u hs hx hown hu (fun c n e => hz c n e) hn hm hB hb fun v' w' h1 h2 h3 h4 => by
  obtain ⟨z, c, rfl⟩ := own_form h1
  exact wpList_nil ⟨rfl, h _ _ _ w' h1 h2 h3 h4⟩)
theorem step_ss (w wr : World) (hgd : o.guard = none) (s x : Operand)
  (ho : o.op = .call { callee := .builtin .append, args := #[s, x], argTypes := #[22, 22] }) (B hi : Nat) (v : Value) (xss : List (List (List UInt8))) (us : List Value) (z : Option Addr) (n c : Nat) (l : List (List UInt8))
  (hs : a.eval s = v) (hx : a.eval x = .slice (some ⟨wr.heap.size, 0, none⟩) 1 1) (hown : OwnSU wr B hi v xss us) (hhi : hi ≤ wr.heap.size) (hu : OwnT wr B (.slice z n c) l) (hg : ∀ k, (Value.slice z n c).ownBlock = some k → hi ≤ k) (hn : xss.length ≤ 4000000) (hB : B ≤ w.heap.size) (hb : Below B w wr)
  (h : ∀ z' n' c' w', OwnSU w' B w'.heap.size (.slice z' n' c') (xss ++ [l]) (us ++ [.slice z n c]) → Below B w w' → Moved (wr.alloc (.cells #[.slice z n c] 23)) v (.slice z' n' c') → wr.grownBy w' v.ownBlock → K (a.put o.dst (.slice z' n' c')) w') :
  if Region.wanted o (yielded ops a.tmps) = true then Oper.wp Tryz.prog o a (wr.alloc (.cells #[.slice z n c] 23)) K Q else E :=
 step_list (ops' := ops) hgd (append_ss w wr hgd s x ho B hi v xss us z n c l hs hx hown hhi hu hg hn hB hb fun v' w' h1 h2 h3 h4 => by
  obtain ⟨z', c', rfl⟩ := h1.form
  exact wpList_nil ⟨rfl, h _ _ _ w' h1 h2 h3 h4⟩)
theorem step_str (w wr : World) (hgd : o.guard = none) (s x : Operand)
  (ho : o.op = .call { callee := .builtin .append, args := #[s, x], argTypes := #[23, 23] }) (B : Nat) (v : Value) (xs : List (List UInt8)) (l : List UInt8)
  (hs : a.eval s = v) (hx : a.eval x = .slice (some ⟨wr.heap.size, 0, none⟩) 1 1) (hown : OwnT wr B v xs) (hn : xs.length ≤ 4000000) (hB : B ≤ w.heap.size) (hb : Below B w wr)
  (h : ∀ z n c w', OwnT w' B (.slice z n c) (xs ++ [l]) → Below B w w' → Moved (wr.alloc (.cells #[.string (bs l)] 9)) v (.slice z n c) → wr.grownBy w' v.ownBlock → K (a.put o.dst (.slice z n c)) w') :
  if Region.wanted o (yielded ops a.tmps) = true then Oper.wp Tryz.prog o a (wr.alloc (.cells #[.string (bs l)] 9)) K Q else E :=
 step_list (ops' := ops) hgd (append_str w wr hgd s x ho B v xs l hs hx hown hn hB hb fun v' w' h1 h2 h3 h4 => by
  obtain ⟨z, c, rfl⟩ := own_form h1
  exact wpList_nil ⟨rfl, h _ _ _ w' h1 h2 h3 h4⟩)
end
end Go.Proofs.YtofnchdijanikaaGreatDoor
namespace Go.Proofs.YtofnchdijanikaaGreatDoor
open Go.RowKit
theorem OwnSU.grown' {w w' : World} {base hi : Nat} {v : Value} {xs : List (List (List UInt8))} {us : List Value} {row : Option Nat} (h : OwnSU w base hi v xs us) (hg : w.grownBy w' row) (hv : ∀ k, row = some k → v.ownBlock ≠ some k) (hu : ∀ k, row = some k → ∀ u ∈ us, u.ownBlock ≠ some k) : OwnSU w' base hi v xs us := by
 have key : ∀ z : Value, (∀ k, row = some k → z.ownBlock ≠ some k) → z.ownBlock = none ∨ z.ownBlock ≠ row := fun z hz => by
  cases row with
  | none => cases hb : z.ownBlock with
   | none => exact .inl rfl
   | some k => exact .inr (by simp)
  | some k => exact .inr (hz k rfl)
 obtain ⟨h1, h2, h2', h3, h4⟩ := h
 refine ⟨h1, World.ownsRow.kept h2 hg (key v hv), h2', fun j hj => ?_, h4⟩
 obtain ⟨u, e, ho, hk, ha⟩ := h3 j hj
 exact ⟨u, e, World.ownsRow.kept ho hg (key u fun k hk => hu k hk u (List.mem_of_getElem? e)), hk, ha⟩
end Go.Proofs.YtofnchdijanikaaGreatDoor
namespace Go.Proofs.YtofnchdijanikaaGreatDoor
open Go.RowKit
theorem isNumW_false {w0 : List UInt8} (h : isNumW w0 = false) : (w0 == [119, 105, 100, 116, 104]) = false ∧ (w0 == [109, 111, 115, 116]) = false ∧ (w0 == [108, 105, 110, 101, 115]) = false ∧ (w0 == [112, 97, 103, 101]) = false := by
 unfold isNumW tWidth tMost tLines tPage at h
 simp only [Bool.or_eq_false_iff] at h
 exact ⟨h.1, h.2.1, h.2.2.1, h.2.2.2⟩
theorem isNumW_true {w0 : List UInt8} (h : isNumW w0 = true) : w0 = tWidth ∨ w0 = tMost ∨ w0 = tLines ∨ w0 = tPage := by
 unfold isNumW at h
 simpa only [Bool.or_eq_true, beq_iff_eq] using h
theorem dec_lt : ∀ (k n : Nat), (Lib.decDigits n).length ≤ k → n < 10 ^ k
 | 0, n, h => by have := dec_pos n; omega
 | k + 1, n, h => by
  rw [Lib.decDigits] at h
  have hp : 10 ^ (k + 1) = 10 * 10 ^ k := by rw [Nat.pow_succ]; omega
  have h1 : 1 ≤ 10 ^ k := Nat.one_le_pow _ _ (by decide)
  split at h
  ·omega
  ·rw [List.length_append] at h
   have := dec_lt k (n / 10) (by simpa using h)
   omega
theorem numV_le {s : List UInt8} {n : Nat} (h : numV s = some n) : n ≤ 999999 := by
 obtain ⟨rfl, h6⟩ := numV_some h
 have := dec_lt 6 n h6
 omega
theorem bookP_few {b : DBook} {p : List (List (List UInt8))} (h : bookP b = some p) : p.length ≤ 30 := by
 unfold bookP at h
 cases hl : bookL b with
 | none => rw [hl] at h; cases h
 | some ls =>
  rw [hl] at h
  simp only at h
  split at h
  ·rename_i h30
   cases hb : bestP (keeps (counts ls)) b.lines.toNat with
   | none => rw [hb] at h; cases h
   | some t =>
    rw [hb] at h
    simp only [Option.some.injEq] at h
    subst h
    have h1 := (bestP_ends hb).2
    have h2 := (bookTo_len _ ls hl).2.2.1
    rw [keeps_len] at h1
    rw [cutP_len]
    omega
  ·cases h
end Go.Proofs.YtofnchdijanikaaGreatDoor

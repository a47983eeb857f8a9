/-
  PROVED HERE: what the printer's lines need, part D03. Conditions: each theorem's own.
-/
import Derived.Test.YtofnchdijanikaaGreatDoorD02
import Derived.StillTailTactics
import Derived.OwnWalk
import Derived.Test.YtofnchdijanikaaGreatDoorC03
import Derived.Test.YtofnchdijanikaaGreatDoorC04
import Derived.BigQuiet
import Derived.Test.YtofnchdijanikaaGreatDoorV04
import Derived.Test.YtofnchdijanikaaGreatDoorV01
set_option linter.unusedVariables false
set_option linter.unusedSimpArgs false
set_option maxRecDepth 100000
namespace Go.Proofs.YtofnchdijanikaaGreatDoor
open Go.RowKit
theorem OwnT.someP {w : World} {B : Nat} {v : Value} {xs : List (List UInt8)} (h : OwnT w B v xs) (hp : 0 < xs.length) : ∃ g N c, v = .slice (some ⟨g, 0, none⟩) N c ∧ xs.length = N ∧ N ≤ c := by
 rcases h.2 with ⟨_, e⟩ | ⟨g, c, cur, e, _, _, hc, _⟩
 ·omega
 ·exact ⟨g, _, c, e, rfl, hc⟩
def DrawPR (w : World) (e : Ending) (w' : World) : Prop := ∃ (v lv : Value) (b : DBook) (ls : List (List UInt8)), e = .returned (.tuple #[v, lv]) ∧ BookR w' v b ∧ BookN v ∧ BookSh b ∧ TxtS w' lv ls ∧ ls.length ≤ 31 ∧ (∀ l ∈ ls, l.length ≤ 120) ∧ (∃ g N c, lv = .slice (some ⟨g, 0, none⟩) N c ∧ ls.length = N ∧ N ≤ c) ∧ Below w.heap.size w w'
theorem made_txts (n : Nat) : (madeCells (Value.string ⟨#[]⟩).cells (n * 1)).toList = (List.replicate n ([] : List UInt8)).flatMap encB := by
 have e : (Value.string ⟨#[]⟩).cells = #[.string ⟨#[]⟩] := by simp [Value.cells]
 have e2 : (List.replicate n ([] : List UInt8)).flatMap encB = List.replicate n (.string (bs [])) := by
  induction n with
  | zero => rfl
  | succ n ih => rw [List.replicate_succ, List.flatMap_cons, ih]; rfl
 rw [e, e2, Nat.mul_one]
 unfold madeCells
 apply List.ext_getElem
 ·simp
 ·intro i h1 h2
  simp [Nat.mod_one]
set_option maxHeartbeats 16000000 in
theorem drawPR_any (a : Option Addr) (n cap : Nat) (w : World) (h : Code8 w a n cap) : Calls Tryz.prog 14 #[.slice a n cap] w (DrawPR w) := by
 obtain ⟨i0, hi0, hz0, hz1, hz2⟩ := info_parts info_str
 have A0 := hQ ((Below.refl w.heap.size w).alloc nR (.cells #[.slice none 0 0, .slice none 0 0, .int .i64 0, .int .i64 0, .int .i64 0] 27))
 have R0 := hQ (own5_made w nR 27 (.slice none 0 0) (.slice none 0 0) (.int .i64 0) (.int .i64 0) (.int .i64 0))
 obtain ⟨wA, hwA⟩ : ∃ wA, wA = w.alloc (.cells #[.slice none 0 0, .slice none 0 0, .int .i64 0, .int .i64 0, .int .i64 0] 27) := ⟨_, rfl⟩
 have H := hQ (h.below A0.out)
 rw [← hwA] at A0 R0 H
 clear h
 go_enter Tryz.func14, Tryz.ntmps14
 go_wp2_with fail
 rw [← hwA]
 clear hwA
 refine (open_any a n cap wA H.out).mono ?_
 rintro e w1 ⟨B, rfl, hr, hB, hb⟩
 have B1 := hQ (below_next A0.out hb nR)
 have R1 := hQ (owns_below R0.out hb)
 have lw := (World.ownsRow.lt R0.out w.heap.size rfl).2
 have hwB : w.heap.size < B := Nat.lt_of_lt_of_le lw hB
 have hB1 : B < w1.heap.size := hr.lt
 clear hb H R0 A0 lw hB
 go_wp2_with fail
 refine (l20Book_to B 0 14 w1 ⟨0, nR, hr⟩ (by omega) (by omega) (by omega)).mono ?_
 rintro e w2 ⟨v, b, rfl, hbo, hbn, hbs, hd⟩
 obtain ⟨pv, qv, us, rfl, h1, h2, h3⟩ := hbo
 obtain ⟨pz, pn, pc, rfl⟩ := h1.form'
 obtain ⟨qz, qn, qc, rfl⟩ := OwnT.form' h2
 have hs2 := hd.size
 have er : (Value.slice (some ⟨w.heap.size, 0, none⟩) 1 1).ownBlock = some w.heap.size := rfl
 have R2 := R1.out.kept hd.2.1 (.inr (by rw [er]; exact fun e => by have := Option.some.inj e; omega))
 obtain ⟨w3, g5, hw3, hg5, K3⟩ : ∃ w3 g5, w3 = w2.alloc (.cells #[.slice pz pn pc, .slice qz qn qc, .int .i64 b.w, .int .i64 b.most, .int .i64 b.lines] 27) ∧ g5 = w2.heap.size ∧ Hid (Dq w w1 w3 B 17000 g5 w2.heap.size (.slice pz pn pc) (.slice qz qn qc) b) := ⟨_, _, rfl, rfl, ⟨hd.alloc _, R2.alloc _, own5_made w2 (by have := B1.out.size; omega) _ _ _ _ _ _, BookO.below ⟨_, _, us, rfl, h1, h2, h3⟩ ((Below.refl _ _).alloc nR _), ⟨hwB, by omega, nR, hB1⟩⟩⟩
 have SH := hQ hbs
 have BN := hQ hbn
 clear h1 h2 h3 hd R2 R1 hs2 er hbn hbs hr
 go_upto_region 3 with fail
 rw [← hw3, ← hg5]
 have hn3 : Hid (g5 < w3.heap.size) := by have := (World.ownsRow.lt K3.out.kb g5 rfl).2; exact this
 have hn4 : Hid (w1.heap.size ≤ w3.heap.size) := K3.out.dr.size
 obtain ⟨n1, hn1⟩ : ∃ n1, n1 = w3.heap.size := ⟨_, rfl⟩
 have K4 := hQ (K3.out.alloc (.cells #[] 9))
 have O4 := hQ (OwnT.made w3 (B := n1) (by omega))
 have hs4 : n1 ≤ (w3.alloc (.cells #[] 9)).heap.size := by rw [World.size_alloc]; omega
 rw [← hn1] at hn3 hn4
 clear hw3 hg5 K3 hn1
 obtain ⟨H2, hH2⟩ : ∃ H2, H2 = w2.heap.size := ⟨_, rfl⟩
 rw [← hH2] at K4
 clear hH2
 go_wp2_with fail
 refine (pick_to B 17000 8 _ K4.out.dr.1 (by omega) (by omega) (by omega)).mono ?_
 rintro e w5 ⟨k1, a1, b1, rfl, r5, g5'⟩
 have K5 := hQ (K4.out.pick g5' r5)
 have O5 := hQ (own_pick O4.out (by have := K4.out.s; have := hn3.out; omega) g5')
 have hs5 : n1 ≤ w5.heap.size := Nat.le_trans hs4 g5'.size
 clear r5 g5' K4 O4
 go_wp2
 go_loopw [6, 7] (fun v i wr => ∃ (j : Nat) (xs : List (List UInt8)), xs.length + j ≤ 7 ∧ i = .int .i64 j ∧ Hid (∀ x ∈ xs, x.length ≤ 120) ∧ Hid (OwnT wr n1 v xs) ∧ Hid (∃ g N c, v = .slice (some ⟨g, 0, none⟩) N c ∧ xs.length = N ∧ N ≤ c) ∧ n1 ≤ wr.heap.size ∧ Hid (Dq w w1 wr B (17001 + 200 * xs.length) g5 H2 (.slice pz pn pc) (.slice qz qn qc) b)) (fun _ i _ => (intOf i).toNat)
 case atStart => exact ⟨k1.toNat, [], by simp; omega, by simp; omega, (fun x hx => by cases hx), O5.out, ⟨_, _, _, rfl, rfl, nR⟩, hs5, K5.out⟩
 case round =>
  obtain ⟨j, xs, hk, rfl, hx, ho, hform, hwr, hd⟩ := hrel
  clear K5 O5
  obtain ⟨q, hq⟩ : ∃ q, q = xs.length := ⟨_, rfl⟩
  rw [← hq] at hk hd
  have HQ := hQ hq
  clear hq
  have hBn : Hid (B < n1) := by have := hd.out.s; have := hn3.out; show _ < _; omega
  by_cases hj : 0 < j
  ·go_wp2_with fail
   refine (l20Said_to B (17001 + 200 * q) _ hd.out.dr.1 (by omega)).mono ?_
   rintro e w6 ⟨l, hl, rfl, d6⟩
   have DB := hQ ((hd.out.pick d6.2.1 d6.1).mono (by omega : _ ≤ 17001 + 200 * (q + 1)))
   have OB := hQ (own_pick ho.out hBn.out d6.2.1)
   have XX := hQ (fun x (hm : x ∈ xs ++ [l]) => (by rcases List.mem_append.1 hm with h | h; exact hx.out x h; rw [List.mem_singleton.1 h]; exact hl : x.length ≤ 120))
   have hws : n1 ≤ w6.heap.size := by
    exact Nat.le_trans hwr d6.2.1.size
   have XL : xs.length ≤ 4000000 := by rw [← HQ.out]; omega
   have XE : Hid ((xs ++ [l]).length = q + 1) := by show _ = _; rw [List.length_append, ← HQ.out]; rfl
   clear d6 hd ho hl hx
   go_wp2_with (at_builtin; refine append_str w6 w6 rfl _ _ rfl n1 u6 xs l rfl rfl OB.out XL hws (Below.refl _ _) ?_; intro v' w7 hown' hbel hmv hgr)
   have dF := hQ (DB.out.push OB.out hn3.out hn4.out hgr)
   have OF := hQ hown'
   have hw7 : n1 ≤ w7.heap.size := Nat.le_trans hws hgr.size
   clear XL hbel hmv hgr DB OB hown' HQ
   go_roundw
   case rel => exact ⟨j - 1, xs ++ [l], by rw [XE.out]; omega, by go_num, XX.out, OF.out, OF.out.someP (by rw [XE.out]; omega), hw7, by rw [XE.out]; exact dF.out⟩
   case measure => simp [intOf]; omega
  ·obtain rfl : j = 0 := by omega
   go_wp2_with fail
   refine (odd_to B (17001 + 200 * q) 24 _ hd.out.dr.1 (by omega) (by omega) (by omega)).mono ?_
   rintro e w6 ⟨bo, rfl, r6, g6⟩
   have DB := hQ (hd.out.pick g6 r6)
   have OB := hQ (own_pick ho.out hBn.out g6)
   clear r6 g6 hd ho
   cases bo
   ·obtain ⟨c0, c1, c2, c3, c4⟩ := own5 DB.out.kb
    obtain ⟨r0, r1, r2, r3, r4⟩ := own5 DB.out.kr
    obtain ⟨n0, n1, n2, n3, n4⟩ := fz5 DB.out.kr
    have FIN := hQ (DB.out.fin B1.out)
    obtain ⟨y0, y1, y2, y3, y4⟩ := own5 FIN.out.1
    have TX := hQ (OwnT.row (World.ownsRow.kept OB.out FIN.out.2.2.2 (.inr fun e => by have := (World.ownsRow.lt OB.out _ e).1; have := DB.out.s; have := hBn.out; omega)))
    go_wp2
    refine bodyPost_ret (v := .tuple #[.agg #[.slice pz pn pc, .slice qz qn qc, .int .i64 b.w, .int .i64 b.most, .int .i64 b.lines], u6]) (by simp [results, Tryz.results14, go_sem, y0, y1, y2, y3, y4]) rfl ⟨_, _, b, xs, rfl, FIN.out.2.1, BN.out, SH.out, TX.out, by rw [← HQ.out]; omega, hx.out, hform.out, FIN.out.2.2.1⟩
   ·go_upto_region 10 with (at_make; refine wpList_make_full _ rfl _ _ 23 rfl w6.heap.size 9 i0 (.string ⟨#[]⟩) 1 Tryz.underlying23 hi0 hz0 hz1 .i64 .i64 _ _ 31 rfl rfl rfl rfl (by rw [hz2]; omega) (by unfold maxLen; omega) nR ?_; intro wM hownM hgrowM; rw [made_txts 31] at hownM)
    have hgM := hQ (grown_of_none hgrowM B)
    have DM := hQ (DB.out.pick hgM.out (DB.out.dr.1.kept hgrowM (by intro k h; cases h)))
    have OM : Hid (OwnT wM w6.heap.size (.slice (some ⟨w6.heap.size, 0, none⟩) 31 31) (List.replicate 31 [])) := hownM
    have sw6 : Hid (w.heap.size < w6.heap.size) := by have := (World.ownsRow.lt DB.out.kr w.heap.size rfl).2; exact this
    clear hgrowM hownM hgM DB OB
    obtain ⟨c0, c1, c2, c3, c4⟩ := own5 DM.out.kb
    obtain ⟨r0, r1, r2, r3, r4⟩ := own5 DM.out.kr
    obtain ⟨n0, n1, n2, n3, n4⟩ := fz5 DM.out.kr
    have FIN := hQ (DM.out.fin B1.out)
    obtain ⟨y0, y1, y2, y3, y4⟩ := own5 FIN.out.1
    have TX := hQ (OwnT.row (World.ownsRow.kept OM.out FIN.out.2.2.2 (.inr fun e => by have := (World.ownsRow.lt OM.out _ e).1; have := sw6.out; omega)))
    go_wp2
    refine bodyPost_ret (v := .tuple #[.agg #[.slice pz pn pc, .slice qz qn qc, .int .i64 b.w, .int .i64 b.most, .int .i64 b.lines], .slice (some ⟨w6.heap.size, 0, none⟩) 31 31]) (by simp [results, Tryz.results14, go_sem, y0, y1, y2, y3, y4]) rfl ⟨_, _, b, List.replicate 31 [], rfl, FIN.out.2.1, BN.out, SH.out, TX.out, by simp, (fun l hl => by rw [List.eq_of_mem_replicate hl]; decide), ⟨_, _, _, rfl, by simp, nR⟩, FIN.out.2.2.1⟩
end Go.Proofs.YtofnchdijanikaaGreatDoor
namespace Go.Proofs.YtofnchdijanikaaGreatDoor
open Go.RowKit
def encZ (s : ByteArray) : List Value := [.string s]
theorem encZ_pos (s : ByteArray) : 0 < (encZ s).length := Nat.one_pos
set_option maxHeartbeats 1000000 in
theorem sameTexts_any (v1 v2 : Value) (xs : List ByteArray) (w : World) (h1 : SRow 1 encZ w v1 xs) (h2 : SRow 1 encZ w v2 xs) :
  Calls Tryz.prog 18 #[v1, v2] w (Ret (.bool true) w) := by
 by_cases h0 : xs.length = 0
 ·obtain rfl : xs = [] := List.eq_nil_of_length_eq_zero h0
  obtain ⟨a, cap, rfl⟩ := h1.empty
  obtain ⟨a', cap', rfl⟩ := h2.empty
  clear h1 h2 h0
  go_enter Tryz.func18, Tryz.ntmps18
  go_wp2
  refine wp_loop_rounds 1 ?_
  rw [rounds_succ]
  go_wp2
  go_ret
  exact ⟨rfl, Below.refl _ _⟩
 ·have hsz := h1.len
  obtain ⟨b, off, cap, rfl, hbl, hc⟩ := h1.pos encZ_pos (by omega)
  obtain ⟨b', off', cap', rfl, hbl', hc'⟩ := h2.pos encZ_pos (by omega)
  obtain ⟨n, hn⟩ : ∃ n, n = xs.length := ⟨_, rfl⟩
  rw [← hn] at hsz h0 ⊢
  have HC := hQ hc
  have HC' := hQ hc'
  have HN := hQ hn
  clear hn hc hc' h1 h2
  go_enter Tryz.func18, Tryz.ntmps18
  go_wp2
  go_loopw [5] (fun i wr => ∃ k : Nat, k ≤ n ∧ i = .int .i64 k ∧ Below w.heap.size w wr) (fun i _ => n - (intOf i).toNat)
  case atStart => exact ⟨0, Nat.zero_le _, rfl, Below.refl _ _⟩
  case round =>
   obtain ⟨k, hk, rfl, hb⟩ := hrel
   by_cases hlt : k < n
   ·have hk' : k < xs.length := by rw [← HN.out]; exact hlt
    have c := HC.out k hk' 0 _ rfl
    have c' := HC'.out k hk' 0 _ rfl
    obtain ⟨s, hs'⟩ : ∃ s, s = xs[k] := ⟨_, rfl⟩
    rw [← hs'] at c c'
    have e1 : wr.cell? ⟨b, off + k, none⟩ = some (.string s) := (hb.cell (p := ⟨b, off + k, none⟩) hbl).trans (by simpa using c)
    have e2 : wr.cell? ⟨b', off' + k, none⟩ = some (.string s) := (hb.cell (p := ⟨b', off' + k, none⟩) hbl').trans (by simpa using c')
    clear hs' c c'
    go_wp2
    go_quiet (fail)
    go_wp2
    go_roundw
    case rel => exact ⟨k + 1, by omega, by go_num, below_drewN hb _⟩
    case measure => simp [intOf]; omega
   ·clear HC HC'
    go_wp2
    go_ret
    exact ⟨rfl, hb⟩
end Go.Proofs.YtofnchdijanikaaGreatDoor
namespace Go.Proofs.YtofnchdijanikaaGreatDoor
open Go.RowKit
theorem txts_s {w : World} {v : Value} {xs : List (List UInt8)} (h : TxtS w v xs) : SRow 1 encZ w v (xs.map bs) := by
 obtain ⟨a, cap, hv, hsz, hc⟩ := h
 refine ⟨a, cap, by rw [List.length_map]; exact hv, by rw [List.length_map]; exact hsz, fun j hj => ?_⟩
 rw [List.length_map] at hj
 obtain ⟨b, off, e, hcell⟩ := hc j hj
 exact ⟨b, off, e, by rw [List.getElem_map]; exact hcell⟩
theorem sameT_any (v1 v2 : Value) (xs : List (List UInt8)) (w : World) (h1 : TxtS w v1 xs) (h2 : TxtS w v2 xs) : Calls Tryz.prog 18 #[v1, v2] w (Ret (.bool true) w) := sameTexts_any v1 v2 (xs.map bs) w (txts_s h1) (txts_s h2)
set_option maxHeartbeats 8000000 in
theorem sameBook_any (v1 v2 : Value) (b : DBook) (w : World) (h1 : BookR w v1 b) (h2 : BookR w v2 b) : Calls Tryz.prog 17 #[v1, v2] w (Ret (.bool true) w) := by
 obtain ⟨p1, q1, rfl, hp1, hq1⟩ := h1
 obtain ⟨p2, q2, rfl, hp2, hq2⟩ := h2
 obtain ⟨a1, ca1, rfl, hl, h3⟩ := ss_idx hp1
 obtain ⟨a2, ca2, rfl, _, h4⟩ := ss_idx hp2
 obtain ⟨d1, l1, m1, rfl⟩ : ∃ a l c, q1 = .slice a l c := by obtain ⟨a, c, e, _⟩ := hq1; exact ⟨_, _, _, e⟩
 obtain ⟨d2, l2, m2, rfl⟩ : ∃ a l c, q2 = .slice a l c := by obtain ⟨a, c, e, _⟩ := hq2; exact ⟨_, _, _, e⟩
 obtain ⟨n, hn⟩ : ∃ n, n = b.pars.length := ⟨_, rfl⟩
 rw [← hn] at hl h3 h4 ⊢
 obtain ⟨bw, hbw⟩ : ∃ y, y = b.w := ⟨_, rfl⟩
 obtain ⟨bm, hbm⟩ : ∃ y, y = b.most := ⟨_, rfl⟩
 obtain ⟨bl, hbl⟩ : ∃ y, y = b.lines := ⟨_, rfl⟩
 rw [← hbw, ← hbm, ← hbl]
 obtain ⟨W2, hW2⟩ : ∃ W2, W2 = (w.alloc (.cells #[.slice a1 n ca1, .slice d1 l1 m1, .int .i64 bw, .int .i64 bm, .int .i64 bl] 27)).alloc (.cells #[.slice a2 n ca2, .slice d2 l2 m2, .int .i64 bw, .int .i64 bm, .int .i64 bl] 27) := ⟨_, rfl⟩
 have AW : Below w.heap.size w W2 := by rw [hW2]; exact ((Below.refl _ _).alloc nR _).alloc (by simp) _
 have R1 : W2.ownsRow w.heap.size 27 5 (.slice (some ⟨w.heap.size, 0, none⟩) 1 1) 1 [.slice a1 n ca1, .slice d1 l1 m1, .int .i64 bw, .int .i64 bm, .int .i64 bl] := by rw [hW2]; exact (own5_made w nR _ _ _ _ _ _).alloc _
 have R2 : W2.ownsRow w.heap.size 27 5 (.slice (some ⟨w.heap.size + 1, 0, none⟩) 1 1) 1 [.slice a2 n ca2, .slice d2 l2 m2, .int .i64 bw, .int .i64 bm, .int .i64 bl] := by
  have := own5_made (w.alloc (.cells #[.slice a1 n ca1, .slice d1 l1 m1, .int .i64 bw, .int .i64 bm, .int .i64 bl] 27)) (B := w.heap.size) (by simp) 27 (.slice a2 n ca2) (.slice d2 l2 m2) (.int .i64 bw) (.int .i64 bm) (.int .i64 bl)
  rw [show (w.alloc (.cells #[.slice a1 n ca1, .slice d1 l1 m1, .int .i64 bw, .int .i64 bm, .int .i64 bl] 27)).heap.size = w.heap.size + 1 by simp] at this
  rw [hW2]
  exact this
 have HA := hQ AW
 have H1 := hQ R1
 have H2 := hQ R2
 have H3 := hQ h3
 have H4 := hQ h4
 have C2 := hQ (sameT_any (.slice d1 l1 m1) (.slice d2 l2 m2) b.pats W2 (hq1.below AW) (hq2.below AW))
 clear hp1 hp2 hq1 hq2 hbw hbm hbl AW R1 R2 h3 h4 hn
 go_enter Tryz.func17, Tryz.ntmps17
 go_upto_region 1 with fail
 rw [← hW2]
 obtain ⟨r0, r1, r2, r3, r4⟩ := own5 H1.out
 obtain ⟨s0, s1, s2, s3, s4⟩ := own5 H2.out
 clear hW2
 go_wp2_with (go_at_call 18; refine C2.out.mono ?_; rintro e w4 ⟨rfl, b4⟩; have K1 := hQ (owns_below H1.out b4); have K2 := hQ (owns_below H2.out b4); have B4 := hQ (below_next HA.out b4 nR); obtain ⟨e0, e1, e2, e3, e4⟩ := own5 K1.out; obtain ⟨f0, f1, f2, f3, f4⟩ := own5 K2.out)
 clear C2 H1 H2 HA r0 r1 r2 r3 r4 s0 s1 s2 s3 s4 e0 e1 e2 e3 e4 f0 f1 f2 f3 f4 b4
 go_loopw [5] (fun i wr => ∃ k : Nat, k ≤ n ∧ i = .int .i64 k ∧ Hid (Below w4.heap.size w4 wr)) (fun i _ => n - (intOf i).toNat)
 case atStart => exact ⟨0, Nat.zero_le _, rfl, Below.refl _ _⟩
 case round =>
  obtain ⟨k, hk, rfl, hb⟩ := hrel
  obtain ⟨e0, _⟩ := own5 (owns_below K1.out hb.out)
  obtain ⟨f0, _⟩ := own5 (owns_below K2.out hb.out)
  by_cases hlt : k < n
  ·have hlt2 : (k : Int) < (n : Int) := by omega
   have BW := hQ (below_next B4.out hb.out nR)
   obtain ⟨b1, o1, u1, rfl, x1, c1, i1⟩ := H3.out k hlt
   obtain ⟨b2, o2, u2, rfl, x2, c2, i2⟩ := H4.out k hlt
   have d1 : wr.cell? ⟨b1, o1 + k, none⟩ = some u1 := (BW.out.cell (p := ⟨b1, o1 + k, none⟩) x1).trans c1
   have d2 : wr.cell? ⟨b2, o2 + k, none⟩ = some u2 := (BW.out.cell (p := ⟨b2, o2 + k, none⟩) x2).trans c2
   obtain ⟨x, hx⟩ : ∃ x, x = b.pars.getD k [] := ⟨_, rfl⟩
   rw [← hx] at i1 i2
   have I1 := hQ (i1.below BW.out)
   have I2 := hQ (i2.below BW.out)
   clear c1 c2 i1 i2 hx
   go_wp2
   go_still_tail 10, (by kernel_rfl)
   change wpList _ _ _ _ _ wr.drew
   go_wp2_with (go_at_call 18; refine (sameT_any u1 u2 x _ (I1.out.below ((Below.refl _ _).drew)) (I2.out.below ((Below.refl _ _).drew))).mono ?_; rintro e w1 ⟨rfl, hb1⟩)
   have hb2 : Below w4.heap.size w4 w1 := (hb.out.drew).trans ((by assumption : Below wr.drew.heap.size wr.drew w1).mono (by have := hb.out.size; exact this))
   go_roundw
   case rel => exact ⟨k + 1, by omega, by go_num, hb2⟩
   case measure => simp [intOf]; omega
  ·clear H3 H4
   go_wp2
   go_ret
   exact ⟨rfl, below_next B4.out hb.out nR⟩
end Go.Proofs.YtofnchdijanikaaGreatDoor

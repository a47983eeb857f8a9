/-
  PROVED HERE: what the printer's lines need, part V03. Conditions: each theorem's own.
-/
import Derived.Test.YtofnchdijanikaaGreatDoorV02
import Derived.Deep.RegionHeld3
import Derived.Test.YtofnchdijanikaaGreatDoorV01
set_option linter.unusedVariables false
set_option linter.unusedSimpArgs false
set_option maxRecDepth 100000
namespace Go.Proofs.YtofnchdijanikaaGreatDoor
open Go.RowKit
set_option maxHeartbeats 16000000 in
theorem implBPages_any (b : DBook) (hv : bookB b = true) (v : Value) (w : World) (h : BookR w v b) : Calls Tryz.prog 38 #[v] w (BPPost b w) := by
 have hok := bookB_true hv
 obtain ⟨pv, qv, rfl, hp, hq⟩ := h
 obtain ⟨bw, hbw⟩ : ∃ x, x = b.w := ⟨_, rfl⟩
 obtain ⟨bm, hbm⟩ : ∃ x, x = b.most := ⟨_, rfl⟩
 obtain ⟨L, hL⟩ : ∃ L : Nat, (L : Int) = b.lines := ⟨b.lines.toNat, by have := hok.lines; omega⟩
 have hL2 : 1 ≤ L ∧ L ≤ 30 := by have := hok.lines; omega
 obtain ⟨pa, pl, pc, rfl⟩ : ∃ a l c, pv = .slice a l c := by obtain ⟨va, vc, e, _⟩ := ss_idx hp; exact ⟨_, _, _, e⟩
 obtain ⟨qa, ql, qc, rfl⟩ : ∃ a l c, qv = .slice a l c := by obtain ⟨a, c, e, _⟩ := hq; exact ⟨_, _, _, e⟩
 have BR0 : ∀ w', Below w.heap.size w w' → BookR w' (.agg #[.slice pa pl pc, .slice qa ql qc, .int .i64 b.w, .int .i64 b.most, .int .i64 b.lines]) b := fun w' hb => BookR.below ⟨_, _, rfl, hp, hq⟩ hb
 rw [← hbw, ← hbm, ← hL] at BR0 ⊢
 have A0 : Below w.heap.size w (w.alloc (.cells #[.slice pa pl pc, .slice qa ql qc, .int .i64 bw, .int .i64 bm, .int .i64 L] 27)) := (Below.refl _ _).alloc nR _
 have AW := hQ A0
 have C4 : Hid ((w.alloc (.cells #[.slice pa pl pc, .slice qa ql qc, .int .i64 bw, .int .i64 bm, .int .i64 L] 27)).cell? ⟨w.heap.size, 4, none⟩ = some (.int .i64 L)) := (box5 w 27 _ _ _ _ _).2.2.2.2
 have BLH := hQ (implBLines_any b hv _ (w.alloc (.cells #[.slice pa pl pc, .slice qa ql qc, .int .i64 bw, .int .i64 bm, .int .i64 L] 27)) (BR0 _ A0))
 have HL := hQ hL
 clear A0 BR0 hp hq hbw hbm hL
 cases hbl : bookL b with
 | none =>
  have E := hQ (bookP_none hbl)
  have BLN : Hid (Calls Tryz.prog 64 #[.agg #[.slice pa pl pc, .slice qa ql qc, .int .i64 bw, .int .i64 bm, .int .i64 L]] (w.alloc (.cells #[.slice pa pl pc, .slice qa ql qc, .int .i64 bw, .int .i64 bm, .int .i64 L] 27)) fun e w' => ∃ v c, e = .returned (.tuple #[v, c, .bool false]) ∧ Below (w.alloc (.cells #[.slice pa pl pc, .slice qa ql qc, .int .i64 bw, .int .i64 bm, .int .i64 L] 27)).heap.size (w.alloc (.cells #[.slice pa pl pc, .slice qa ql qc, .int .i64 bw, .int .i64 bm, .int .i64 L] 27)) w') := BLH.out.mono fun e w' ⟨v, c, he, _, _, hb⟩ => ⟨v, c, by rw [he, hbl]; rfl, hb⟩
  clear BLH hbl
  go_enter Tryz.func38, Tryz.ntmps38
  go_wp2_with (go_at_call 64; refine BLN.out.mono ?_; rintro e w2 ⟨v2, c2, rfl, hb2⟩)
  go_ret2
  exact ⟨_, [], by rw [E.out]; rfl, by rw [E.out]; exact OwnSU.nil _ _ _, below_next AW.out hb2 nR⟩
 | some ls =>
  have BTL := bookTo_len _ ls hbl
  have hcs : ∀ c ∈ counts ls, 1 ≤ c := by
   intro c hc
   unfold counts at hc
   rw [List.mem_map] at hc
   obtain ⟨l, hl, rfl⟩ := hc
   exact (BTL.2.1 l hl).1
  have hsum := BTL.2.2.1
  have EO := hQ (fun h => bookP_over hbl h)
  have EB := hQ (fun h => bookP_bad (L := L) hbl HL.out h)
  have EG := hQ (fun h30 t h => bookP_good (L := L) (t := t) hbl h30 HL.out h)
  have hlen4 : ls.flatten.length ≤ 4000000 := by have := BTL.2.2.2; have := hok.six; omega
  have hcl : (counts ls).length = ls.length := by unfold counts; simp
  obtain ⟨T, hT⟩ : ∃ T, T = ls.flatten := ⟨_, rfl⟩
  obtain ⟨cs, hcs2⟩ : ∃ cs, cs = counts ls := ⟨_, rfl⟩
  have BLN : Hid (Calls Tryz.prog 64 #[.agg #[.slice pa pl pc, .slice qa ql qc, .int .i64 bw, .int .i64 bm, .int .i64 L]] (w.alloc (.cells #[.slice pa pl pc, .slice qa ql qc, .int .i64 bw, .int .i64 bm, .int .i64 L] 27)) fun e w' => ∃ z n c v, e = .returned (.tuple #[.slice z n c, v, .bool true]) ∧ T.length = n ∧ OwnT w' (w.alloc (.cells #[.slice pa pl pc, .slice qa ql qc, .int .i64 bw, .int .i64 bm, .int .i64 L] 27)).heap.size (.slice z n c) T ∧ OwnI w' (w.alloc (.cells #[.slice pa pl pc, .slice qa ql qc, .int .i64 bw, .int .i64 bm, .int .i64 L] 27)).heap.size v (ints cs) ∧ Below (w.alloc (.cells #[.slice pa pl pc, .slice qa ql qc, .int .i64 bw, .int .i64 bm, .int .i64 L] 27)).heap.size (w.alloc (.cells #[.slice pa pl pc, .slice qa ql qc, .int .i64 bw, .int .i64 bm, .int .i64 L] 27)) w') := BLH.out.mono fun e w' ⟨v, c, he, h1, h2, hb⟩ => by
   rw [hbl] at he h1 h2
   simp only [Option.getD_some] at h1 h2
   rw [← hT] at h1
   rw [← hcs2] at h2
   obtain ⟨z, c', rfl⟩ := own_form h1
   exact ⟨z, _, c', c, he, rfl, h1, h2, hb⟩
  rw [← hT, ← hcs2] at EG
  rw [← hcs2] at EB hcs hsum
  rw [← hT] at EO hsum hlen4
  clear BLH hbl BTL hT hcl hcs2
  obtain ⟨N, hN⟩ : ∃ N, N = T.length := ⟨_, rfl⟩
  rw [← hN] at BLN EO hlen4 hsum EG
  by_cases h30 : N ≤ 30
  ·have h30' : ¬ (30 : Int) < (N : Int) := by omega
   have hk30 : (keeps cs).length ≤ 30 := by rw [keeps_len]; omega
   have HKN : Hid ((keeps cs).length = N) := by show _ = _; rw [keeps_len]; omega
   have PR := hQ (fun v w' (h : IRow w' v (ints cs)) => implPRows_any v cs hcs (by omega) w' h)
   have BP := hQ (fun B v w' (h : OwnR w' B v (keeps cs)) => pagesR_impl v (keeps cs) L w' h hk30 hL2)
   have HNN := hQ hN
   clear hsum hcs hN hk30
   go_enter Tryz.func38, Tryz.ntmps38
   go_wp2_with (go_at_call 64; refine BLN.out.mono ?_; rintro e w2 ⟨z9, n9, c9, v2, rfl, rfl, o9, oc, hb2⟩; have HO9 := hQ o9; have HOC := hQ oc; have k4 := keepc C4.out hb2; have B2 := hQ (below_next AW.out hb2 nR))
   have kk := (show w2.drew.cell? ⟨w.heap.size, 4, none⟩ = some (.int .i64 L) from k4)
   have PRH := hQ (PR.out v2 w2.drew (IRow.below (OwnI.row HOC.out) ((Below.refl _ _).drew)))
   clear k4
   cases hbp : bestP (keeps cs) L with
   | none =>
    have E := hQ (EB.out hbp)
    have BPN : Hid (∀ B v w', OwnR w' B v (keeps cs) → Calls Tryz.prog 65 #[v, .int .i64 L] w' fun e w6 => ∃ v6, e = .returned (.tuple #[v6, .bool false]) ∧ Below w'.heap.size w' w6) := fun B v w' h => (BP.out B v w' h).mono fun e w6 ⟨v6, he, _, hb⟩ => ⟨v6, by rw [he, hbp]; rfl, hb⟩
    clear hbp BP EB EG
    go_region_held3 (fun w' => w'.cell? ⟨w.heap.size, 4, none⟩ = some (.int .i64 L)) (first | with_reducible exact kk | with_reducible exact kk5 | with_reducible exact kk6) (first | (go_at_call 66; refine PRH.out.mono ?_; rintro e w5 ⟨v5, rfl, o5, hb5⟩; obtain ⟨z5, c5, rfl⟩ := ownR_form o5; have BPH := hQ (BPN.out _ _ w5 o5); with_reducible have kk5 := keepc kk hb5) | (go_at_call 65; refine BPH.out.mono ?_; rintro e w6 ⟨v6, rfl, hb6⟩; with_reducible have kk6 := keepc kk5 hb6))
    go_wp2_with fail
    go_ret2
    exact ⟨_, [], by rw [E.out]; rfl, by rw [E.out]; exact OwnSU.nil _ _ _, below_next B2.out (below_next ((Below.refl _ _).drew) (below_next hb5 hb6 nR) nR) nR⟩
   | some t =>
    have E := hQ (EG.out h30 t hbp)
    have HE0 := bestP_ends hbp
    have HE := hQ (show Ends N 0 t by have := HE0.1; rw [HKN.out] at this; exact this)
    have BPS : Hid (∀ B v w', OwnR w' B v (keeps cs) → Calls Tryz.prog 65 #[v, .int .i64 L] w' fun e w6 => ∃ z n c, e = .returned (.tuple #[.slice z n c, .bool true]) ∧ t.length = n ∧ OwnI w6 w'.heap.size (.slice z n c) (ints t) ∧ Below w'.heap.size w' w6) := fun B v w' h => (BP.out B v w' h).mono fun e w6 ⟨v6, he, ho, hb⟩ => by
     rw [hbp] at he ho
     simp only [Option.getD_some] at ho
     obtain ⟨z, c, rfl⟩ := ownI_form ho
     exact ⟨z, _, c, he, by simp [ints], ho, hb⟩
    have tl : t.length ≤ 30 := by have := HE0.2; have := HKN.out; omega
    have TA := hQ (show t.take t.length = t from List.take_length)
    have CT := hQ (fun k (hk : k < t.length) => cutP_take T t 0 k hk)
    have EA := hQ (fun k (hk : k < t.length) => ends_at t 0 k HE.out hk)
    have TG := hQ (fun k => ints_getN t k)
    have CL := hQ (fun k => cutP_len T (t.take k) 0)
    obtain ⟨n, hn⟩ : ∃ n, n = t.length := ⟨_, rfl⟩
    rw [← hn] at BPS tl TA CT EA
    have HLN : Hid (n = t.length) := hn
    clear hbp BP EB EG HE0 hn
    go_region_held3 (fun w' => w'.cell? ⟨w.heap.size, 4, none⟩ = some (.int .i64 L)) (first | with_reducible exact kk | with_reducible exact kk5 | with_reducible exact kk6) (first | (go_at_call 66; refine PRH.out.mono ?_; rintro e w5 ⟨v5, rfl, o5, hb5⟩; obtain ⟨z5, c5, rfl⟩ := ownR_form o5; have BPH := hQ (BPS.out _ _ w5 o5); with_reducible have kk5 := keepc kk hb5) | (go_at_call 65; refine BPH.out.mono ?_; rintro e w6 ⟨z6, n6, c6, rfl, rfl, o6, hb6⟩; have HO6 := hQ o6; with_reducible have kk6 := keepc kk5 hb6))
    have B6 := hQ (below_next ((Below.refl w2.heap.size w2).drew) (below_next hb5 hb6 nR) nR)
    have BW := hQ (below_next B2.out B6.out nR)
    have S6 := hQ BW.out.size
    have U0 := hQ (OwnSU.nil w6 w6.heap.size w6.heap.size)
    have HI : Hid (∀ k, k < n → ∃ b1 o1, z6 = some ⟨b1, o1, none⟩ ∧ b1 < w6.heap.size ∧ w6.cell? ⟨b1, o1 + k, none⟩ = some (.int .i64 ((t.getD k 0 : Nat) : Int))) := fun k hk => by
     obtain ⟨z, c, e, _, hc⟩ := OwnI.row HO6.out
     obtain ⟨b1, o1, e1, c1⟩ := hc k (by rw [ints_len, ← HLN.out]; exact hk)
     injection e with e2 e3 e4
     rw [TG.out] at c1
     exact ⟨b1, o1, e2.trans e1, World.block_lt_of_cell? w6 _ c1, c1⟩
    have HX : Hid (∀ wr, Below w6.heap.size w6 wr → ∀ a u, a < u → u ≤ N → ∃ g, z9 = some ⟨g, 0, none⟩ ∧ N ≤ c9 ∧ ∀ c', TxtS wr (.slice (some ⟨g, a, none⟩) (u - a) c') ((T.drop a).take (u - a))) := fun wr hb a u h1 h2 => by
     obtain ⟨g, cap, e, hc⟩ := own_cells HO9.out (by rw [← HNN.out]; omega)
     injection e with e2 e3 e4
     have hr := (OwnT.row HO9.out).below (below_next B6.out hb nR)
     rw [e2] at hr
     refine ⟨g, e2, by rw [HNN.out, e4]; exact hc, fun c' => ?_⟩
     have := txt_part hr a u c' (by omega) (by rw [← HNN.out]; exact h2)
     rw [Nat.zero_add] at this
     exact this
    clear kk kk5 kk6 hb5 hb6 PRH BPH
    go_wp2_with fail
    go_loopw [8, 9, 37] (fun v fr i wr => ∃ (k : Nat) (us : List Value), k ≤ n ∧ i = .int .i64 k ∧ fr = .int .i64 (((0 :: t).getD k 0 : Nat) : Int) ∧ Hid (OwnSU wr w6.heap.size wr.heap.size v (cutP T 0 (t.take k)) us) ∧ Hid (Below w6.heap.size w6 wr)) (fun _ _ i _ => n - (intOf i).toNat)
    case atStart => exact ⟨0, [], Nat.zero_le _, rfl, rfl, U0.out, Below.refl _ _⟩
    case round =>
     obtain ⟨k, us, hk, rfl, rfl, h1, h2⟩ := hrel
     clear U0
     by_cases hkn : k < n
     ·have hkn' : (k : Int) < (n : Int) := by omega
      obtain ⟨b1, o1, rfl, b2, c1⟩ := HI.out k hkn
      have c2 := (h2.out.cell (p := ⟨b1, o1 + k, none⟩) b2).trans c1
      obtain ⟨au, uN⟩ := EA.out k hkn
      have CTk := hQ (CT.out k hkn)
      have NX : Hid ((0 :: t).getD (k + 1) 0 = t.getD k 0) := rfl
      have CLk : (cutP T 0 (t.take k)).length ≤ 4000000 := by have := CL.out k; rw [List.length_take] at this; omega
      obtain ⟨a, ha⟩ : ∃ a, a = (0 :: t).getD k 0 := ⟨_, rfl⟩
      obtain ⟨u, hu⟩ : ∃ u, u = t.getD k 0 := ⟨_, rfl⟩
      rw [← ha, ← hu] at au CTk
      rw [← hu] at uN c2 NX
      rw [← ha]
      obtain ⟨g, rfl, nc, hx⟩ := HX.out wr h2.out a u au uN
      have HXX := hQ hx
      have au2 : (a : Int) ≤ (u : Int) := by omega
      have uc : (u : Int) ≤ (c9 : Int) := by omega
      have na : ¬ c9 = a := by omega
      have YL : ((T.drop a).take (u - a)).length ≤ 4000000 := by rw [List.length_take]; omega
      have N0 := OwnT.nil wr wr.heap.size
      obtain ⟨X, hX⟩ : ∃ X, X = cutP T 0 (t.take k) := ⟨_, rfl⟩
      obtain ⟨p, hp⟩ : ∃ p, p = (T.drop a).take (u - a) := ⟨_, rfl⟩
      rw [← hX] at CLk h1 CTk
      rw [← hp] at CTk HXX YL
      clear c1 hX hp hx ha hu hkn
      go_wp2_with (first | (at_builtin; refine append_strs wr wr rfl _ _ rfl wr.heap.size (.slice none 0 0) [] p (.slice (some ⟨g, a, none⟩) (u - a) (c9 - a)) rfl rfl N0 (HXX.out _) (fun c n e => by injection e with e1; cases e1) (by decide) YL nR (Below.refl _ _) ?_; intro v1 w7 ho1 hb7 hm1 hg1; obtain ⟨z, zc, rfl⟩ := own_form ho1; have D1 := hQ (moved_nil hm1); have U5 := hQ (h1.out.below hb7); have B7 := hQ (below_next h2.out hb7 nR); have P5 := hQ (ho1.mono (show w6.heap.size ≤ wr.heap.size from h2.out.size)); have S7 := hQ hb7.size) | (at_builtin; refine append_ss w6 w7 rfl _ _ rfl w6.heap.size wr.heap.size u8 X us z p.length zc p rfl rfl U5.out S7.out P5.out D1.out CLk nR B7.out ?_; intro v' w8 hown2 hbel2 hmv2 hgr2))
      first
       | exact ⟨⟨k + 1, us ++ [.slice z p.length zc], by omega, by go_num, by rw [NX.out], by rw [CTk.out]; exact hown2, hbel2⟩, by (simp [intOf]) <;> omega⟩
       | (go_roundw
          case rel => exact ⟨k + 1, us ++ [.slice z p.length zc], by omega, by go_num, by rw [NX.out], by rw [CTk.out]; exact hown2, hbel2⟩
          case measure => (simp [intOf]) <;> omega)
     ·obtain rfl : k = n := by omega
      have TAK := TA.out
      have HF : Hid (OwnSU wr w.heap.size wr.heap.size u8 (cutP T 0 t) us) := by
       have := h1.out.mono S6.out
       rw [TAK] at this
       exact this
      go_wp2_with fail
      go_ret2
      exact ⟨_, us, by rw [E.out]; rfl, by rw [E.out]; exact HF.out, below_next BW.out h2.out nR⟩
  ·have h30' : (30 : Int) < (N : Int) := by omega
   have E := hQ (EO.out (by omega))
   go_enter Tryz.func38, Tryz.ntmps38
   go_wp2_with (go_at_call 64; refine BLN.out.mono ?_; rintro e w2 ⟨z9, n9, c9, v2, rfl, rfl, o9, oc, hb2⟩; have B2 := hQ (below_next AW.out hb2 nR))
   go_ret2
   exact ⟨_, [], by rw [E.out]; rfl, by rw [E.out]; exact OwnSU.nil _ _ _, B2.out⟩
end Go.Proofs.YtofnchdijanikaaGreatDoor
namespace Go.Proofs.YtofnchdijanikaaGreatDoor
open Go.RowKit
structure BG (w : World) (B hi : Nat) (v : Value) (xss : List (List (List UInt8))) (us : List Value) (lv : Value) (T : List (List UInt8)) (ev : Value) (t : List Int) : Prop where
 u : OwnSU w B hi v xss us
 l : OwnT w B lv T
 e : OwnI w B ev t
 a1 : ∀ k, v.ownBlock = some k → lv.ownBlock ≠ some k
 a2 : ∀ k, v.ownBlock = some k → ev.ownBlock ≠ some k
section
variable {w w' : World} {B hi : Nat} {v v' lv ev : Value} {xss yss : List (List (List UInt8))} {us us' : List Value} {T : List (List UInt8)} {t : List Int}
theorem BG.below (h : BG w B hi v xss us lv T ev t) (hb : Below w.heap.size w w') : BG w' B hi v xss us lv T ev t :=
 ⟨h.u.below hb, owns_below h.l hb, owns_below h.e hb, h.a1, h.a2⟩
theorem BG.add {o : Obj} (h : BG w B hi v xss us lv T ev t) (hmv : Moved (w.alloc o) v v') (hg : w.grownBy w' v.ownBlock) (hn : OwnSU w' B w'.heap.size v' yss us') : BG w' B w'.heap.size v' yss us' lv T ev t := by
 refine ⟨hn, World.ownsRow.kept h.l hg ?_, World.ownsRow.kept h.e hg ?_, fun k h1 h2 => ?_, fun k h1 h2 => ?_⟩
 ·cases hl : lv.ownBlock with
  | none => exact .inl rfl
  | some k => exact .inr fun e => h.a1 k e.symm hl
 ·cases hl : ev.ownBlock with
  | none => exact .inl rfl
  | some k => exact .inr fun e => h.a2 k e.symm hl
 ·exact moved_alloc hmv (g := k) (fun e => h.a1 k e.symm h2) (World.ownsRow.lt h.l k h2).2 h1.symm
 ·exact moved_alloc hmv (g := k) (fun e => h.a2 k e.symm h2) (World.ownsRow.lt h.e k h2).2 h1.symm
end
theorem ownI_cell {w : World} {B b o n c k : Nat} {t : List Nat} (h : OwnI w B (.slice (some ⟨b, o, none⟩) n c) (ints t)) (hk : k < t.length) : w.cell? ⟨b, o + k, none⟩ = some (.int .i64 ((t.getD k 0 : Nat) : Int)) := by
 obtain ⟨z, c', e, _, hc⟩ := OwnI.row h
 obtain ⟨b1, o1, e1, c1⟩ := hc k (by rw [ints_len]; exact hk)
 injection e with e2 e3 e4
 rw [ints_getN] at c1
 rw [e1] at e2
 injection e2 with e5
 injection e5 with e6 e7
 rw [e6, e7]
 exact c1
theorem ownI_some {w : World} {B n c k : Nat} {z : Option Addr} {t : List Nat} (h : OwnI w B (.slice z n c) (ints t)) (hk : k < t.length) : ∃ b o, z = some ⟨b, o, none⟩ := by
 obtain ⟨z', c', e, _, hc⟩ := OwnI.row h
 obtain ⟨b1, o1, e1, c1⟩ := hc k (by rw [ints_len]; exact hk)
 injection e with e2 e3 e4
 exact ⟨b1, o1, e2.trans e1⟩
theorem own_part {w : World} {B N c : Nat} {z : Option Addr} {T : List (List UInt8)} (h : OwnT w B (.slice z N c) T) (hN : N = T.length) {a u : Nat} (h1 : a < u) (h2 : u ≤ N) : ∃ g, z = some ⟨g, 0, none⟩ ∧ N ≤ c ∧ ∀ c', TxtS w (.slice (some ⟨g, a, none⟩) (u - a) c') ((T.drop a).take (u - a)) := by
 obtain ⟨g, cap, e, hc⟩ := own_cells h (by omega)
 injection e with e2 e3 e4
 have hr := OwnT.row h
 rw [e2] at hr
 refine ⟨g, e2, by omega, fun c' => ?_⟩
 have := txt_part hr a u c' (by omega) (by omega)
 rw [Nat.zero_add] at this
 exact this
set_option maxHeartbeats 16000000 in
theorem specBPages_any (b : DBook) (hv : bookB b = true) (v : Value) (w : World) (h : BookR w v b) (hz : BookN v) : Calls Tryz.prog 32 #[v] w (BPPost b w) := by
 have hok := bookB_true hv
 obtain ⟨pv, qv, rfl, hp, hq⟩ := h
 obtain ⟨bw, hbw⟩ : ∃ x, x = b.w := ⟨_, rfl⟩
 obtain ⟨bm, hbm⟩ : ∃ x, x = b.most := ⟨_, rfl⟩
 obtain ⟨L, hL⟩ : ∃ L : Nat, (L : Int) = b.lines := ⟨b.lines.toNat, by have := hok.lines; omega⟩
 have hL2 : 1 ≤ L ∧ L ≤ 30 := by have := hok.lines; omega
 obtain ⟨pa, pl, pc, rfl⟩ : ∃ a l c, pv = .slice a l c := by obtain ⟨va, vc, e, _⟩ := ss_idx hp; exact ⟨_, _, _, e⟩
 obtain ⟨qa, ql, qc, rfl⟩ : ∃ a l c, qv = .slice a l c := by obtain ⟨a, c, e, _⟩ := hq; exact ⟨_, _, _, e⟩
 have BR0 : ∀ w', Below w.heap.size w w' → BookR w' (.agg #[.slice pa pl pc, .slice qa ql qc, .int .i64 b.w, .int .i64 b.most, .int .i64 b.lines]) b := fun w' hb => BookR.below ⟨_, _, rfl, hp, hq⟩ hb
 rw [← hbw, ← hbm, ← hL] at BR0 hz ⊢
 have A0 : Below w.heap.size w (w.alloc (.cells #[.slice pa pl pc, .slice qa ql qc, .int .i64 bw, .int .i64 bm, .int .i64 L] 27)) := (Below.refl _ _).alloc nR _
 have AW := hQ A0
 have RB := hQ (own5_made w (B := w.heap.size) nR BoxT (.slice pa pl pc) (.slice qa ql qc) (.int .i64 bw) (.int .i64 bm) (.int .i64 L))
 have OBS : Hid (Calls Tryz.prog 59 #[.agg #[.slice pa pl pc, .slice qa ql qc, .int .i64 bw, .int .i64 bm, .int .i64 L]] (w.alloc (.cells #[.slice pa pl pc, .slice qa ql qc, .int .i64 bw, .int .i64 bm, .int .i64 L] 27)) fun e w2 => ∃ za la ca zb lb cb us2, e = .returned (.agg #[.slice za la ca, .slice zb lb cb, .int .i64 bw, .int .i64 bm, .int .i64 L]) ∧ OwnB w2 (w.alloc (.cells #[.slice pa pl pc, .slice qa ql qc, .int .i64 bw, .int .i64 bm, .int .i64 L] 27)).heap.size w2.heap.size (.slice za la ca) (.slice zb lb cb) us2 b ∧ Below (w.alloc (.cells #[.slice pa pl pc, .slice qa ql qc, .int .i64 bw, .int .i64 bm, .int .i64 L] 27)).heap.size (w.alloc (.cells #[.slice pa pl pc, .slice qa ql qc, .int .i64 bw, .int .i64 bm, .int .i64 L] 27)) w2) := by
  refine Calls.mono (ownBook_any b hv _ (w.alloc (.cells #[.slice pa pl pc, .slice qa ql qc, .int .i64 bw, .int .i64 bm, .int .i64 L] 27)) (BR0 _ A0) (fun p q x y z e => hz p q x y z e)) ?_
  rintro e w2 ⟨pv2, qv2, us2, rfl, ho, hb⟩
  obtain ⟨za, ca, rfl⟩ := ho.p.form
  obtain ⟨zb, cb, rfl⟩ := own_form ho.q
  exact ⟨za, _, ca, zb, _, cb, us2, by unfold bookV; rw [← hbw, ← hbm, ← hL], ho, hb⟩
 have BLH := hQ (fun v w' h => specBLines_any b hv v w' h)
 have HL := hQ hL
 have VB : Hid (∀ x y, Value.agg #[x, y, .int .i64 bw, .int .i64 bm, .int .i64 L] = bookV x y b) := fun x y => by unfold bookV; rw [← hbw, ← hbm, ← hL]
 clear A0 BR0 hp hq hbw hbm hL hz
 cases hbl : bookL b with
 | none =>
  have E := hQ (bookP_none hbl)
  have BLN : Hid (∀ v w0, BookR w0 v b → Calls Tryz.prog 60 #[v] w0 fun e w' => ∃ v c, e = .returned (.tuple #[v, c, .bool false]) ∧ Below w0.heap.size w0 w') := fun v w0 h => (BLH.out v w0 h).mono fun e w' ⟨v, c, he, _, _, hb⟩ => ⟨v, c, by rw [he, hbl]; rfl, hb⟩
  clear BLH hbl
  go_enter Tryz.func32, Tryz.ntmps32
  go_upto_region 2 with (go_at_call 59; refine OBS.out.mono ?_; rintro e w2 ⟨za, la, ca, zb, lb, cb, us2, rfl, hob, hb2⟩; have OB2 := hQ hob; have R2 := hQ (owns_below RB.out hb2); have B2 := hQ (below_next AW.out hb2 nR); obtain ⟨e0, e1, e2, e3, e4⟩ := own5 R2.out; obtain ⟨m0, m1, m2, m3, m4⟩ := fz5 R2.out; have FF := hQ (own5_set R2.out (.slice za la ca) (.slice zb lb cb) (.int .i64 bw) (.int .i64 bm) (.int .i64 L)))
  obtain ⟨ws, hws⟩ : ∃ ws, ws = (((((w2.setCell ⟨w.heap.size, 0, none⟩ (.slice za la ca)).setCell ⟨w.heap.size, 1, none⟩ (.slice zb lb cb)).setCell ⟨w.heap.size, 2, none⟩ (.int .i64 bw)).setCell ⟨w.heap.size, 3, none⟩ (.int .i64 bm)).setCell ⟨w.heap.size, 4, none⟩ (.int .i64 L)) := ⟨_, rfl⟩
  rw [← hws] at FF ⊢
  have BS := hQ (B2.out.grown FF.out.2 B2.out.size (fun k hk => by cases hk; exact nR))
  have OP := OB2.out.p.grown FF.out.2 (fun k hk => by cases hk; left; simp)
  have OQ : OwnT ws (w.alloc (.cells #[.slice pa pl pc, .slice qa ql qc, .int .i64 bw, .int .i64 bm, .int .i64 L] 27)).heap.size (.slice zb lb cb) b.pats := World.ownsRow.kept OB2.out.q FF.out.2 (by
   cases hl : (Value.slice zb lb cb).ownBlock with
   | none => exact .inl rfl
   | some k =>
    have h1 := (World.ownsRow.lt OB2.out.q k hl).1
    rw [World.size_alloc] at h1
    exact .inr fun e => absurd (Option.some.inj e) (by omega))
  have AO := hQ ((Below.refl ws.heap.size ws).alloc nR (.cells #[] 23))
  have BRO : Hid (BookR (ws.alloc (.cells #[] 23)) (.agg #[.slice za la ca, .slice zb lb cb, .int .i64 bw, .int .i64 bm, .int .i64 L]) b) := by
   show BookR _ _ _
   rw [VB.out]
   exact BookR.below ⟨_, _, rfl, OP.read, OQ.row⟩ AO.out
  have BO := hQ (below_next BS.out AO.out nR)
  obtain ⟨x0, x1, x2, x3, x4⟩ := own5 (FF.out.1.alloc (.cells #[] 23))
  have U0 : Hid (OwnSU (ws.alloc (.cells #[] 23)) w.heap.size (ws.alloc (.cells #[] 23)).heap.size (.slice (some ⟨ws.heap.size, 0, none⟩) 0 0) [] []) := (OwnSU.made ws BS.out.size).wider (by simp)
  clear hws e0 e1 e2 e3 e4 m0 m1 m2 m3 m4 FF OP OQ OB2 R2 hb2 hob OBS
  go_wp2_with (go_at_call 60; refine (BLN.out _ _ BRO.out).mono ?_; rintro e w3 ⟨v3, c3, rfl, hb3⟩)
  go_ret2
  exact ⟨_, [], by rw [E.out]; rfl, by rw [E.out]; exact (U0.out.below hb3).wider hb3.size, below_next BO.out hb3 nR⟩
 | some ls =>
  have BTL := bookTo_len _ ls hbl
  have hcs : ∀ c ∈ counts ls, 1 ≤ c := by
   intro c hc
   unfold counts at hc
   rw [List.mem_map] at hc
   obtain ⟨l, hl, rfl⟩ := hc
   exact (BTL.2.1 l hl).1
  have hsum := BTL.2.2.1
  have EO := hQ (fun h => bookP_over hbl h)
  have EB := hQ (fun h => bookP_bad (L := L) hbl HL.out h)
  have EG := hQ (fun h30 t h => bookP_good (L := L) (t := t) hbl h30 HL.out h)
  have hlen4 : ls.flatten.length ≤ 4000000 := by have := BTL.2.2.2; have := hok.six; omega
  have hcl : (counts ls).length = ls.length := by unfold counts; simp
  obtain ⟨T, hT⟩ : ∃ T, T = ls.flatten := ⟨_, rfl⟩
  obtain ⟨cs, hcs2⟩ : ∃ cs, cs = counts ls := ⟨_, rfl⟩
  have BLN : Hid (∀ v w0, BookR w0 v b → Calls Tryz.prog 60 #[v] w0 fun e w' => ∃ z n c v, e = .returned (.tuple #[.slice z n c, v, .bool true]) ∧ T.length = n ∧ OwnT w' w0.heap.size (.slice z n c) T ∧ OwnI w' w0.heap.size v (ints cs) ∧ Below w0.heap.size w0 w') := fun v w0 h => (BLH.out v w0 h).mono fun e w' ⟨v, c, he, h1, h2, hb⟩ => by
   rw [hbl] at he h1 h2
   simp only [Option.getD_some] at h1 h2
   rw [← hT] at h1
   rw [← hcs2] at h2
   obtain ⟨z, c', rfl⟩ := own_form h1
   exact ⟨z, _, c', c, he, rfl, h1, h2, hb⟩
  rw [← hT, ← hcs2] at EG
  rw [← hcs2] at EB hcs hsum
  rw [← hT] at EO hsum hlen4
  clear BLH hbl BTL hT hcl hcs2
  obtain ⟨N, hN⟩ : ∃ N, N = T.length := ⟨_, rfl⟩
  rw [← hN] at BLN EO hlen4 hsum EG
  by_cases h30 : N ≤ 30
  ·have h30' : ¬ (30 : Int) < (N : Int) := by omega
   have hk30 : (keeps cs).length ≤ 30 := by rw [keeps_len]; omega
   have HKN : Hid ((keeps cs).length = N) := by show _ = _; rw [keeps_len]; omega
   have PR := hQ (fun v w' (h : IRow w' v (ints cs)) => specPRows_any v cs hcs (by omega) w' h)
   have BP := hQ (fun B v w' (h : OwnR w' B v (keeps cs)) => pagesR_spec v (keeps cs) L w' h hk30 hL2)
   have HNN := hQ hN
   clear hsum hcs hN hk30
   go_enter Tryz.func32, Tryz.ntmps32
   go_upto_region 2 with (go_at_call 59; refine OBS.out.mono ?_; rintro e w2 ⟨za, la, ca, zb, lb, cb, us2, rfl, hob, hb2⟩; have OB2 := hQ hob; have R2 := hQ (owns_below RB.out hb2); have B2 := hQ (below_next AW.out hb2 nR); obtain ⟨e0, e1, e2, e3, e4⟩ := own5 R2.out; obtain ⟨m0, m1, m2, m3, m4⟩ := fz5 R2.out; have FF := hQ (own5_set R2.out (.slice za la ca) (.slice zb lb cb) (.int .i64 bw) (.int .i64 bm) (.int .i64 L)))
   obtain ⟨ws, hws⟩ : ∃ ws, ws = (((((w2.setCell ⟨w.heap.size, 0, none⟩ (.slice za la ca)).setCell ⟨w.heap.size, 1, none⟩ (.slice zb lb cb)).setCell ⟨w.heap.size, 2, none⟩ (.int .i64 bw)).setCell ⟨w.heap.size, 3, none⟩ (.int .i64 bm)).setCell ⟨w.heap.size, 4, none⟩ (.int .i64 L)) := ⟨_, rfl⟩
   rw [← hws] at FF ⊢
   have BS := hQ (B2.out.grown FF.out.2 B2.out.size (fun k hk => by cases hk; exact nR))
   have OP := OB2.out.p.grown FF.out.2 (fun k hk => by cases hk; left; simp)
   have OQ : OwnT ws (w.alloc (.cells #[.slice pa pl pc, .slice qa ql qc, .int .i64 bw, .int .i64 bm, .int .i64 L] 27)).heap.size (.slice zb lb cb) b.pats := World.ownsRow.kept OB2.out.q FF.out.2 (by
    cases hl : (Value.slice zb lb cb).ownBlock with
    | none => exact .inl rfl
    | some k =>
     have h1 := (World.ownsRow.lt OB2.out.q k hl).1
     rw [World.size_alloc] at h1
     exact .inr fun e => absurd (Option.some.inj e) (by omega))
   have AO := hQ ((Below.refl ws.heap.size ws).alloc nR (.cells #[] 23))
   have BRO : Hid (BookR (ws.alloc (.cells #[] 23)) (.agg #[.slice za la ca, .slice zb lb cb, .int .i64 bw, .int .i64 bm, .int .i64 L]) b) := by
    show BookR _ _ _
    rw [VB.out]
    exact BookR.below ⟨_, _, rfl, OP.read, OQ.row⟩ AO.out
   have BO := hQ (below_next BS.out AO.out nR)
   obtain ⟨x0, x1, x2, x3, x4⟩ := own5 (FF.out.1.alloc (.cells #[] 23))
   have U0 : Hid (OwnSU (ws.alloc (.cells #[] 23)) w.heap.size (ws.alloc (.cells #[] 23)).heap.size (.slice (some ⟨ws.heap.size, 0, none⟩) 0 0) [] []) := (OwnSU.made ws BS.out.size).wider (by simp)
   clear hws e0 e1 e2 e3 e4 m0 m1 m2 m3 m4 FF OP OQ OB2 R2 hb2 hob OBS
   go_wp2_with (go_at_call 60; refine (BLN.out _ _ BRO.out).mono ?_; rintro e w3 ⟨z9, n9, c9, v3, rfl, rfl, o9, oc, hb3⟩; have HO9 := hQ o9; have HOC := hQ oc; have k4 := keepc x4 hb3; have B3 := hQ (below_next BO.out hb3 nR); have U3 := hQ ((U0.out.below hb3).wider hb3.size))
   clear U0 x0 x1 x2 x3 x4 B2
   have kk := (show w3.drew.cell? ⟨w.heap.size, 4, none⟩ = some (.int .i64 L) from k4)
   have PRH := hQ (PR.out v3 w3.drew (IRow.below (OwnI.row HOC.out) ((Below.refl _ _).drew)))
   clear k4
   cases hbp : bestP (keeps cs) L with
   | none =>
    have E := hQ (EB.out hbp)
    have BPN : Hid (∀ B v w', OwnR w' B v (keeps cs) → Calls Tryz.prog 61 #[v, .int .i64 L] w' fun e w6 => ∃ v6, e = .returned (.tuple #[v6, .bool false]) ∧ Below w'.heap.size w' w6) := fun B v w' h => (BP.out B v w' h).mono fun e w6 ⟨v6, he, _, hb⟩ => ⟨v6, by rw [he, hbp]; rfl, hb⟩
    clear hbp BP EB EG
    go_region_held3 (fun w' => w'.cell? ⟨w.heap.size, 4, none⟩ = some (.int .i64 L)) (first | with_reducible exact kk | with_reducible exact kk5 | with_reducible exact kk6) (first | (go_at_call 62; refine PRH.out.mono ?_; rintro e w5 ⟨v5, rfl, o5, hb5⟩; obtain ⟨z5, c5, rfl⟩ := ownR_form o5; have BPH := hQ (BPN.out _ _ w5 o5); with_reducible have kk5 := keepc kk hb5) | (go_at_call 61; refine BPH.out.mono ?_; rintro e w6 ⟨v6, rfl, hb6⟩; with_reducible have kk6 := keepc kk5 hb6))
    go_wp2_with fail
    go_ret2
    have B6 := hQ (below_next ((Below.refl w3.heap.size w3).drew) (below_next hb5 hb6 nR) nR)
    exact ⟨_, [], by rw [E.out]; rfl, by rw [E.out]; exact (U3.out.below B6.out).wider B6.out.size, below_next B3.out B6.out nR⟩
   | some t =>
    have E := hQ (EG.out h30 t hbp)
    have HE0 := bestP_ends hbp
    have HE := hQ (show Ends N 0 t by have := HE0.1; rw [HKN.out] at this; exact this)
    have BPS : Hid (∀ B v w', OwnR w' B v (keeps cs) → Calls Tryz.prog 61 #[v, .int .i64 L] w' fun e w6 => ∃ z n c, e = .returned (.tuple #[.slice z n c, .bool true]) ∧ t.length = n ∧ OwnI w6 w'.heap.size (.slice z n c) (ints t) ∧ Below w'.heap.size w' w6) := fun B v w' h => (BP.out B v w' h).mono fun e w6 ⟨v6, he, ho, hb⟩ => by
     rw [hbp] at he ho
     simp only [Option.getD_some] at ho
     obtain ⟨z, c, rfl⟩ := ownI_form ho
     exact ⟨z, _, c, he, by simp [ints], ho, hb⟩
    have tl : t.length ≤ 30 := by have := HE0.2; have := HKN.out; omega
    have TA := hQ (show t.take t.length = t from List.take_length)
    have CT := hQ (fun k (hk : k < t.length) => cutP_take T t 0 k hk)
    have EA := hQ (fun k (hk : k < t.length) => ends_at t 0 k HE.out hk)
    have TG := hQ (fun k => ints_getN t k)
    have CL := hQ (fun k => cutP_len T (t.take k) 0)
    obtain ⟨n, hn⟩ : ∃ n, n = t.length := ⟨_, rfl⟩
    rw [← hn] at BPS tl TA CT EA
    have HLN : Hid (n = t.length) := hn
    clear hbp BP EB EG HE0 hn
    go_region_held3 (fun w' => w'.cell? ⟨w.heap.size, 4, none⟩ = some (.int .i64 L)) (first | with_reducible exact kk | with_reducible exact kk5 | with_reducible exact kk6) (first | (go_at_call 62; refine PRH.out.mono ?_; rintro e w5 ⟨v5, rfl, o5, hb5⟩; obtain ⟨z5, c5, rfl⟩ := ownR_form o5; have BPH := hQ (BPS.out _ _ w5 o5); with_reducible have kk5 := keepc kk hb5) | (go_at_call 61; refine BPH.out.mono ?_; rintro e w6 ⟨z6, n6, c6, rfl, rfl, o6, hb6⟩; have HO6 := hQ o6; with_reducible have kk6 := keepc kk5 hb6))
    have B6 := hQ (below_next ((Below.refl w3.heap.size w3).drew) (below_next hb5 hb6 nR) nR)
    have BW := hQ (below_next B3.out B6.out nR)
    have G0 : Hid (BG w6 w.heap.size w6.heap.size (.slice (some ⟨ws.heap.size, 0, none⟩) 0 0) [] [] (.slice z9 N c9) T (.slice z6 n c6) (ints t)) := by
     have S3 := hb3.size
     rw [World.size_alloc] at S3
     have S6 := (below_next ((Below.refl w3.heap.size w3).drew) hb5 nR).size
     refine ⟨(U3.out.below B6.out).wider B6.out.size, (owns_below HO9.out B6.out).mono (by have := BO.out.size; exact this), HO6.out.mono (by have := B3.out.size; omega), fun k h1 h2 => ?_, fun k h1 h2 => ?_⟩
     ·have e := Option.some.inj (show some ws.heap.size = some k from h1)
      have := (World.ownsRow.lt HO9.out k h2).1
      rw [World.size_alloc] at this
      omega
     ·have e := Option.some.inj (show some ws.heap.size = some k from h1)
      have := (World.ownsRow.lt HO6.out k h2).1
      omega
    clear kk kk5 kk6 hb5 hb6 PRH BPH U3 HO6 HO9 HOC B6 hb3 B3 BO BS AO
    go_wp2_with fail
    go_loopw [4, 10, 11] (fun v fr i wr => ∃ (k : Nat) (us : List Value), k ≤ n ∧ i = .int .i64 k ∧ fr = .int .i64 (((0 :: t).getD k 0 : Nat) : Int) ∧ Hid (BG wr w.heap.size wr.heap.size v (cutP T 0 (t.take k)) us (.slice z9 N c9) T (.slice z6 n c6) (ints t)) ∧ Hid (Below w.heap.size w wr)) (fun _ _ i _ => n - (intOf i).toNat)
    case atStart => exact ⟨0, [], Nat.zero_le _, rfl, rfl, G0.out, BW.out⟩
    case round =>
     obtain ⟨k, us, hk, rfl, rfl, h1, h2⟩ := hrel
     clear G0 BW
     by_cases hkn : k < n
     ·have hkn' : (k : Int) < (n : Int) := by omega
      obtain ⟨b1, o1, rfl⟩ := ownI_some h1.out.e (by rw [← HLN.out]; exact hkn)
      have AWR := hQ ((Below.refl wr.heap.size wr).alloc nR (.cells #[] 9))
      have CE := hQ (fun w' h => ownI_cell (w := w') (B := w.heap.size) (b := b1) (o := o1) (n := n) (c := c6) (t := t) h (by rw [← HLN.out]; exact hkn))
      obtain ⟨au, uN⟩ := EA.out k hkn
      have CTk := hQ (CT.out k hkn)
      have NX : Hid ((0 :: t).getD (k + 1) 0 = t.getD k 0) := rfl
      have CLk : (cutP T 0 (t.take k)).length ≤ 4000000 := by have := CL.out k; rw [List.length_take] at this; omega
      obtain ⟨a, ha⟩ : ∃ a, a = (0 :: t).getD k 0 := ⟨_, rfl⟩
      obtain ⟨u, hu⟩ : ∃ u, u = t.getD k 0 := ⟨_, rfl⟩
      rw [← ha, ← hu] at au CTk
      rw [← hu] at uN CE NX
      rw [← ha]
      have c1 := CE.out _ h1.out.e
      have c2 := keepc c1 AWR.out
      obtain ⟨g, rfl, nc, hx⟩ := own_part h1.out.l HNN.out au uN
      have HXX := hQ (fun c' => (hx c').below AWR.out)
      have au2 : (a : Int) ≤ (u : Int) := by omega
      have uc : (u : Int) ≤ (c9 : Int) := by omega
      have na : ¬ c9 = a := by omega
      have YL : ((T.drop a).take (u - a)).length ≤ 4000000 := by rw [List.length_take]; omega
      have N0 := OwnT.made wr (B := wr.heap.size) nR
      obtain ⟨X, hX⟩ : ∃ X, X = cutP T 0 (t.take k) := ⟨_, rfl⟩
      obtain ⟨p, hp⟩ : ∃ p, p = (T.drop a).take (u - a) := ⟨_, rfl⟩
      rw [← hX] at CLk h1 CTk
      rw [← hp] at CTk HXX YL
      have B0 := hQ h2.out.size
      clear hX hp hx ha hu hkn
      go_wp2_with (first | (at_builtin; refine append_strs wr (wr.alloc (.cells #[] 9)) rfl _ _ rfl wr.heap.size (.slice (some ⟨wr.heap.size, 0, none⟩) 0 0) [] p (.slice (some ⟨g, a, none⟩) (u - a) (c9 - a)) rfl rfl N0 (HXX.out _) (fun c n e => by injection e with e1; cases e1) (by decide) YL nR AWR.out ?_; intro v1 w7 ho1 hb7 hm1 hg1; obtain ⟨z, zc, rfl⟩ := own_form ho1; have D1 := hQ (fun k hk => (World.ownsRow.lt ho1 k hk).1); have G7 := hQ (h1.out.below hb7); have B7 := hQ (below_next h2.out hb7 nR); have P5 := hQ (ho1.mono B0.out); have S7 := hQ hb7.size) | (at_builtin; refine append_ss w w7 rfl _ _ rfl w.heap.size wr.heap.size u4 X us z p.length zc p rfl rfl G7.out.u S7.out P5.out D1.out CLk nR B7.out ?_; intro v' w8 hown2 hbel2 hmv2 hgr2; have G8 := hQ (G7.out.add hmv2 hgr2 hown2); have c8 := CE.out _ G8.out.e))
      first
       | exact ⟨⟨k + 1, us ++ [.slice z p.length zc], by omega, by go_num, by rw [NX.out], by rw [CTk.out]; exact G8.out, hbel2⟩, by (simp [intOf]) <;> omega⟩
       | (go_roundw
          case rel => exact ⟨k + 1, us ++ [.slice z p.length zc], by omega, by go_num, by rw [NX.out], by rw [CTk.out]; exact G8.out, hbel2⟩
          case measure => (simp [intOf]) <;> omega)
     ·obtain rfl : k = n := by omega
      have TAK := TA.out
      have HF : Hid (OwnSU wr w.heap.size wr.heap.size u4 (cutP T 0 t) us) := by
       have := h1.out.u
       rw [TAK] at this
       exact this
      go_wp2_with fail
      go_ret2
      exact ⟨_, us, by rw [E.out]; rfl, by rw [E.out]; exact HF.out, h2.out⟩
  ·have h30' : (30 : Int) < (N : Int) := by omega
   have E := hQ (EO.out (by omega))
   go_enter Tryz.func32, Tryz.ntmps32
   go_upto_region 2 with (go_at_call 59; refine OBS.out.mono ?_; rintro e w2 ⟨za, la, ca, zb, lb, cb, us2, rfl, hob, hb2⟩; have OB2 := hQ hob; have R2 := hQ (owns_below RB.out hb2); have B2 := hQ (below_next AW.out hb2 nR); obtain ⟨e0, e1, e2, e3, e4⟩ := own5 R2.out; obtain ⟨m0, m1, m2, m3, m4⟩ := fz5 R2.out; have FF := hQ (own5_set R2.out (.slice za la ca) (.slice zb lb cb) (.int .i64 bw) (.int .i64 bm) (.int .i64 L)))
   obtain ⟨ws, hws⟩ : ∃ ws, ws = (((((w2.setCell ⟨w.heap.size, 0, none⟩ (.slice za la ca)).setCell ⟨w.heap.size, 1, none⟩ (.slice zb lb cb)).setCell ⟨w.heap.size, 2, none⟩ (.int .i64 bw)).setCell ⟨w.heap.size, 3, none⟩ (.int .i64 bm)).setCell ⟨w.heap.size, 4, none⟩ (.int .i64 L)) := ⟨_, rfl⟩
   rw [← hws] at FF ⊢
   have BS := hQ (B2.out.grown FF.out.2 B2.out.size (fun k hk => by cases hk; exact nR))
   have OP := OB2.out.p.grown FF.out.2 (fun k hk => by cases hk; left; simp)
   have OQ : OwnT ws (w.alloc (.cells #[.slice pa pl pc, .slice qa ql qc, .int .i64 bw, .int .i64 bm, .int .i64 L] 27)).heap.size (.slice zb lb cb) b.pats := World.ownsRow.kept OB2.out.q FF.out.2 (by
    cases hl : (Value.slice zb lb cb).ownBlock with
    | none => exact .inl rfl
    | some k =>
     have h1 := (World.ownsRow.lt OB2.out.q k hl).1
     rw [World.size_alloc] at h1
     exact .inr fun e => absurd (Option.some.inj e) (by omega))
   have AO := hQ ((Below.refl ws.heap.size ws).alloc nR (.cells #[] 23))
   have BRO : Hid (BookR (ws.alloc (.cells #[] 23)) (.agg #[.slice za la ca, .slice zb lb cb, .int .i64 bw, .int .i64 bm, .int .i64 L]) b) := by
    show BookR _ _ _
    rw [VB.out]
    exact BookR.below ⟨_, _, rfl, OP.read, OQ.row⟩ AO.out
   have BO := hQ (below_next BS.out AO.out nR)
   obtain ⟨x0, x1, x2, x3, x4⟩ := own5 (FF.out.1.alloc (.cells #[] 23))
   have U0 : Hid (OwnSU (ws.alloc (.cells #[] 23)) w.heap.size (ws.alloc (.cells #[] 23)).heap.size (.slice (some ⟨ws.heap.size, 0, none⟩) 0 0) [] []) := (OwnSU.made ws BS.out.size).wider (by simp)
   clear hws e0 e1 e2 e3 e4 m0 m1 m2 m3 m4 FF OP OQ OB2 R2 hb2 hob OBS
   go_wp2_with (go_at_call 60; refine (BLN.out _ _ BRO.out).mono ?_; rintro e w3 ⟨z9, n9, c9, v3, rfl, rfl, o9, oc, hb3⟩)
   go_ret2
   exact ⟨_, [], by rw [E.out]; rfl, by rw [E.out]; exact (U0.out.below hb3).wider hb3.size, below_next BO.out hb3 nR⟩
end Go.Proofs.YtofnchdijanikaaGreatDoor

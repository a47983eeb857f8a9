/-
  PROVED HERE: what the printer's lines need, part C20. Conditions: each theorem's own.
-/
import Derived.Test.YtofnchdijanikaaGreatDoorC19
import Derived.WideLaws
set_option linter.unusedVariables false
set_option linter.unusedSimpArgs false
set_option maxRecDepth 100000
namespace Go.Proofs.YtofnchdijanikaaGreatDoor
open Go.RowKit
theorem texts_pos {ws ps : List (List UInt8)} (h : ∀ k, k < ws.length → wordB (ws.getD k []) = true) (h0 : 0 < ws.length) : 0 < (texts ws ps).length := by
 have key : ∀ k, 0 < k → k ≤ ws.length → 0 < (textsTo ws ps k).length := by
  intro k hk hl
  obtain ⟨j, rfl⟩ : ∃ j, k = j + 1 := ⟨k - 1, by omega⟩
  have p1 := parts_len (ws.getD j []) ps
  have p2 := places_len (ws.getD j []) ps
  have p3 := (wordB_true (h j (by omega))).2.2
  rw [textsTo, List.length_append]
  omega
 exact key _ h0 (Nat.le_refl _)
theorem breaks_pos {xs : List DItem} {wd most : Int} {br : List Nat} (h : bestBreaks xs wd most = some br) (h0 : 0 < xs.length) : 0 < br.length := by
 unfold bestBreaks at h
 cases hb : best xs wd most 0 1 with
 | none => rw [hb] at h; cases h
 | some p =>
  rw [hb] at h
  cases h
  rw [path_at h0 (show best xs wd most 0 1 = some (p.1, p.2) from hb)]
  exact Nat.succ_pos _
theorem spTo_short (xs : List DItem) (tx : List (List UInt8)) (h : ∀ x ∈ tx, x.length ≤ 20 ∧ x ≠ []) (a q : Nat) (hq : q ≤ 60) : (spTo xs tx a q).length ≤ 1200 := by
 have := spTo_len xs tx (fun x hx => (h x hx).1) a q
 omega
theorem getD_short {tx : List (List UInt8)} (h : ∀ x ∈ tx, x.length ≤ 20 ∧ x ≠ []) (k : Nat) : (tx.getD k []).length ≤ 20 := by
 by_cases hk : k < tx.length
 ·rw [getD_eq tx [] k hk]; exact (h _ (List.getElem_mem hk)).1
 ·simp [List.getD, List.getElem?_eq_none (by omega : tx.length ≤ k)]
theorem spTo_box {xs : List DItem} {tx : List (List UInt8)} {a q : Nat} (h : (it xs (a + q)).kind = 1) : spTo xs tx a (q + 1) = spTo xs tx a q ++ tx.getD (boxNo xs (a + q)) [] := by rw [spTo, if_pos h]
theorem spTo_sp {xs : List DItem} {tx : List (List UInt8)} {a q : Nat} (h : (it xs (a + q)).kind = 2) (hw : 0 < (it xs (a + q)).w) (hl : spTo xs tx a q ≠ []) : spTo xs tx a (q + 1) = spTo xs tx a q ++ [32] := by rw [spTo, if_neg (by omega), if_pos ⟨h, hw, hl⟩]
theorem spTo_no {xs : List DItem} {tx : List (List UInt8)} {a q : Nat} (h : ¬ (it xs (a + q)).kind = 1) (h2 : ¬ ((it xs (a + q)).kind = 2 ∧ 0 < (it xs (a + q)).w ∧ spTo xs tx a q ≠ [])) : spTo xs tx a (q + 1) = spTo xs tx a q := by rw [spTo, if_neg h, if_neg h2]
set_option maxHeartbeats 16000000 in
theorem specPLines_any (wv pv : Value) (ws ps : List (List UInt8)) (hws : wordsB ws = true) (hw0 : 0 < ws.length) (hps : patsB ps = true) (wd most : Int) (hwd : 0 ≤ wd ∧ wd ≤ 1000) (hmo : 0 ≤ most ∧ most ≤ 10000) (w : World) (hw : TxtS w wv ws) (hr : TxtS w pv ps) :
  Calls Tryz.prog 80 #[wv, pv, .int .i64 wd, .int .i64 most] w (LinesPost ws ps wd most w) := by
 have AW := Lib.hid ((Below.refl w.heap.size w).alloc (Nat.le_refl _) (.cells #[] 9))
 have OM := Lib.hid (OwnT.made w (B := w.heap.size) (Nat.le_refl _))
 have SZ : Hid ((w.alloc (.cells #[] 9)).heap.size = w.heap.size + 1) := by show _ = _; simp
 have wa := words_all hws
 have wb : ∀ k, k < ws.length → wordB (ws.getD k []) = true := fun k hk => by rw [getD_eq ws [] k hk]; exact wa.1 _ (List.getElem_mem _)
 have PI := Lib.hid (specPara_any wv pv ws ps hws hw0 hps _ (hw.below AW.out) (hr.below AW.out))
 have HP := Lib.hid (fun k (hk : k < ws.length) (w : World) (h : TxtS w pv ps) => specHParts_any (ws.getD k []) (wb k hk) pv ps hps w h)
 have TP := Lib.hid (texts_pos (ps := ps) wb hw0)
 have TS := Lib.hid (texts_short (ps := ps) wa.1)
 have TL := Lib.hid (fun k hk => textsTo_len (ps := ps) wb k hk)
 have PL1 := Lib.hid (fun k (hk : k < ws.length) => (show (parts (ws.getD k []) ps).length ≤ 40 by
  have p1 := parts_len (ws.getD k []) ps
  have p2 := places_len (ws.getD k []) ps
  have p3 := (wordB_true (wb k hk)).2.2
  omega))
 have BX := Lib.hid (paraI_boxes ws ps)
 have TX60 : Hid ((paraI ws ps).length ≤ 60 → (texts ws ps).length ≤ 60) := fun h => by rw [← paraI_boxes]; exact Nat.le_trans (List.length_filter_le _ _) h
 have PIS := Lib.hid (fun h => paraI_pis (ws := ws) (ps := ps) wa.1 h)
 have LN := Lib.hid (fun h => paraL_no (ws := ws) (ps := ps) (wd := wd) (most := most) h)
 have LI := Lib.hid (fun h => paraL_is (ws := ws) (ps := ps) (wd := wd) (most := most) h)
 have X3 := Lib.hid (paraI_pos ws ps)
 obtain ⟨b, off, cap, rfl, hbl, hc⟩ := txt_pos hw hw0
 obtain ⟨m, hm⟩ : ∃ m, m = ws.length := ⟨_, rfl⟩
 have m12 : m ≤ 12 := by rw [hm]; exact wa.2
 have TXD : Hid (textsTo ws ps m = texts ws ps) := by show _ = _; rw [hm]; rfl
 rw [← hm] at hc PI HP TL PL1 ⊢
 have HC := Lib.hid hc
 have HR := Lib.hid hr
 have HWD := Lib.hid hwd
 have HMO := Lib.hid hmo
 unfold ParaPost at PI
 obtain ⟨xs, hxs⟩ : ∃ xs, xs = paraI ws ps := ⟨_, rfl⟩
 have HXS := Lib.hid hxs
 rw [← hxs] at PI PIS LN LI X3 BX TX60
 obtain ⟨tx, htx⟩ : ∃ tx, tx = texts ws ps := ⟨_, rfl⟩
 rw [← htx] at TP TS LI BX TXD TX60
 clear hxs htx hm hc hr hwd hmo hw wa wb hws hw0 hps
 by_cases h60 : xs.length ≤ 60
 ·rw [decide_eq_true h60] at PI
  have HX := Lib.hid (PIS.out h60)
  have BB := Lib.hid (fun ib cap (w : World) (h : ItC w ib 0 xs.length xs) => specBreaks_any ib 0 cap xs.length xs HX.out w h (by have := X3.out; omega) wd most HWD.out HMO.out)
  have H60 := Lib.hid h60
  have TX60 := Lib.hid (TX60.out h60)
  have LL := LI.out h60
  clear h60 LN LI PIS
  cases hbb : bestBreaks xs wd most with
  | none =>
   have E : Hid (paraL ws ps wd most = none) := by show _ = _; rw [LL, hbb]; rfl
   unfold BrPost at BB
   rw [hbb] at BB
   clear hbb LL
   go_enter Tryz.func80, Tryz.ntmps80
   go_wp2_with (first | (go_at_call 97; refine PI.out.mono ?_; rintro e w2 ⟨v2, rfl, o2, hb2⟩; obtain ⟨ib, icap, rfl, hib, hic⟩ := own_items_cells (o2 H60.out) (by have := X3.out; omega)) | (go_at_call 98; refine (BB.out ib icap _ hic).mono ?_; rintro e w3 ⟨v3, rfl, o3, hb3⟩))
   go_ret2
   have b3 := below_next (below_next AW.out hb2 (Nat.le_refl _)) hb3 (Nat.le_refl _)
   refine ⟨_, by rw [E.out]; rfl, ?_, b3⟩
   rw [E.out]
   exact owns_below (owns_below OM.out hb2) hb3
  | some br =>
   have E : Hid (paraL ws ps wd most = some (linesT xs tx 0 br)) := by show _ = _; rw [LL, hbb]; rfl
   have CH := Lib.hid (breaks_chain hbb)
   have BP := breaks_pos hbb (by have := X3.out; omega)
   unfold BrPost at BB
   rw [hbb] at BB
   obtain ⟨nb, hnb⟩ : ∃ nb, nb = br.length := ⟨_, rfl⟩
   have HNB := Lib.hid hnb
   obtain ⟨n, hn⟩ : ∃ n, n = xs.length := ⟨_, rfl⟩
   have HN := Lib.hid hn
   have nb60 : nb ≤ 60 := by rw [hnb]; have := chain_len br 0 CH.out (Nat.zero_le _); have := H60.out; omega
   clear hbb LL
   rw [← hnb] at BP
   go_enter Tryz.func80, Tryz.ntmps80
   go_wp2_with (first | (go_at_call 97; refine PI.out.mono ?_; rintro e w2 ⟨v2, rfl, o2, hb2⟩; obtain ⟨ib, icap, rfl, hib, hic⟩ := own_items_cells (o2 H60.out) (by have := X3.out; omega)) | (go_at_call 98; refine (BB.out ib icap _ hic).mono ?_; rintro e w3 ⟨v3, rfl, o3, hb3⟩; obtain ⟨kb, kcap, rfl, hkb, hkl, hkc⟩ := own_ints_cells (br := br) o3 (by omega)))
   have b3 := below_next (below_next AW.out hb2 (Nat.le_refl _)) hb3 (Nat.le_refl _)
   have s2 := hb2.size
   have s3 := hb3.size
   have szz := SZ.out
   have il := hic.2.1
   have AL4 : Below w3.heap.size w3 (w3.alloc (.cells #[] 9)) := (Below.refl _ _).alloc (Nat.le_refl _) _
   have P4 : Hid (PL (w3.alloc (.cells #[] 9)) (.slice (some ⟨w3.heap.size, 0, none⟩) 0 0) ib kb w.heap.size n xs br []) := by
    refine PL.below (w := w3) ⟨?_, ?_, hkl, ?_, hkc, ?_, ?_, fun j hj => by cases hj⟩ AL4
    ·rw [hn]; exact hic.below hb3
    ·show some ib ≠ some w3.heap.size; intro e; have := Option.some.inj e; omega
    ·show some kb ≠ some w3.heap.size; intro e; have := Option.some.inj e; omega
    ·omega
    ·show some w.heap.size ≠ some w3.heap.size; intro e; have := Option.some.inj e; omega
   have IBN : Hid (some ib ≠ (Value.slice (some ⟨w.heap.size, 0, none⟩) 0 0).ownBlock) := (show some ib ≠ some w.heap.size from fun e => by have := Option.some.inj e; omega)
   have KBN : Hid (some kb ≠ (Value.slice (some ⟨w.heap.size, 0, none⟩) 0 0).ownBlock) := (show some kb ≠ some w.heap.size from fun e => by have := Option.some.inj e; omega)
   have O4 : Hid (OwnT (w3.alloc (.cells #[] 9)) w.heap.size (.slice (some ⟨w.heap.size, 0, none⟩) 0 0) []) := owns_below (owns_below (owns_below OM.out hb2) hb3) AL4
   have T4 : Hid (OwnT (w3.alloc (.cells #[] 9)) w.heap.size (.slice (some ⟨w3.heap.size, 0, none⟩) 0 0) (textsTo ws ps 0)) := OwnT.made w3 (by omega)
   have B4 := Lib.hid (below_next b3 AL4 (Nat.le_refl _))
   rw [← hnb, ← hn]
   clear o2 o3 hb2 hb3 b3 s2 s3 szz il AL4 hib hic hkb hkl hkc hnb hn
   go_loopw [15, 16] (fun v i wr => ∃ k : Nat, k ≤ m ∧ i = .int .i64 k ∧ Hid (OwnT wr w.heap.size v (textsTo ws ps k)) ∧ Hid (PL wr v ib kb w.heap.size n xs br []) ∧ Hid (OwnT wr w.heap.size (.slice (some ⟨w.heap.size, 0, none⟩) 0 0) []) ∧ Hid (Below w.heap.size w wr)) (fun _ i _ => m - (intOf i).toNat)
   case atStart => exact ⟨0, Nat.zero_le _, rfl, T4.out, P4.out, O4.out, B4.out⟩
   case round =>
    obtain ⟨k, hk, rfl, h1, h2, h3, h4⟩ := hrel
    clear T4 P4 O4 B4
    by_cases hkm : k < m
    ·have c1 := (h4.out.cell (p := ⟨b, off + k, none⟩) hbl).trans (HC.out k hkm)
     have HPk := Lib.hid (fun w h => HP.out k hkm w h)
     have TL1 := TL.out k hk
     have PLk := PL1.out k hkm
     have TN : Hid (textsTo ws ps (k + 1) = textsTo ws ps k ++ parts (ws.getD k []) ps) := rfl
     obtain ⟨p, hp⟩ : ∃ p, p = ws.getD k [] := ⟨_, rfl⟩
     rw [← hp] at c1 HPk PLk TN
     obtain ⟨X, hX⟩ : ∃ X, X = textsTo ws ps k := ⟨_, rfl⟩
     rw [← hX] at h1 TL1 TN
     have XL : X.length ≤ 4000000 := by omega
     have YL : (parts p ps).length ≤ 4000000 := by omega
     have hkm' : (k : Int) < (m : Int) := by omega
     clear hp hX TL1 PLk hkm
     go_wp2_with (first | (go_at_call 99; refine (HPk.out _ (HR.out.below h4.out)).mono ?_; rintro e w5 ⟨v5, rfl, o5, hb5⟩; have h15 := Lib.hid (owns_below h1.out hb5); have h25 := Lib.hid (h2.out.below hb5); have h35 := Lib.hid (owns_below h3.out hb5); have h45 := Lib.hid (below_next h4.out hb5 (Nat.le_refl _)); have o55 := Lib.hid o5) | (at_builtin; refine append_strs w w5 rfl _ _ rfl w.heap.size u15 X (parts p ps) v5 rfl rfl h15.out (OwnT.row o55.out) (own_nil_cap o55.out) XL YL (Nat.le_refl _) h45.out ?_; intro v' w6 hown' hbel hmv hgr))
     have PX := Lib.hid (h25.out.append0 hmv hgr)
     have OX := Lib.hid (World.ownsRow.kept h35.out hgr (.inr h25.out.p1))
     first
      | exact ⟨⟨k + 1, by omega, by go_num, by rw [TN.out]; exact hown', PX.out, OX.out, hbel⟩, by (simp [intOf]) <;> omega⟩
      | (go_roundw
         case rel => exact ⟨k + 1, by omega, by go_num, by rw [TN.out]; exact hown', PX.out, OX.out, hbel⟩
         case measure => (simp [intOf]) <;> omega)
    ·obtain rfl : k = m := by omega
     have o1 := h1.out
     rw [TXD.out] at o1
     obtain ⟨pb, pcap, rfl, hpb, hpl, hpc⟩ := own_texts_cells o1 TP.out
     have i1 := h2.out.i1
     have k1 := h2.out.k1
     have p1 := h2.out.p1
     have P5 : Hid (PL wr (.slice (some ⟨w.heap.size, 0, none⟩) 0 0) ib kb pb n xs br tx) := ⟨h2.out.it, IBN.out, h2.out.k0, KBN.out, h2.out.k2, hpl, fun e => p1 e.symm, hpc⟩
     have O5 := h3
     have B5 := h4
     clear h1 h2 h3 h4 o1 i1 k1 p1 hpb hpl hpc
     have SPS := Lib.hid (fun a q (hq : q ≤ 60) => spTo_short xs tx TS.out a q hq)
     have GDS := Lib.hid (fun k => getD_short TS.out k)
     go_wp2_with fail
     go_loopw [10, 17, 18, 19] (fun v bx af i wr => ∃ (k a : Nat) (done : List (List UInt8)), k ≤ nb ∧ a ≤ n ∧ done.length = k ∧ bx = .int .i64 (boxNo xs a) ∧ af = .int .i64 ((a : Int) - 1) ∧ i = .int .i64 k ∧ Hid (linesT xs tx 0 br = done ++ linesT xs tx a (br.drop k)) ∧ Hid (Chain xs a (br.drop k)) ∧ Hid (OwnT wr w.heap.size v done) ∧ Hid (PL wr v ib kb pb n xs br tx) ∧ Hid (Below w.heap.size w wr)) (fun _ _ _ i _ => nb - (intOf i).toNat)
     case atStart => exact ⟨0, 0, [], Nat.zero_le _, Nat.zero_le _, rfl, rfl, rfl, rfl, rfl, CH.out, O5.out, P5.out, B5.out⟩
     case round =>
      obtain ⟨k, a, done, hk, ha, hdl, rfl, rfl, rfl, hln, hch, h1, h2, h3⟩ := hrel
      clear P5 O5 B5
      by_cases hkb : k < nb
      ·have hdrop := drop_next br 0 k (by have := HNB.out; omega)
       have hch2 := hch.out
       have hln2 := hln.out
       rw [hdrop] at hch2 hln2
       obtain ⟨c1, c2, c3, c4⟩ := hch2
       have ck := h2.out.k2 k (by have := HNB.out; omega)
       obtain ⟨u, hu⟩ : ∃ u, u = br.getD k 0 := ⟨_, rfl⟩
       rw [← hu] at c1 c2 c3 c4 ck hln2
       rw [← HN.out] at c2
       have hku := lineB_kind c3
       have BOV := Lib.hid (boxNo_over (by rw [← HN.out]; exact c2) hku)
       have LNX := Lib.hid (show linesT xs tx 0 br = (done ++ [lineT xs tx a u]) ++ linesT xs tx (u + 1) (br.drop (k + 1)) by rw [hln2, linesT, List.append_assoc]; rfl)
       have CHX := Lib.hid c4
       have e1 : (a : Int) - 1 + 1 = (a : Int) := by omega
       have hkb' : (k : Int) < (nb : Int) := by omega
       have n60 : n ≤ 60 := by have := H60.out; have := HN.out; omega
       have HU := Lib.hid hu.symm
       clear hdrop hch hln hln2 c3 c4 hu
       go_wp2_with fail
       go_loopw [17, 20, 21] (fun bx ln j wx => ∃ q : Nat, q ≤ u - a ∧ bx = .int .i64 (boxNo xs (a + q)) ∧ ln = .string (bs (spTo xs tx a q)) ∧ j = .int .i64 ((a : Int) + q) ∧ wx = wr) (fun _ _ j _ => (u - intOf j).toNat)
       case atStart => exact ⟨0, Nat.zero_le _, rfl, rfl, by go_num, rfl⟩
       case round =>
        obtain ⟨q, hq, rfl, rfl, rfl, rfl⟩ := hrel
        by_cases hqu : q < u - a
        ·obtain ⟨p, hp⟩ : ∃ p, p = a + q := ⟨_, rfl⟩
         have ep : (a : Int) + (q : Int) = (p : Int) := by omega
         rw [ep, ← hp]
         have hpn : p < n := by omega
         have hpu : (p : Int) < (u : Int) := by omega
         have hpit := pit_kind (HX.out.at (j := p) (by rw [← HN.out]; exact hpn))
         have C7 := h2.out.it.2.2 p hpn
         have i0 := C7.c0
         have i1 := C7.c1
         rw [Nat.zero_add] at i0 i1
         have BNS := Lib.hid (boxNo_succ xs p (by rw [← HN.out]; exact hpn))
         have BLT := Lib.hid (boxNo_lt xs p (by rw [← HN.out]; exact hpn))
         have SB := spTo_box (xs := xs) (tx := tx) (a := a) (q := q)
         have SS := spTo_sp (xs := xs) (tx := tx) (a := a) (q := q)
         have SN := spTo_no (xs := xs) (tx := tx) (a := a) (q := q)
         rw [← hp] at SB SS SN
         have L1 := SPS.out a q (by omega)
         obtain ⟨L, hL⟩ : ∃ L, L = spTo xs tx a q := ⟨_, rfl⟩
         rw [← hL] at L1 SB SS SN ⊢
         have hsz : (bs L).size = L.length := bs_len L
         have hc1 : ¬ 9223372036854775807 < L.length + 1 := by omega
         have BA1 : bs L ++ (⟨#[32]⟩ : ByteArray) = bs (L ++ [32]) := by rw [show (⟨#[32]⟩ : ByteArray) = bs [32] from rfl, bs_append]
         have HP2 := Lib.hid hp
         have hpp : a + (q + 1) = p + 1 := by omega
         have SBH := Lib.hid SB
         have SSH := Lib.hid SS
         have SNH := Lib.hid SN
         clear C7 SB SS SN hL ep hp
         rcases hpit with hpit | hpit | hpit
         ·have hk1 := hpit.1
          rw [hk1] at i0
          have BL1 := BLT.out hk1
          rw [BX.out] at BL1
          have ct := h2.out.p2 _ BL1
          have GL := GDS.out (boxNo xs p)
          have SB1 := Lib.hid (SBH.out hk1)
          have BN1 := Lib.hid (BNS.out)
          have HK1 := Lib.hid hk1
          obtain ⟨bx, hbx⟩ : ∃ bx, bx = boxNo xs p := ⟨_, rfl⟩
          rw [← hbx] at BL1 ct GL SB1 BN1 ⊢
          obtain ⟨P, hPx⟩ : ∃ P, P = tx.getD bx [] := ⟨_, rfl⟩
          rw [← hPx] at ct GL SB1
          have hsz2 : (bs P).size = P.length := bs_len P
          have hc2 : ¬ 9223372036854775807 < L.length + P.length := by omega
          have BA2 : bs L ++ bs P = bs (L ++ P) := bs_append L P
          have hbxl : (bx : Int) < (tx.length : Int) := by omega
          have hbx6 : (bx : Int) ≤ 60 := by have := TX60.out; omega
          clear hbx hPx hk1 hpit
          go_wp2_with fail
          first
           | exact ⟨⟨q + 1, by omega, by rw [hpp]; rw [BN1.out, if_pos HK1.out]; rfl, by rw [SB1.out], by have := HP2.out; go_num, by first | rfl | trivial⟩, by (simp [intOf]) <;> (have := HP2.out; omega)⟩
           | (go_roundw
              case rel => exact ⟨q + 1, by omega, by rw [hpp]; rw [BN1.out, if_pos HK1.out]; rfl, by rw [SB1.out], by have := HP2.out; go_num, by first | rfl | trivial⟩
              case measure => (simp [intOf]) <;> (have := HP2.out; omega))
         ·have hk2 := hpit.1
          rw [hk2] at i0
          have BN2 := Lib.hid (show boxNo xs (p + 1) = boxNo xs p by rw [BNS.out, if_neg (by omega)])
          have HK2 := Lib.hid hk2
          obtain ⟨W, hW⟩ : ∃ W, W = (it xs p).w := ⟨_, rfl⟩
          rw [← hW] at i1
          have HW := Lib.hid hW
          clear hk2 hpit hW
          by_cases hw0 : 0 < W
          ·by_cases hl0 : L = []
           ·have z : (L == []) = true := by rw [hl0]; rfl
            have SP := Lib.hid (SNH.out (by rw [HK2.out]; decide) (fun h => h.2.2 hl0))
            clear hl0
            go_wp2_with fail
            first
             | exact ⟨⟨q + 1, by omega, by rw [hpp]; rw [BN2.out], by rw [SP.out], by have := HP2.out; go_num, by first | rfl | trivial⟩, by (simp [intOf]) <;> (have := HP2.out; omega)⟩
             | (go_roundw
                case rel => exact ⟨q + 1, by omega, by rw [hpp]; rw [BN2.out], by rw [SP.out], by have := HP2.out; go_num, by first | rfl | trivial⟩
                case measure => (simp [intOf]) <;> (have := HP2.out; omega))
           ·have z : (L == []) = false := by rw [beq_eq_false_iff_ne]; exact hl0
            have SP := Lib.hid (SSH.out HK2.out (by rw [← HW.out]; exact hw0) hl0)
            clear hl0
            go_wp2_with fail
            first
             | exact ⟨⟨q + 1, by omega, by rw [hpp]; rw [BN2.out], by rw [SP.out], by have := HP2.out; go_num, by first | rfl | trivial⟩, by (simp [intOf]) <;> (have := HP2.out; omega)⟩
             | (go_roundw
                case rel => exact ⟨q + 1, by omega, by rw [hpp]; rw [BN2.out], by rw [SP.out], by have := HP2.out; go_num, by first | rfl | trivial⟩
                case measure => (simp [intOf]) <;> (have := HP2.out; omega))
          ·have SP := Lib.hid (SNH.out (by rw [HK2.out]; decide) (fun h => hw0 (by rw [HW.out]; exact h.2.1)))
           go_wp2_with fail
           first
            | exact ⟨⟨q + 1, by omega, by rw [hpp]; rw [BN2.out], by rw [SP.out], by have := HP2.out; go_num, by first | rfl | trivial⟩, by (simp [intOf]) <;> (have := HP2.out; omega)⟩
            | (go_roundw
               case rel => exact ⟨q + 1, by omega, by rw [hpp]; rw [BN2.out], by rw [SP.out], by have := HP2.out; go_num, by first | rfl | trivial⟩
               case measure => (simp [intOf]) <;> (have := HP2.out; omega))
         ·have hk3 : (it xs p).kind = 3 := by rcases hpit with h | h; exact h.1; exact h.1
          rw [hk3] at i0
          have BN3 := Lib.hid (show boxNo xs (p + 1) = boxNo xs p by rw [BNS.out, if_neg (by omega)])
          have SP := Lib.hid (SNH.out (by rw [hk3]; decide) (fun h => by rw [hk3] at h; exact absurd h.1 (by decide)))
          clear hk3 hpit
          go_wp2_with fail
          first
           | exact ⟨⟨q + 1, by omega, by rw [hpp]; rw [BN3.out], by rw [SP.out], by have := HP2.out; go_num, by first | rfl | trivial⟩, by (simp [intOf]) <;> (have := HP2.out; omega)⟩
           | (go_roundw
              case rel => exact ⟨q + 1, by omega, by rw [hpp]; rw [BN3.out], by rw [SP.out], by have := HP2.out; go_num, by first | rfl | trivial⟩
              case measure => (simp [intOf]) <;> (have := HP2.out; omega))
        ·obtain rfl : q = u - a := by omega
         have eu : (a : Int) + ((u - a : Nat) : Int) = (u : Int) := by omega
         have eu2 : a + (u - a) = u := by omega
         rw [eu, eu2]
         have C7 := h2.out.it.2.2 u c2
         have i6 := C7.c6
         rw [Nat.zero_add] at i6
         have L1 := SPS.out a (u - a) (by omega)
         have LT : Hid (lineT xs tx a u = spTo xs tx a (u - a) ++ (if (it xs u).mark = true then [45] else [])) := rfl
         obtain ⟨L, hL⟩ : ∃ L, L = spTo xs tx a (u - a) := ⟨_, rfl⟩
         rw [← hL] at L1 LT ⊢
         have hsz : (bs L).size = L.length := bs_len L
         have hc1 : ¬ 9223372036854775807 < L.length + 1 := by omega
         have BA1 : bs L ++ (⟨#[45]⟩ : ByteArray) = bs (L ++ [45]) := by rw [show (⟨#[45]⟩ : ByteArray) = bs [45] from rfl, bs_append]
         have DLEN : done.length ≤ 4000000 := by omega
         have HDL := Lib.hid hdl
         have C2 := Lib.hid c2
         clear C7 hL eu eu2 hq hqu hdl
         cases hmk : (it xs u).mark with
         | true =>
          rw [hmk] at i6 LT
          have LTE := Lib.hid (show lineT xs tx a u = L ++ [45] from LT.out)
          clear hmk LT
          go_wp2_with (at_builtin; refine append_str w wr rfl _ _ rfl w.heap.size u10 done (L ++ [45]) rfl rfl h1.out DLEN (Nat.le_refl _) h3.out ?_; intro v' w5 hown' hbel hmv hgr; have PX := Lib.hid (h2.out.append hmv hgr); have ck2 := PX.out.k2 k (by have := HNB.out; omega); rw [HU.out] at ck2)
          first
           | exact ⟨⟨k + 1, u + 1, done ++ [(L ++ [45])], by omega, by have := C2.out; omega, by rw [List.length_append, HDL.out]; rfl, by rw [BOV.out], by go_num, by go_num, by rw [← LTE.out]; exact LNX.out, CHX.out, hown', PX.out, hbel⟩, by (simp [intOf]) <;> omega⟩
           | (go_roundw
              case rel => exact ⟨k + 1, u + 1, done ++ [(L ++ [45])], by omega, by have := C2.out; omega, by rw [List.length_append, HDL.out]; rfl, by rw [BOV.out], by go_num, by go_num, by rw [← LTE.out]; exact LNX.out, CHX.out, hown', PX.out, hbel⟩
              case measure => (simp [intOf]) <;> omega)
         | false =>
          rw [hmk] at i6 LT
          have LTE := Lib.hid (show lineT xs tx a u = L by rw [LT.out]; simp)
          clear hmk LT
          go_wp2_with (at_builtin; refine append_str w wr rfl _ _ rfl w.heap.size u10 done L rfl rfl h1.out DLEN (Nat.le_refl _) h3.out ?_; intro v' w5 hown' hbel hmv hgr; have PX := Lib.hid (h2.out.append hmv hgr); have ck2 := PX.out.k2 k (by have := HNB.out; omega); rw [HU.out] at ck2)
          first
           | exact ⟨⟨k + 1, u + 1, done ++ [L], by omega, by have := C2.out; omega, by rw [List.length_append, HDL.out]; rfl, by rw [BOV.out], by go_num, by go_num, by rw [← LTE.out]; exact LNX.out, CHX.out, hown', PX.out, hbel⟩, by (simp [intOf]) <;> omega⟩
           | (go_roundw
              case rel => exact ⟨k + 1, u + 1, done ++ [L], by omega, by have := C2.out; omega, by rw [List.length_append, HDL.out]; rfl, by rw [BOV.out], by go_num, by go_num, by rw [← LTE.out]; exact LNX.out, CHX.out, hown', PX.out, hbel⟩
              case measure => (simp [intOf]) <;> omega)
      ·obtain rfl : k = nb := by omega
       have E2 : Hid (paraL ws ps wd most = some done) := by
        show _ = _
        have := hln.out
        rw [List.drop_of_length_le (by have := HNB.out; omega)] at this
        rw [E.out, this]
        show some (done ++ []) = some done
        rw [List.append_nil]
       go_wp2
       go_ret2
       exact ⟨_, by rw [E2.out]; rfl, by rw [E2.out]; exact h1.out, h3.out⟩
 ·rw [decide_eq_false h60] at PI
  have E : Hid (paraL ws ps wd most = none) := LN.out h60
  clear h60
  go_enter Tryz.func80, Tryz.ntmps80
  go_wp2_with (first | (go_at_call 97; refine PI.out.mono ?_; rintro e w2 ⟨v2, rfl, o2, hb2⟩))
  go_ret2
  refine ⟨_, by rw [E.out]; rfl, ?_, below_next AW.out hb2 (Nat.le_refl _)⟩
  rw [E.out]
  exact owns_below OM.out hb2
end Go.Proofs.YtofnchdijanikaaGreatDoor
namespace Go.Proofs.YtofnchdijanikaaGreatDoor
open Go.RowKit Go.Maps Go.ChangeMaps
open Go.WideElems (Fit rd rg pl rd_val elemAt)
theorem keyedInt : Keyed Tryz.prog 3 := int_keyed Tryz.underlying3
theorem keyOfI (i : Nat) (h : i ≤ 1000) : keyOf Tryz.prog 3 (.int .i64 (i : Int)) = some (.int .i64 (i : Int)) := keyOf_int_mk Tryz.underlying3 (WalkArith.wf_i64 ⟨by omega, by omega⟩)
theorem push_run {H : Type} {k e t : TypeId} {R : Value → Option (DataW H × List MemPlace)} (K : Keyed Tryz.prog k) (ht : Tryz.prog.underlying t = some (.map k e)) {w : World} {b : Nat} {es : Array MapEntry} {clock : Nat} (hb : w.heap[b]? = some (.map es clock)) {key val : Value} {kl : Lit} (hkey : keyOf Tryz.prog k key = some kl) (f1 : (Instr.findKey k key es.toList).run Tryz.prog w = .ok none w) (_ : R val = R val) :
  (Instr.mapUpdate t (.map (some b)) key val).run Tryz.prog w = .ok () (setBlock w b (.map (es.push ⟨key, val, clock⟩) (clock + 1))) := by
 simp [Instr.mapUpdate, run_underlying ht, MapKept.run_getObj_map hb, K.check w false hkey, f1, MapKept.run_setObj_map _ hb, Result.andThen, setBlock]
def MapTx (w : World) (B k : Nat) (xs : List DItem) (tx : List (List UInt8)) : Prop :=
 ∃ es clock, w.heap[B]? = some (.map es clock) ∧ Fit Tryz.prog 3 RR es clock ∧ es.size = boxNo xs k ∧
  (∀ x ∈ es.toList, ∃ i : Nat, i < k ∧ x.key = .int .i64 (i : Int) ∧ x.val = .string (bs (tx.getD (boxNo xs i) []))) ∧
  (∀ i, i < k → (it xs i).kind = 1 → ∃ x ∈ es.toList, x.key = .int .i64 (i : Int))
section
variable {w w' : World} {B k : Nat} {xs : List DItem} {tx : List (List UInt8)}
theorem MapTx.made (w : World) (xs : List DItem) (tx : List (List UInt8)) : MapTx (w.alloc (.map #[] 0)) w.heap.size 0 xs tx :=
 ⟨#[], 0, (MapKept.heap_alloc w _).1, ⟨by simp, MapKept.stamped_empty 0, by simp⟩, by simp [boxNo, boxes], by simp, fun i h => by omega⟩
theorem MapTx.lt (h : MapTx w B k xs tx) : B < w.heap.size := by
 obtain ⟨es, clock, hb, _⟩ := h
 exact (Array.getElem?_eq_some_iff.1 hb).1
theorem MapTx.kept {row : Option Nat} (h : MapTx w B k xs tx) (hg : w.grownBy w' row) (hne : some B ≠ row) : MapTx w' B k xs tx := by
 have hlt := h.lt
 obtain ⟨es, clock, hb, F⟩ := h
 exact ⟨es, clock, (hg.block B hlt hne).trans hb, F⟩
theorem MapTx.below (h : MapTx w B k xs tx) (hb : Below w.heap.size w w') : MapTx w' B k xs tx := h.kept (grown_of_below hb none) (by simp)
theorem MapTx.skip (h : MapTx w B k xs tx) (hk : k < xs.length) (h1 : ¬ (it xs k).kind = 1) : MapTx w B (k + 1) xs tx := by
 obtain ⟨es, clock, hb, F, hs, he, hp⟩ := h
 refine ⟨es, clock, hb, F, by rw [hs, boxNo_succ xs k hk, if_neg h1], fun x hx => ?_, fun i hi h2 => ?_⟩
 ·obtain ⟨i, h2, h3⟩ := he x hx
  exact ⟨i, by omega, h3⟩
 ·by_cases e : i = k
  ·rw [e] at h2; exact absurd h2 h1
  ·exact hp i (by omega) h2
theorem MapTx.len (h : MapTx w B k xs tx) (ty : TypeId) : (Builtin.len_ #[120] ty #[.map (some B)]).run Tryz.prog w = .ok (.int .i64 (boxNo xs k : Nat)) w := by
 obtain ⟨es, clock, hb, F, hs, _⟩ := h
 have := run_len_map (P := Tryz.prog) (w := w) 120 ty B es clock (by kernel_rfl) hb
 rw [this, hs]
 rfl
theorem MapTx.look (h : MapTx w B k xs tx) {i : Nat} (hi : i < k) (hk : k ≤ 1000) (h1 : (it xs i).kind = 1) : (Instr.lookup 120 (.map (some B)) (.int .i64 (i : Int)) false).run Tryz.prog w = .ok (.string (bs (tx.getD (boxNo xs i) []))) w := by
 obtain ⟨es, clock, hb, F, hs, he, hp⟩ := h
 have hz : (zeroValue 9).run Tryz.prog w = .ok (.string ByteArray.empty) w := by kernel_rfl
 rcases fit_look false keyedInt Tryz.underlying120 hz hb F (keyOfI i (by omega)) with ⟨_, h2, _⟩ | ⟨e0, y, h2, h3, h4, _⟩
 ·obtain ⟨x, hx, hxk⟩ := hp i hi h1
  exact absurd hxk (h2 x hx)
 ·obtain ⟨j, _, hj, hv⟩ := he e0 h2
  rw [h3, Value.int.injEq] at hj
  have : i = j := by have := hj.2; omega
  rw [h4, hv, this]
  rfl
theorem MapTx.put (h : MapTx w B k xs tx) (hk : k < xs.length) (h60 : xs.length ≤ 60) (h1 : (it xs k).kind = 1) :
  ∃ w', (Instr.mapUpdate 120 (.map (some B)) (.int .i64 (k : Int)) (.string (bs (tx.getD (boxNo xs k) [])))).run Tryz.prog w = .ok () w' ∧ MapTx w' B (k + 1) xs tx ∧ w.grownBy w' (some B) := by
 obtain ⟨es, clock, hb, F, hs, he, hp⟩ := h
 have hsz : es.size ≤ 60 := by rw [hs]; have := boxNo_le xs k; have : boxes xs ≤ xs.length := List.length_filter_le _ _; omega
 have hno : ∀ x ∈ es.toList, x.key ≠ .int .i64 (k : Int) := fun x hx e => by
  obtain ⟨i, h2, h3, _⟩ := he x hx
  rw [h3, Value.int.injEq] at e
  have := e.2
  omega
 have hkey := keyOfI k (by omega)
 have hv : RR (.string (bs (tx.getD (boxNo xs k) []))) = some (.lit (.bool true), []) := rfl
 rcases keyedInt.find w hkey es.toList F.keys with ⟨f1, _⟩ | ⟨j, e0, _, f2, f3⟩
 ·refine ⟨setBlock w B (.map (es.push ⟨.int .i64 (k : Int), .string (bs (tx.getD (boxNo xs k) [])), clock⟩) (clock + 1)), ?_, ⟨_, _, heap_setBlock_same hb _, ⟨by simp; unfold maxLen; omega, MapKept.stamped_push F.stamped hno, ?_⟩, ?_, ?_, ?_⟩, ⟨rfl, rfl, rfl, by simp [setBlock], fun i _ hi => heap_setBlock_other hb _ (fun e => hi (by rw [e]))⟩⟩
  ·exact push_run (R := RR) keyedInt Tryz.underlying120 hb hkey f1 rfl
  ·intro x hx
   simp only [Array.toList_push, List.mem_append, List.mem_singleton] at hx
   rcases hx with hx | rfl
   ·exact F.reads x hx
   ·exact ⟨_, Go.WideElems.rd_mk hkey hv⟩
  ·rw [Array.size_push, hs, boxNo_succ xs k hk, if_pos h1]
  ·intro x hx
   simp only [Array.toList_push, List.mem_append, List.mem_singleton] at hx
   rcases hx with hx | rfl
   ·obtain ⟨i, h2, h3⟩ := he x hx
    exact ⟨i, by omega, h3⟩
   ·exact ⟨k, by omega, rfl, rfl⟩
  ·intro i hi h2
   by_cases e : i = k
   ·exact ⟨_, by simp only [Array.toList_push, List.mem_append, List.mem_singleton]; exact .inr rfl, by rw [e]⟩
   ·obtain ⟨x, hx, hxk⟩ := hp i (by omega) h2
    exact ⟨x, by simp only [Array.toList_push, List.mem_append]; exact .inl hx, hxk⟩
 ·exact absurd f3 (hno e0 (List.mem_of_getElem? f2))
end
theorem wpList_mapTx (w : World) {ops : Array Oper} {rest : List Oper} {o : Oper} {a : Act} {Q : Exit → Act → World → Prop}
  (hg : o.guard = none) (m x v : Operand) (hop : o.op = Op.mapUpdate 120 m x v)
  (B : Nat) (key val : Value) (hm : a.eval m = .map (some B)) (hx : a.eval x = key) (hv : a.eval v = val) {P' : World → Prop} (h : ∃ w', (Instr.mapUpdate 120 (.map (some B)) key val).run Tryz.prog w = .ok () w' ∧ P' w' ∧ w.grownBy w' (some B))
  (hK : ∀ w', P' w' → w.grownBy w' (some B) → wpList Tryz.prog ops Q rest (a.put o.dst undef) w') :
  wpList Tryz.prog ops Q (o :: rest) a w := by
 refine wpList_plain hg fun K' hK' => ?_
 obtain ⟨w', hrun, r1, r2⟩ := h
 unfold Oper.wp
 simp [execOp, hop, hm, hx, hv, hrun, Result.andThen]
 exact hK' _ _ (hK w' r1 r2)
def addI (xs : List DItem) (tx : List (List UInt8)) (acc : List UInt8) (n : Nat) : List UInt8 := if (it xs n).kind = 1 then acc ++ tx.getD (boxNo xs n) [] else if 0 < (it xs n).w then acc ++ [32] else acc
theorem fold_ixTo (xs : List DItem) (tx : List (List UInt8)) (s : Nat) : ∀ k, (ixTo xs s (s + k)).foldl (addI xs tx) [] = imTo xs tx s k
 | 0 => by rw [Nat.add_zero, ixTo_none xs s s (Nat.le_refl _)]; rfl
 | k + 1 => by
  rw [show s + (k + 1) = (s + k) + 1 by omega, ixTo_next xs s (s + k) (by omega), imTo]
  by_cases h1 : (it xs (s + k)).kind = 1
  ·rw [if_pos (by omega), if_pos h1, List.foldl_append, fold_ixTo xs tx s k]
   show addI xs tx _ _ = _
   unfold addI
   rw [if_pos h1]
  ·rw [if_neg h1]
   by_cases h3 : (it xs (s + k)).kind ≠ 3
   ·rw [if_pos h3, List.foldl_append, fold_ixTo xs tx s k]
    show addI xs tx _ _ = _
    unfold addI
    rw [if_neg h1]
    by_cases hw : 0 < (it xs (s + k)).w
    ·rw [if_pos hw, if_pos ⟨h3, hw⟩]
    ·rw [if_neg hw, if_neg (fun h => hw h.2)]
   ·rw [if_neg h3, if_neg (fun h => h3 h.1), fold_ixTo xs tx s k]
theorem lineT_fold {xs : List DItem} {tx : List (List UInt8)} (h : ItemsOk xs) (htx : ∀ x ∈ tx, x ≠ []) (hb : boxes xs = tx.length) {a u : Nat} (hu : u < xs.length) (hl : lineB xs a u = true) :
  lineT xs tx a u = (lineX xs a u).foldl (addI xs tx) [] ++ (if (it xs u).mark = true then [45] else []) := by
 rw [lineT_prog h htx hb hu hl, lineX_yes hl]
 have hs : start xs a ≤ u := by
  unfold lineB at hl
  simp only [Bool.and_eq_true, decide_eq_true_eq] at hl
  exact hl.1.2.2
 have := fold_ixTo xs tx (start xs a) (u - start xs a)
 rw [show start xs a + (u - start xs a) = u by omega] at this
 rw [this]
theorem fold_len (xs : List DItem) (tx : List (List UInt8)) (h : ∀ k, (tx.getD k []).length ≤ 20) : ∀ (l : List Nat) (acc : List UInt8), (l.foldl (addI xs tx) acc).length ≤ acc.length + 20 * l.length
 | [], acc => by simp
 | n :: t, acc => by
  rw [List.foldl_cons]
  have := fold_len xs tx h t (addI xs tx acc n)
  have h2 : (addI xs tx acc n).length ≤ acc.length + 20 := by
   unfold addI
   split
   ·rw [List.length_append]; have := h (boxNo xs n); omega
   ·split
    ·simp
    ·omega
  rw [List.length_cons]
  omega
theorem foldl_take {α β : Type} (f : β → α → β) (z : β) (l : List α) (d : α) (k : Nat) (h : k < l.length) : (l.take (k + 1)).foldl f z = f ((l.take k).foldl f z) (l.getD k d) := by
 rw [List.take_succ_eq_append_getElem h, List.foldl_append, getD_eq l d k h]
 rfl
theorem PL.same {w w' : World} {v : Value} {ib kb pb n : Nat} {xs : List DItem} {br : List Nat} {tx : List (List UInt8)} (h : PL w v ib kb pb n xs br tx) (hg : w.grownBy w' v.ownBlock) : PL w' v ib kb pb n xs br tx :=
 ⟨h.it.kept hg h.i1, h.i1, Nat.lt_of_lt_of_le h.k0 hg.size, h.k1, fun j hj => (World.cell?_of_block (a := ⟨kb, j, none⟩) (hg.block kb h.k0 h.k1)).trans (h.k2 j hj),
  Nat.lt_of_lt_of_le h.p0 hg.size, h.p1, fun j hj => (World.cell?_of_block (a := ⟨pb, j, none⟩) (hg.block pb h.p0 h.p1)).trans (h.p2 j hj)⟩
theorem PL.as {w : World} {v v' : Value} {ib kb pb n : Nat} {xs : List DItem} {br : List Nat} {tx : List (List UInt8)} (h : PL w v ib kb pb n xs br tx) (h1 : some ib ≠ v'.ownBlock) (h2 : some kb ≠ v'.ownBlock) (h3 : some pb ≠ v'.ownBlock) : PL w v' ib kb pb n xs br tx :=
 ⟨h.it, h1, h.k0, h2, h.k2, h.p0, h3, h.p2⟩
end Go.Proofs.YtofnchdijanikaaGreatDoor

/-
  PROVED HERE: what the printer's lines need, part C21. Conditions: each theorem's own.
-/
import Derived.Test.YtofnchdijanikaaGreatDoorC20
import Derived.Carry
import Derived.Deep.RegionHeld3
set_option linter.unusedVariables false
set_option linter.unusedSimpArgs false
set_option maxRecDepth 100000
namespace Go.Proofs.YtofnchdijanikaaGreatDoor
open Go.RowKit
theorem irow_idx {w : World} {va : Option Addr} {vc : Nat} {X : List Nat} (h : IRow w (.slice va (ints X).length vc) (ints X)) : ∀ q, q < X.length → ∃ b off, va = some ⟨b, off, none⟩ ∧ w.cell? ⟨b, off + q, none⟩ = some (.int .i64 ((X.getD q 0 : Nat) : Int)) := by
 obtain ⟨a, c, e, _, hc⟩ := h
 injection e with e1
 subst e1
 intro q hq
 obtain ⟨b, off, e1, e2⟩ := hc q (by rw [ints_len]; exact hq)
 rw [ints_getD _ _ hq] at e2
 exact ⟨b, off, e1, e2⟩
set_option maxHeartbeats 16000000 in
theorem implPLines_any (wv pv : Value) (ws ps : List (List UInt8)) (hws : wordsB ws = true) (hw0 : 0 < ws.length) (hps : patsB ps = true) (wd most : Int) (hwd : 0 ≤ wd ∧ wd ≤ 1000) (hmo : 0 ≤ most ∧ most ≤ 10000) (w : World) (hw : TxtS w wv ws) (hr : TxtS w pv ps) :
  Calls Tryz.prog 85 #[wv, pv, .int .i64 wd, .int .i64 most] w (LinesPost ws ps wd most w) := by
 have hmm := @run_makeMap Tryz.prog
 have wa := words_all hws
 have wb : ∀ k, k < ws.length → wordB (ws.getD k []) = true := fun k hk => by rw [getD_eq ws [] k hk]; exact wa.1 _ (List.getElem_mem _)
 have PI := Lib.hid (implPara_any wv pv ws ps hws hw0 hps w hw hr)
 have TP := Lib.hid (texts_pos (ps := ps) wb hw0)
 have TS := Lib.hid (texts_short (ps := ps) wa.1)
 have BX := Lib.hid (paraI_boxes ws ps)
 have TX60 : Hid ((paraI ws ps).length ≤ 60 → (texts ws ps).length ≤ 60) := fun h => by rw [← paraI_boxes]; exact Nat.le_trans (List.length_filter_le _ _) h
 have PIS := Lib.hid (fun h => paraI_pis (ws := ws) (ps := ps) wa.1 h)
 have LN := Lib.hid (fun h => paraL_no (ws := ws) (ps := ps) (wd := wd) (most := most) h)
 have LI := Lib.hid (fun h => paraL_is (ws := ws) (ps := ps) (wd := wd) (most := most) h)
 have X3 := Lib.hid (paraI_pos ws ps)
 have HWD := Lib.hid hwd
 have HMO := Lib.hid hmo
 unfold ParaTPost at PI
 obtain ⟨xs, hxs⟩ : ∃ xs, xs = paraI ws ps := ⟨_, rfl⟩
 rw [← hxs] at PI PIS LN LI X3 BX TX60
 obtain ⟨tx, htx⟩ : ∃ tx, tx = texts ws ps := ⟨_, rfl⟩
 rw [← htx] at PI TP TS LI BX TX60
 clear hxs htx hr hwd hmo hw wa wb hws hw0 hps
 by_cases h60 : xs.length ≤ 60
 ·rw [decide_eq_true h60] at PI
  have HX := Lib.hid (PIS.out h60)
  have BB := Lib.hid (fun ib cap (w : World) (h : ItC w ib 0 xs.length xs) => implBreaks_any ib 0 cap xs.length xs HX.out w h (by have := X3.out; omega) wd most HWD.out HMO.out)
  have H60 := Lib.hid h60
  have TX60 := Lib.hid (TX60.out h60)
  have LL := LI.out h60
  clear h60 LN LI PIS
  cases hbb : bestBreaks xs wd most with
  | none =>
   have E : Hid (paraL ws ps wd most = none) := by show _ = _; rw [LL, hbb]; rfl
   unfold BrPost at BB
   rw [hbb] at BB
   clear hbb LL
   go_enter Tryz.func85, Tryz.ntmps85
   go_wp2_with (first | (go_at_call 105; refine PI.out.mono ?_; rintro e w2 ⟨v2, t2, rfl, o2, ot2, hb2⟩; obtain ⟨ib, icap, rfl, hib, hic⟩ := own_items_cells o2 (by have := X3.out; omega); obtain ⟨pb, pcap, rfl, hpb, hpl, hpc⟩ := own_texts_cells ot2 TP.out) | (go_at_call 106; refine (BB.out ib icap _ hic).mono ?_; rintro e w3 ⟨v3, rfl, o3, hb3⟩))
   go_ret2
   exact ⟨_, by rw [E.out]; rfl, by rw [E.out]; exact OwnT.nil _ _, below_next hb2 hb3 (Nat.le_refl _)⟩
  | some br =>
   have E : Hid (paraL ws ps wd most = some (linesT xs tx 0 br)) := by show _ = _; rw [LL, hbb]; rfl
   have CH := Lib.hid (breaks_chain hbb)
   have BP := breaks_pos hbb (by have := X3.out; omega)
   unfold BrPost at BB
   rw [hbb] at BB
   obtain ⟨nb, hnb⟩ : ∃ nb, nb = br.length := ⟨_, rfl⟩
   have HNB := Lib.hid hnb
   obtain ⟨n, hn⟩ : ∃ n, n = xs.length := ⟨_, rfl⟩
   have HN := Lib.hid hn
   have nb60 : nb ≤ 60 := by rw [hnb]; have := chain_len br 0 CH.out (Nat.zero_le _); have := H60.out; omega
   have n60 : n ≤ 60 := by have := H60.out; omega
   clear hbb LL
   rw [← hnb] at BP
   go_enter Tryz.func85, Tryz.ntmps85
   go_wp2_with (first | (go_at_call 105; refine PI.out.mono ?_; rintro e w2 ⟨v2, t2, rfl, o2, ot2, hb2⟩; obtain ⟨ib, icap, rfl, hib, hic⟩ := own_items_cells o2 (by have := X3.out; omega); obtain ⟨pb, pcap, rfl, hpb, hpl, hpc⟩ := own_texts_cells ot2 TP.out) | (go_at_call 106; refine (BB.out ib icap _ hic).mono ?_; rintro e w3 ⟨v3, rfl, o3, hb3⟩; obtain ⟨kb, kcap, rfl, hkb, hkl, hkc⟩ := own_ints_cells (br := br) o3 (by omega)))
   have b3 := below_next hb2 hb3 (Nat.le_refl _)
   have s2 := hb2.size
   have s3 := hb3.size
   have il := hic.2.1
   have AL4 : Below w3.heap.size w3 (w3.alloc (.map #[] 0)) := (Below.refl _ _).alloc (Nat.le_refl _) _
   have P4 : Hid (PL (w3.alloc (.map #[] 0)) (.slice (some ⟨w3.heap.size, 0, none⟩) 0 0) ib kb pb n xs br tx) := by
    refine PL.below (w := w3) ⟨?_, ?_, hkl, ?_, hkc, ?_, ?_, ?_⟩ AL4
    ·rw [hn]; exact hic.below hb3
    ·show some ib ≠ some w3.heap.size; intro e; have := Option.some.inj e; omega
    ·show some kb ≠ some w3.heap.size; intro e; have := Option.some.inj e; omega
    ·omega
    ·show some pb ≠ some w3.heap.size; intro e; have := Option.some.inj e; omega
    ·exact fun j hj => (hb3.cell (p := ⟨pb, j, none⟩) hpl).trans (hpc j hj)
   have M4 := Lib.hid (MapTx.made w3 xs tx)
   have B4 := Lib.hid (below_next b3 AL4 (Nat.le_refl _))
   have W3 : Hid (w.heap.size ≤ w3.heap.size) := by show _ ≤ _; omega
   obtain ⟨mb, hmb⟩ : ∃ mb, mb = w3.heap.size := ⟨_, rfl⟩
   rw [← hmb] at P4 M4 W3
   rw [← hnb, ← hn, ← hmb]
   clear o2 ot2 o3 hb2 hb3 b3 s2 s3 il AL4 hib hic hpb hpl hpc hkb hkl hkc hnb hn hmb hmm
   go_loopw [45] (fun i wr => ∃ k : Nat, k ≤ n ∧ i = .int .i64 k ∧ Hid (MapTx wr mb k xs tx) ∧ Hid (PL wr (.slice (some ⟨mb, 0, none⟩) 0 0) ib kb pb n xs br tx) ∧ Hid (Below w.heap.size w wr)) (fun i _ => n - (intOf i).toNat)
   case atStart => exact ⟨0, Nat.zero_le _, rfl, M4.out, P4.out, B4.out⟩
   case round =>
    obtain ⟨k, hk, rfl, h1, h2, h3⟩ := hrel
    clear M4 P4 B4
    by_cases hkn : k < n
    ·have hkn' : (k : Int) < (n : Int) := by omega
     have hkx : k < xs.length := by have := HN.out; omega
     obtain ⟨i0, i1, i2, i3, i4, i5, i6⟩ := h2.out.it.2.2 k hkn
     rw [Nat.zero_add] at i0 i1 i2 i3 i4 i5 i6
     by_cases hk1 : (it xs k).kind = 1
     ·rw [hk1] at i0
      have AZ : Below wr.heap.size wr (wr.alloc (.cells #[.int .i64 1, .int .i64 (it xs k).w, .int .i64 (it xs k).st, .int .i64 (it xs k).sh, .int .i64 (it xs k).od, .int .i64 (it xs k).cost, .bool (it xs k).mark] 113)) := (Below.refl _ _).alloc (Nat.le_refl _) _
      have m1 := h1.out.below AZ
      have P1 := Lib.hid (h2.out.below AZ)
      have B1 := Lib.hid (below_next h3.out AZ (Nat.le_refl _))
      have hlen := m1.len 3
      have bl := boxNo_lt xs k hkx hk1
      rw [BX.out] at bl
      have ct := P1.out.p2 _ bl
      have MP := Lib.hid (m1.put hkx H60.out hk1)
      obtain ⟨bx, hbx⟩ : ∃ bx, bx = boxNo xs k := ⟨_, rfl⟩
      rw [← hbx] at hlen bl ct MP
      obtain ⟨T, hT⟩ : ∃ T, T = tx.getD bx [] := ⟨_, rfl⟩
      rw [← hT] at ct MP
      have hbl : (bx : Int) < (tx.length : Int) := by omega
      clear AZ m1 h1 h2 h3 hbx hT hk1
      go_wp2_with (at_mapUpdate; refine wpList_mapTx _ rfl _ _ _ rfl mb (.int .i64 (k : Int)) (.string (bs T)) rfl rfl rfl MP.out ?_; intro w5 hm5 hg5)
      have P5 := Lib.hid (P1.out.same (show (wr.alloc (.cells #[.int .i64 1, .int .i64 (it xs k).w, .int .i64 (it xs k).st, .int .i64 (it xs k).sh, .int .i64 (it xs k).od, .int .i64 (it xs k).cost, .bool (it xs k).mark] 113)).grownBy w5 (some mb) from hg5))
      have B5 := Lib.hid (B1.out.grown hg5 B1.out.size (fun k hk => by cases hk; exact W3.out))
      first
       | exact ⟨⟨k + 1, by omega, by go_num, hm5, P5.out, B5.out⟩, by (simp [intOf]) <;> omega⟩
       | (go_roundw
          case rel => exact ⟨k + 1, by omega, by go_num, hm5, P5.out, B5.out⟩
          case measure => (simp [intOf]) <;> omega)
     ·have hkne : ((it xs k).kind == 1) = false := by rw [beq_eq_false_iff_ne]; exact hk1
      have AZ : Below wr.heap.size wr (wr.alloc (.cells #[.int .i64 (it xs k).kind, .int .i64 (it xs k).w, .int .i64 (it xs k).st, .int .i64 (it xs k).sh, .int .i64 (it xs k).od, .int .i64 (it xs k).cost, .bool (it xs k).mark] 113)) := (Below.refl _ _).alloc (Nat.le_refl _) _
      have M1 := Lib.hid ((h1.out.skip hkx hk1).below AZ)
      have P1 := Lib.hid (h2.out.below AZ)
      have B1 := Lib.hid (below_next h3.out AZ (Nat.le_refl _))
      clear AZ h1 h2 h3 hk1
      go_wp2_with fail
      first
       | exact ⟨⟨k + 1, by omega, by go_num, M1.out, P1.out, B1.out⟩, by (simp [intOf]) <;> omega⟩
       | (go_roundw
          case rel => exact ⟨k + 1, by omega, by go_num, M1.out, P1.out, B1.out⟩
          case measure => (simp [intOf]) <;> omega)
    ·obtain rfl : k = n := by omega
     have P5 : Hid (PL wr (.slice none 0 0) ib kb pb k xs br tx) := h2.out.as (fun e => by cases e) (fun e => by cases e) (fun e => by cases e)
     have MM : Hid (MapTx wr mb k xs tx) := h1.out
     have B5 := h3
     have NN : Hid (some mb ≠ (Value.slice none 0 0).ownBlock) := fun e => by cases e
     clear h1 h2 h3 hkn hk
     go_wp2_with fail
     go_loopw [17, 18, 63] (fun v af i wr => ∃ (j a : Nat) (done : List (List UInt8)), j ≤ nb ∧ a ≤ k ∧ done.length = j ∧ af = .int .i64 ((a : Int) - 1) ∧ i = .int .i64 j ∧ Hid (linesT xs tx 0 br = done ++ linesT xs tx a (br.drop j)) ∧ Hid (Chain xs a (br.drop j)) ∧ Hid (OwnT wr w.heap.size v done) ∧ Hid (PL wr v ib kb pb k xs br tx) ∧ Hid (MapTx wr mb k xs tx) ∧ Hid (some mb ≠ v.ownBlock) ∧ Hid (Below w.heap.size w wr)) (fun _ _ i _ => nb - (intOf i).toNat)
     case atStart => exact ⟨0, 0, [], Nat.zero_le _, Nat.zero_le _, rfl, rfl, rfl, rfl, CH.out, OwnT.nil _ _, P5.out, MM.out, NN.out, B5.out⟩
     case round =>
      obtain ⟨j, a, done, hj, ha, hdl, rfl, rfl, hln, hch, h1, h2, hmt, hmn, h3⟩ := hrel
      clear P5 MM NN B5
      by_cases hjb : j < nb
      ·have hdrop := drop_next br 0 j (by have := HNB.out; omega)
       have hch2 := hch.out
       have hln2 := hln.out
       rw [hdrop] at hch2 hln2
       obtain ⟨c1, c2, c3, c4⟩ := hch2
       have ck := h2.out.k2 j (by have := HNB.out; omega)
       obtain ⟨u, hu⟩ : ∃ u, u = br.getD j 0 := ⟨_, rfl⟩
       rw [← hu] at c1 c2 c3 c4 ck hln2
       have LTF := Lib.hid (lineT_fold HX.out.ok (fun x hx => (TS.out x hx).2) BX.out c2 c3)
       rw [← HN.out] at c2
       have LIA := Lib.hid (implItemsOf_any ib 0 icap k a u xs HX.out wr h2.out.it c1 c2)
       have LNX := Lib.hid (show linesT xs tx 0 br = (done ++ [lineT xs tx a u]) ++ linesT xs tx (u + 1) (br.drop (j + 1)) by rw [hln2, linesT, List.append_assoc]; rfl)
       have CHX := Lib.hid c4
       have hjb' : (j : Int) < (nb : Int) := by omega
       have C7 := h2.out.it.2.2 u c2
       have i6 := C7.c6
       rw [Nat.zero_add] at i6
       obtain ⟨X, hX⟩ : ∃ X, X = lineX xs a u := ⟨_, rfl⟩
       rw [← hX] at LIA LTF
       have hall : ∀ x ∈ X, x < u := by rw [hX, lineX_yes c3]; exact ixTo_lt xs _ u
       have XM : Hid (∀ q, q < X.length → X.getD q 0 < u) := fun q hq => by
        rw [getD_eq X 0 q hq]
        exact hall _ (List.getElem_mem hq)
       clear hall
       have XL60 : X.length ≤ 60 := by rw [hX, lineX_yes c3]; have := ixTo_len xs (start xs a) u; omega
       have FL := Lib.hid (fun q => (show ((X.take q).foldl (addI xs tx) []).length ≤ 1200 by
        have := fold_len xs tx (fun k => getD_short TS.out k) (X.take q) []
        rw [List.length_take] at this
        simp at this
        omega))
       have GDS := Lib.hid (fun k => getD_short TS.out k)
       have FT := Lib.hid (fun q (hq : q < X.length) => foldl_take (addI xs tx) [] X 0 q hq)
       have HDL := Lib.hid hdl
       have C2 := Lib.hid c2
       obtain ⟨len, hlen⟩ : ∃ l, l = X.length := ⟨_, rfl⟩
       have HLEN := Lib.hid hlen
       have FA : Hid ((X.take len).foldl (addI xs tx) [] = X.foldl (addI xs tx) []) := by show _ = _; rw [hlen, List.take_length]
       rw [← hlen] at XM XL60 FT
       have DLEN : done.length ≤ 4000000 := by omega
       clear hdrop hch hln hln2 c3 c4 hu hX C7 hdl c2 hlen
       go_wp2_with (go_at_call 107; refine LIA.out.mono ?_; rintro e w5 ⟨v5, rfl, o5, hb5⟩; obtain ⟨va, vc, rfl⟩ : ∃ va vc, v5 = .slice va (ints X).length vc := (by obtain ⟨a, c, e, _⟩ := OwnI.row o5; exact ⟨a, c, e⟩); have IX := Lib.hid (irow_idx (OwnI.row o5)); rw [ints_len, ← HLEN.out])
       have h25 := Lib.hid (h2.out.below hb5)
       have h15 := Lib.hid (owns_below h1.out hb5)
       have h35 := Lib.hid (below_next h3.out hb5 (Nat.le_refl _))
       have m5 := Lib.hid (hmt.out.below hb5)
       have i66 := h25.out.it.2.2 u C2.out |>.c6
       rw [Nat.zero_add] at i66
       clear hb5 h1 h2 h3 hmt o5 i6
       go_loopw [21, 72] (fun ln i wx => ∃ q : Nat, q ≤ len ∧ ln = .string (bs ((X.take q).foldl (addI xs tx) [])) ∧ i = .int .i64 q ∧ wx = w5) (fun _ i _ => len - (intOf i).toNat)
       case atStart => exact ⟨0, Nat.zero_le _, rfl, rfl, rfl⟩
       case round =>
        obtain ⟨q, hq, rfl, rfl, rfl⟩ := hrel
        by_cases hql : q < len
        ·have hql' : (q : Int) < (len : Int) := by omega
         obtain ⟨lb, lo, rfl, lc⟩ := IX.out q (by rw [← HLEN.out]; exact hql)
         have XMq := XM.out q hql
         have FTq := FT.out q hql
         have FLq := FL.out q
         obtain ⟨p, hp⟩ : ∃ p, p = X.getD q 0 := ⟨_, rfl⟩
         rw [← hp] at lc XMq FTq
         obtain ⟨L, hL⟩ : ∃ L, L = (X.take q).foldl (addI xs tx) [] := ⟨_, rfl⟩
         rw [← hL] at FTq FLq ⊢
         have hpk : p < k := by have := C2.out; omega
         have hpk' : (p : Int) < (k : Int) := by omega
         have C7 := h25.out.it.2.2 p hpk
         have i0 := C7.c0
         have i1 := C7.c1
         rw [Nat.zero_add] at i0 i1
         have hsz : (bs L).size = L.length := bs_len L
         have hc1 : ¬ 9223372036854775807 < L.length + 1 := by omega
         have BA1 : bs L ++ (⟨#[32]⟩ : ByteArray) = bs (L ++ [32]) := by rw [show (⟨#[32]⟩ : ByteArray) = bs [32] from rfl, bs_append]
         have FTH := Lib.hid FTq
         clear hp hL C7 FTq
         by_cases hk1 : (it xs p).kind = 1
         ·rw [hk1] at i0
          have lk := m5.out.look hpk (by omega) hk1
          have GL := GDS.out (boxNo xs p)
          have SP : Hid ((X.take (q + 1)).foldl (addI xs tx) [] = L ++ tx.getD (boxNo xs p) []) := by show _ = _; rw [FTH.out]; unfold addI; rw [if_pos hk1]
          obtain ⟨P, hP⟩ : ∃ P, P = tx.getD (boxNo xs p) [] := ⟨_, rfl⟩
          rw [← hP] at lk GL SP
          have hsz2 : (bs P).size = P.length := bs_len P
          have hc2 : ¬ 9223372036854775807 < L.length + P.length := by omega
          have BA2 : bs L ++ bs P = bs (L ++ P) := bs_append L P
          clear hP hk1 FTH
          go_wp2_with fail
          first
           | exact ⟨⟨q + 1, by omega, by rw [SP.out], by go_num, by first | rfl | trivial⟩, by (simp [intOf]) <;> omega⟩
           | (go_roundw
              case rel => exact ⟨q + 1, by omega, by rw [SP.out], by go_num, by first | rfl | trivial⟩
              case measure => (simp [intOf]) <;> omega)
         ·have hkne : ((it xs p).kind == 1) = false := by rw [beq_eq_false_iff_ne]; exact hk1
          by_cases hw0 : 0 < (it xs p).w
          ·have SP : Hid ((X.take (q + 1)).foldl (addI xs tx) [] = L ++ [32]) := by show _ = _; rw [FTH.out]; unfold addI; rw [if_neg hk1, if_pos hw0]
           clear hk1 FTH
           go_wp2_with fail
           first
            | exact ⟨⟨q + 1, by omega, by rw [SP.out], by go_num, by first | rfl | trivial⟩, by (simp [intOf]) <;> omega⟩
            | (go_roundw
               case rel => exact ⟨q + 1, by omega, by rw [SP.out], by go_num, by first | rfl | trivial⟩
               case measure => (simp [intOf]) <;> omega)
          ·have SP : Hid ((X.take (q + 1)).foldl (addI xs tx) [] = L) := by show _ = _; rw [FTH.out]; unfold addI; rw [if_neg hk1, if_neg hw0]
           clear hk1 FTH
           go_wp2_with fail
           first
            | exact ⟨⟨q + 1, by omega, by rw [SP.out], by go_num, by first | rfl | trivial⟩, by (simp [intOf]) <;> omega⟩
            | (go_roundw
               case rel => exact ⟨q + 1, by omega, by rw [SP.out], by go_num, by first | rfl | trivial⟩
               case measure => (simp [intOf]) <;> omega)
        ·obtain rfl : q = len := by omega
         have L1 := FL.out q
         have hFA := FA.out
         have hLT := LTF.out
         rw [← hFA] at hLT
         obtain ⟨L, hL⟩ : ∃ L, L = (X.take q).foldl (addI xs tx) [] := ⟨_, rfl⟩
         rw [← hL] at L1 hLT ⊢
         have hsz : (bs L).size = L.length := bs_len L
         have hc1 : ¬ 9223372036854775807 < L.length + 1 := by omega
         have BA1 : bs L ++ (⟨#[45]⟩ : ByteArray) = bs (L ++ [45]) := by rw [show (⟨#[45]⟩ : ByteArray) = bs [45] from rfl, bs_append]
         have C22 := C2.out
         have hu2 : (u : Int) < (k : Int) := by omega
         clear hL hFA hql hq
         cases hmk : (it xs u).mark with
         | true =>
          rw [hmk] at i66 hLT
          have LTE := Lib.hid (show lineT xs tx a u = L ++ [45] from hLT)
          clear hmk hLT
          go_wp2_with (at_builtin; refine append_str w wr rfl _ _ rfl w.heap.size u17 done (L ++ [45]) rfl rfl h15.out DLEN (Nat.le_refl _) h35.out ?_; intro v' w7 hown' hbel hmv hgr)
          have PX := Lib.hid (h25.out.append hmv hgr)
          have MX := Lib.hid (m5.out.kept hgr hmn.out)
          have NX := Lib.hid (moved_alloc hmv hmn.out m5.out.lt)
          first
           | exact ⟨⟨j + 1, u + 1, done ++ [(L ++ [45])], by omega, by have := C2.out; omega, by rw [List.length_append, HDL.out]; rfl, by go_num, by go_num, by rw [← LTE.out]; exact LNX.out, CHX.out, hown', PX.out, MX.out, NX.out, hbel⟩, by (simp [intOf]) <;> omega⟩
           | (go_roundw
              case rel => exact ⟨j + 1, u + 1, done ++ [(L ++ [45])], by omega, by have := C2.out; omega, by rw [List.length_append, HDL.out]; rfl, by go_num, by go_num, by rw [← LTE.out]; exact LNX.out, CHX.out, hown', PX.out, MX.out, NX.out, hbel⟩
              case measure => (simp [intOf]) <;> omega)
         | false =>
          rw [hmk] at i66 hLT
          have LTE := Lib.hid (show lineT xs tx a u = L by rw [hLT]; simp)
          clear hmk hLT
          go_wp2_with (at_builtin; refine append_str w wr rfl _ _ rfl w.heap.size u17 done L rfl rfl h15.out DLEN (Nat.le_refl _) h35.out ?_; intro v' w7 hown' hbel hmv hgr)
          have PX := Lib.hid (h25.out.append hmv hgr)
          have MX := Lib.hid (m5.out.kept hgr hmn.out)
          have NX := Lib.hid (moved_alloc hmv hmn.out m5.out.lt)
          first
           | exact ⟨⟨j + 1, u + 1, done ++ [L], by omega, by have := C2.out; omega, by rw [List.length_append, HDL.out]; rfl, by go_num, by go_num, by rw [← LTE.out]; exact LNX.out, CHX.out, hown', PX.out, MX.out, NX.out, hbel⟩, by (simp [intOf]) <;> omega⟩
           | (go_roundw
              case rel => exact ⟨j + 1, u + 1, done ++ [L], by omega, by have := C2.out; omega, by rw [List.length_append, HDL.out]; rfl, by go_num, by go_num, by rw [← LTE.out]; exact LNX.out, CHX.out, hown', PX.out, MX.out, NX.out, hbel⟩
              case measure => (simp [intOf]) <;> omega)
      ·obtain rfl : j = nb := by omega
       have E2 : Hid (paraL ws ps wd most = some done) := by
        show _ = _
        have := hln.out
        rw [List.drop_of_length_le (by have := HNB.out; omega)] at this
        rw [E.out, this]
        show some (done ++ []) = some done
        rw [List.append_nil]
       go_wp2
       go_ret2
       exact ⟨_, by rw [E2.out]; rfl, by rw [E2.out]; exact h1.out, h3.out⟩
 ·rw [decide_eq_false h60] at PI
  have E : Hid (paraL ws ps wd most = none) := LN.out h60
  clear h60
  go_enter Tryz.func85, Tryz.ntmps85
  go_wp2_with (first | (go_at_call 105; refine PI.out.mono ?_; rintro e w2 ⟨v2, t2, rfl, o2, ot2, hb2⟩))
  go_ret2
  exact ⟨_, by rw [E.out]; rfl, by rw [E.out]; exact OwnT.nil _ _, hb2⟩
end Go.Proofs.YtofnchdijanikaaGreatDoor
namespace Go.Proofs.YtofnchdijanikaaGreatDoor
open Go.RowKit
theorem ss_idx {w : World} {v : Value} {xss : List (List (List UInt8))} (h : TxtSS w v xss) : ∃ va vc, v = .slice va xss.length vc ∧ xss.length ≤ 9223372036854775807 ∧ ∀ j, j < xss.length → ∃ b off u, va = some ⟨b, off, none⟩ ∧ b < w.heap.size ∧ w.cell? ⟨b, off + j, none⟩ = some u ∧ TxtS w u (xss.getD j []) := by
 obtain ⟨us, ⟨a, cap, e, hl, hc⟩, h2, h3⟩ := h
 rw [h2] at e hl
 refine ⟨a, cap, e, hl, fun j hj => ?_⟩
 obtain ⟨b, off, e1, h4⟩ := hc j (by omega)
 obtain ⟨u, h5, h6⟩ := h3 j hj
 have h7 : us[j]'(by omega) = u := by rw [List.getElem?_eq_getElem (by omega)] at h5; exact Option.some.inj h5
 have h8 := h4 0 u (by rw [h7]; rfl)
 rw [show off + j * 1 + 0 = off + j by omega] at h8
 rw [getD_eq xss [] j hj]
 exact ⟨b, off, u, e1, World.block_lt_of_cell? w _ h8, h8, h6⟩
set_option maxHeartbeats 8000000 in
theorem implBook_any (b : DBook) (hs : BookSh b) (v : Value) (w : World) (h : BookR w v b) : Calls Tryz.prog 27 #[v] w (Ret (.bool (bookB b)) w) := by
 obtain ⟨pv, qv, rfl, hp, hq⟩ := h
 obtain ⟨va, vc, rfl, hl, hidx⟩ := ss_idx hp
 have SP := Lib.hid (fun k (hk : k < b.pars.length) => (show Sh (b.pars.getD k []) by rw [getD_eq b.pars [] k hk]; exact hs.pars _ (List.getElem_mem hk)))
 obtain ⟨n, hn⟩ : ∃ n, n = b.pars.length := ⟨_, rfl⟩
 rw [← hn] at hidx hl SP ⊢
 have HN := Lib.hid hn
 obtain ⟨bw, hbw⟩ : ∃ x, x = b.w := ⟨_, rfl⟩
 obtain ⟨bm, hbm⟩ : ∃ x, x = b.most := ⟨_, rfl⟩
 obtain ⟨bl, hbl⟩ : ∃ x, x = b.lines := ⟨_, rfl⟩
 rw [← hbw, ← hbm, ← hbl]
 obtain ⟨ib1, hi1⟩ : ∃ x, x = inB bw 0 1000 := ⟨_, rfl⟩
 obtain ⟨ib2, hi2⟩ : ∃ x, x = inB bm 0 10000 := ⟨_, rfl⟩
 obtain ⟨ib3, hi3⟩ : ∃ x, x = inB bl 1 30 := ⟨_, rfl⟩
 have AW0 : Below w.heap.size w (w.alloc (.cells #[.slice va n vc, qv, .int .i64 bw, .int .i64 bm, .int .i64 bl] 27)) := (Below.refl _ _).alloc (Nat.le_refl _) _
 have PV0 := implPats_any qv b.pats _ (hq.below AW0) hs.pats
 obtain ⟨pb, hpb⟩ : ∃ x, x = patsB b.pats := ⟨_, rfl⟩
 rw [← hpb] at PV0
 have PV := Lib.hid PV0
 have I1 := Lib.hid hi1.symm
 have I2 := Lib.hid hi2.symm
 have I3 := Lib.hid hi3.symm
 have PBE := Lib.hid hpb.symm
 have IE1 : Hid (inB b.w 0 1000 = ib1) := by show _ = _; rw [hi1, hbw]
 have IE2 : Hid (inB b.most 0 10000 = ib2) := by show _ = _; rw [hi2, hbm]
 have IE3 : Hid (inB b.lines 1 30 = ib3) := by show _ = _; rw [hi3, hbl]
 have AW := Lib.hid AW0
 have HI := Lib.hid hidx
 have WA := Lib.hid (fun u xs w' h hx => implWords_any u xs w' h hx)
 clear hs hp hq hidx hn hbw hbm hbl hi1 hi2 hi3 hpb PV0 AW0
 go_enter Tryz.func27, Tryz.ntmps27
 go_wp2_with fail
 go_loopw [8] (fun i wr => ∃ k : Nat, k ≤ n ∧ i = .int .i64 k ∧ wr = (w.alloc (.cells #[.slice va n vc, qv, .int .i64 bw, .int .i64 bm, .int .i64 bl] 27)) ∧ Hid (∀ j, j < k → parB (b.pars.getD j []) = true)) (fun i _ => n - (intOf i).toNat)
 case atStart => exact ⟨0, Nat.zero_le _, rfl, rfl, fun j hj => by omega⟩
 case round =>
  obtain ⟨k, hk, rfl, rfl, AL⟩ := hrel
  by_cases hkn : k < n
  ·have hkn' : (k : Int) < (n : Int) := by omega
   obtain ⟨b1, o1, u, rfl, b2, c1, hu⟩ := HI.out k hkn
   have c2 := AW.out.cell (p := ⟨b1, o1 + k, none⟩) b2
   rw [c1] at c2
   have WV := WA.out u (b.pars.getD k []) _ (hu.below AW.out) (SP.out k hkn)
   obtain ⟨ua, ul, uc, rfl, hul⟩ : ∃ ua ul uc, u = .slice ua ul uc ∧ ul = (b.pars.getD k []).length := by obtain ⟨a, c, e, _⟩ := hu; exact ⟨a, _, c, e, rfl⟩
   have PB : Hid (parB (b.pars.getD k []) = (wordsB (b.pars.getD k []) && !decide (ul = 0))) := by show _ = _; rw [hul]; rfl
   obtain ⟨wv, hwv⟩ : ∃ x, x = wordsB (b.pars.getD k []) := ⟨_, rfl⟩
   rw [← hwv] at WV PB
   have WVH := Lib.hid WV
   have BAD : Hid (parB (b.pars.getD k []) = false → bookB b = false) := fun h => by
    have hk2 : k < b.pars.length := by have := HN.out; omega
    rw [getD_eq b.pars [] k hk2] at h
    unfold bookB
    rw [all_bad hk2 h]
    rfl
   clear c1 hu hul hwv WV
   cases wv
   ·have E := Lib.hid (BAD.out (by rw [PB.out]; rfl))
    go_wp2_with (go_at_call 55; refine WVH.out.mono ?_; rintro e w' ⟨rfl, rfl⟩)
    go_ret
    exact ⟨by rw [E.out] <;> simp, AW.out⟩
   ·by_cases h0 : ul = 0
    ·have E := Lib.hid (BAD.out (by rw [PB.out, h0]; rfl))
     have z : ((ul : Int) == 0) = true := by rw [beq_iff_eq]; omega
     clear h0
     go_wp2_with (go_at_call 55; refine WVH.out.mono ?_; rintro e w' ⟨rfl, rfl⟩)
     go_ret
     exact ⟨by rw [E.out] <;> simp, AW.out⟩
    ·have z : ((ul : Int) == 0) = false := by rw [beq_eq_false_iff_ne]; omega
     have AL2 : Hid (∀ j, j < k + 1 → parB (b.pars.getD j []) = true) := fun j hj => by
      by_cases e : j = k
      ·rw [e, PB.out, decide_eq_false h0]; rfl
      ·exact AL.out j (by omega)
     clear h0
     go_wp2_with (go_at_call 55; refine WVH.out.mono ?_; rintro e w' ⟨rfl, rfl⟩)
     first
      | exact ⟨⟨k + 1, by omega, by go_num, by first | rfl | trivial, AL2.out⟩, by (simp [intOf]) <;> omega⟩
      | (go_roundw
         case rel => exact ⟨k + 1, by omega, by go_num, by first | rfl | trivial, AL2.out⟩
         case measure => (simp [intOf]) <;> omega)
  ·obtain rfl : k = n := by omega
   have PA : Hid (b.pars.all parB = true) := all_good (fun k hk => by have := AL.out k (by have := HN.out; omega); rw [getD_eq b.pars [] k hk] at this; exact this)
   have BB : Hid (bookB b = (decide (k ≤ 6) && pb && ib1 && ib2 && ib3)) := by
    show _ = _
    unfold bookB
    rw [PA.out, ← HN.out, PBE.out, IE1.out, IE2.out, IE3.out]
    simp
   by_cases h6 : k ≤ 6
   ·have h6' : (k : Int) ≤ 6 := by omega
    cases pb
    ·have E : Hid (bookB b = false) := by show _ = _; rw [BB.out]; simp
     go_wp2_with (first | (go_at_call 56; refine PV.out.mono ?_; rintro e w' ⟨rfl, rfl⟩) | (go_at_call 57; refine (in_any _ _ _ _).mono ?_; rintro e w' ⟨rfl, rfl⟩; first | rw [I1.out] | rw [I2.out] | rw [I3.out]) | (go_at_call 58; refine (isBad_any _ _).mono ?_; rintro e w' ⟨rfl, rfl⟩; rw [I2.out]))
     go_ret
     exact ⟨by rw [E.out] <;> simp, AW.out⟩
    ·cases ib1
     ·have E : Hid (bookB b = false) := by show _ = _; rw [BB.out]; simp
      go_wp2_with (first | (go_at_call 56; refine PV.out.mono ?_; rintro e w' ⟨rfl, rfl⟩) | (go_at_call 57; refine (in_any _ _ _ _).mono ?_; rintro e w' ⟨rfl, rfl⟩; first | rw [I1.out] | rw [I2.out] | rw [I3.out]) | (go_at_call 58; refine (isBad_any _ _).mono ?_; rintro e w' ⟨rfl, rfl⟩; rw [I2.out]))
      go_ret
      exact ⟨by rw [E.out] <;> simp, AW.out⟩
     ·cases ib2
      ·have E : Hid (bookB b = false) := by show _ = _; rw [BB.out]; simp
       go_wp2_with (first | (go_at_call 56; refine PV.out.mono ?_; rintro e w' ⟨rfl, rfl⟩) | (go_at_call 57; refine (in_any _ _ _ _).mono ?_; rintro e w' ⟨rfl, rfl⟩; first | rw [I1.out] | rw [I2.out] | rw [I3.out]) | (go_at_call 58; refine (isBad_any _ _).mono ?_; rintro e w' ⟨rfl, rfl⟩; rw [I2.out]))
       go_ret
       exact ⟨by rw [E.out] <;> simp, AW.out⟩
      ·cases ib3
       ·have E : Hid (bookB b = false) := by show _ = _; rw [BB.out]; simp
        go_wp2_with (first | (go_at_call 56; refine PV.out.mono ?_; rintro e w' ⟨rfl, rfl⟩) | (go_at_call 57; refine (in_any _ _ _ _).mono ?_; rintro e w' ⟨rfl, rfl⟩; first | rw [I1.out] | rw [I2.out] | rw [I3.out]) | (go_at_call 58; refine (isBad_any _ _).mono ?_; rintro e w' ⟨rfl, rfl⟩; rw [I2.out]))
        go_ret
        exact ⟨by rw [E.out] <;> simp, AW.out⟩
       ·have E : Hid (bookB b = true) := by show _ = _; rw [BB.out, decide_eq_true h6]; rfl
        go_wp2_with (first | (go_at_call 56; refine PV.out.mono ?_; rintro e w' ⟨rfl, rfl⟩) | (go_at_call 57; refine (in_any _ _ _ _).mono ?_; rintro e w' ⟨rfl, rfl⟩; first | rw [I1.out] | rw [I2.out] | rw [I3.out]) | (go_at_call 58; refine (isBad_any _ _).mono ?_; rintro e w' ⟨rfl, rfl⟩; rw [I2.out]))
        go_ret
        exact ⟨by rw [E.out] <;> simp, AW.out⟩
   ·have h6' : ¬ (k : Int) ≤ 6 := by omega
    have E : Hid (bookB b = false) := by show _ = _; rw [BB.out, decide_eq_false h6]; simp
    go_wp2_with (first | (go_at_call 56; refine PV.out.mono ?_; rintro e w' ⟨rfl, rfl⟩) | (go_at_call 57; refine (in_any _ _ _ _).mono ?_; rintro e w' ⟨rfl, rfl⟩; first | rw [I1.out] | rw [I2.out] | rw [I3.out]) | (go_at_call 58; refine (isBad_any _ _).mono ?_; rintro e w' ⟨rfl, rfl⟩; rw [I2.out]))
    go_ret
    exact ⟨by rw [E.out] <;> simp, AW.out⟩
set_option maxHeartbeats 8000000 in
theorem specBook_any (b : DBook) (hs : BookSh b) (v : Value) (w : World) (h : BookR w v b) : Calls Tryz.prog 19 #[v] w (Ret (.bool (bookB b)) w) := by
 obtain ⟨pv, qv, rfl, hp, hq⟩ := h
 obtain ⟨va, vc, rfl, hl, hidx⟩ := ss_idx hp
 have SP := Lib.hid (fun k (hk : k < b.pars.length) => (show Sh (b.pars.getD k []) by rw [getD_eq b.pars [] k hk]; exact hs.pars _ (List.getElem_mem hk)))
 obtain ⟨n, hn⟩ : ∃ n, n = b.pars.length := ⟨_, rfl⟩
 rw [← hn] at hidx hl SP ⊢
 have HN := Lib.hid hn
 obtain ⟨bw, hbw⟩ : ∃ x, x = b.w := ⟨_, rfl⟩
 obtain ⟨bm, hbm⟩ : ∃ x, x = b.most := ⟨_, rfl⟩
 obtain ⟨bl, hbl⟩ : ∃ x, x = b.lines := ⟨_, rfl⟩
 rw [← hbw, ← hbm, ← hbl]
 obtain ⟨ib1, hi1⟩ : ∃ x, x = inB bw 0 1000 := ⟨_, rfl⟩
 obtain ⟨ib2, hi2⟩ : ∃ x, x = inB bm 0 10000 := ⟨_, rfl⟩
 obtain ⟨ib3, hi3⟩ : ∃ x, x = inB bl 1 30 := ⟨_, rfl⟩
 have AW0 : Below w.heap.size w (w.alloc (.cells #[.slice va n vc, qv, .int .i64 bw, .int .i64 bm, .int .i64 bl] 27)) := (Below.refl _ _).alloc (Nat.le_refl _) _
 have PV0 := specPats_any qv b.pats _ (hq.below AW0) hs.pats
 obtain ⟨pb, hpb⟩ : ∃ x, x = patsB b.pats := ⟨_, rfl⟩
 rw [← hpb] at PV0
 have PV := Lib.hid PV0
 have I1 := Lib.hid hi1.symm
 have I2 := Lib.hid hi2.symm
 have I3 := Lib.hid hi3.symm
 have PBE := Lib.hid hpb.symm
 have IE1 : Hid (inB b.w 0 1000 = ib1) := by show _ = _; rw [hi1, hbw]
 have IE2 : Hid (inB b.most 0 10000 = ib2) := by show _ = _; rw [hi2, hbm]
 have IE3 : Hid (inB b.lines 1 30 = ib3) := by show _ = _; rw [hi3, hbl]
 have AW := Lib.hid AW0
 have HI := Lib.hid hidx
 have WA := Lib.hid (fun u xs w' h hx => specWords_any u xs w' h hx)
 clear hs hp hq hidx hn hbw hbm hbl hi1 hi2 hi3 hpb PV0 AW0
 go_enter Tryz.func19, Tryz.ntmps19
 go_wp2_with fail
 go_loopw [3] (fun i wr => ∃ k : Nat, k ≤ n ∧ i = .int .i64 k ∧ wr = (w.alloc (.cells #[.slice va n vc, qv, .int .i64 bw, .int .i64 bm, .int .i64 bl] 27)) ∧ Hid (∀ j, j < k → parB (b.pars.getD j []) = true)) (fun i _ => n - (intOf i).toNat)
 case atStart => exact ⟨0, Nat.zero_le _, rfl, rfl, fun j hj => by omega⟩
 case round =>
  obtain ⟨k, hk, rfl, rfl, AL⟩ := hrel
  by_cases hkn : k < n
  ·have hkn' : (k : Int) < (n : Int) := by omega
   obtain ⟨b1, o1, u, rfl, b2, c1, hu⟩ := HI.out k hkn
   have c2 := AW.out.cell (p := ⟨b1, o1 + k, none⟩) b2
   rw [c1] at c2
   have WV := WA.out u (b.pars.getD k []) _ (hu.below AW.out) (SP.out k hkn)
   obtain ⟨ua, ul, uc, rfl, hul⟩ : ∃ ua ul uc, u = .slice ua ul uc ∧ ul = (b.pars.getD k []).length := by obtain ⟨a, c, e, _⟩ := hu; exact ⟨a, _, c, e, rfl⟩
   have PB : Hid (parB (b.pars.getD k []) = (wordsB (b.pars.getD k []) && !decide (ul = 0))) := by show _ = _; rw [hul]; rfl
   obtain ⟨wv, hwv⟩ : ∃ x, x = wordsB (b.pars.getD k []) := ⟨_, rfl⟩
   rw [← hwv] at WV PB
   have WVH := Lib.hid WV
   have BAD : Hid (parB (b.pars.getD k []) = false → bookB b = false) := fun h => by
    have hk2 : k < b.pars.length := by have := HN.out; omega
    rw [getD_eq b.pars [] k hk2] at h
    unfold bookB
    rw [all_bad hk2 h]
    rfl
   clear c1 hu hul hwv WV
   cases wv
   ·have E := Lib.hid (BAD.out (by rw [PB.out]; rfl))
    go_wp2_with (go_at_call 51; refine WVH.out.mono ?_; rintro e w' ⟨rfl, rfl⟩)
    go_ret
    exact ⟨by rw [E.out] <;> simp, AW.out⟩
   ·by_cases h0 : ul = 0
    ·have E := Lib.hid (BAD.out (by rw [PB.out, h0]; rfl))
     have z : ((ul : Int) == 0) = true := by rw [beq_iff_eq]; omega
     clear h0
     go_wp2_with (go_at_call 51; refine WVH.out.mono ?_; rintro e w' ⟨rfl, rfl⟩)
     go_ret
     exact ⟨by rw [E.out] <;> simp, AW.out⟩
    ·have z : ((ul : Int) == 0) = false := by rw [beq_eq_false_iff_ne]; omega
     have AL2 : Hid (∀ j, j < k + 1 → parB (b.pars.getD j []) = true) := fun j hj => by
      by_cases e : j = k
      ·rw [e, PB.out, decide_eq_false h0]; rfl
      ·exact AL.out j (by omega)
     clear h0
     go_wp2_with (go_at_call 51; refine WVH.out.mono ?_; rintro e w' ⟨rfl, rfl⟩)
     first
      | exact ⟨⟨k + 1, by omega, by go_num, by first | rfl | trivial, AL2.out⟩, by (simp [intOf]) <;> omega⟩
      | (go_roundw
         case rel => exact ⟨k + 1, by omega, by go_num, by first | rfl | trivial, AL2.out⟩
         case measure => (simp [intOf]) <;> omega)
  ·obtain rfl : k = n := by omega
   have PA : Hid (b.pars.all parB = true) := all_good (fun k hk => by have := AL.out k (by have := HN.out; omega); rw [getD_eq b.pars [] k hk] at this; exact this)
   have BB : Hid (bookB b = (decide (k ≤ 6) && pb && ib1 && ib2 && ib3)) := by
    show _ = _
    unfold bookB
    rw [PA.out, ← HN.out, PBE.out, IE1.out, IE2.out, IE3.out]
    simp
   by_cases h6 : k ≤ 6
   ·have h6' : (k : Int) ≤ 6 := by omega
    cases pb
    ·have E : Hid (bookB b = false) := by show _ = _; rw [BB.out]; simp
     go_wp2_with (first | (go_at_call 52; refine PV.out.mono ?_; rintro e w' ⟨rfl, rfl⟩) | (go_at_call 34; refine (l1In_any _ _ _ _).mono ?_; rintro e w' ⟨rfl, rfl⟩; first | rw [I1.out] | rw [I2.out] | rw [I3.out]))
     go_ret
     exact ⟨by rw [E.out] <;> simp, AW.out⟩
    ·cases ib1
     ·have E : Hid (bookB b = false) := by show _ = _; rw [BB.out]; simp
      go_wp2_with (first | (go_at_call 52; refine PV.out.mono ?_; rintro e w' ⟨rfl, rfl⟩) | (go_at_call 34; refine (l1In_any _ _ _ _).mono ?_; rintro e w' ⟨rfl, rfl⟩; first | rw [I1.out] | rw [I2.out] | rw [I3.out]))
      go_ret
      exact ⟨by rw [E.out] <;> simp, AW.out⟩
     ·cases ib2
      ·have E : Hid (bookB b = false) := by show _ = _; rw [BB.out]; simp
       go_wp2_with (first | (go_at_call 52; refine PV.out.mono ?_; rintro e w' ⟨rfl, rfl⟩) | (go_at_call 34; refine (l1In_any _ _ _ _).mono ?_; rintro e w' ⟨rfl, rfl⟩; first | rw [I1.out] | rw [I2.out] | rw [I3.out]))
       go_ret
       exact ⟨by rw [E.out] <;> simp, AW.out⟩
      ·cases ib3
       ·have E : Hid (bookB b = false) := by show _ = _; rw [BB.out]; simp
        go_wp2_with (first | (go_at_call 52; refine PV.out.mono ?_; rintro e w' ⟨rfl, rfl⟩) | (go_at_call 34; refine (l1In_any _ _ _ _).mono ?_; rintro e w' ⟨rfl, rfl⟩; first | rw [I1.out] | rw [I2.out] | rw [I3.out]))
        go_ret
        exact ⟨by rw [E.out] <;> simp, AW.out⟩
       ·have E : Hid (bookB b = true) := by show _ = _; rw [BB.out, decide_eq_true h6]; rfl
        go_wp2_with (first | (go_at_call 52; refine PV.out.mono ?_; rintro e w' ⟨rfl, rfl⟩) | (go_at_call 34; refine (l1In_any _ _ _ _).mono ?_; rintro e w' ⟨rfl, rfl⟩; first | rw [I1.out] | rw [I2.out] | rw [I3.out]))
        go_ret
        exact ⟨by rw [E.out] <;> simp, AW.out⟩
   ·have h6' : ¬ (k : Int) ≤ 6 := by omega
    have E : Hid (bookB b = false) := by show _ = _; rw [BB.out, decide_eq_false h6]; simp
    go_wp2_with (first | (go_at_call 52; refine PV.out.mono ?_; rintro e w' ⟨rfl, rfl⟩) | (go_at_call 34; refine (l1In_any _ _ _ _).mono ?_; rintro e w' ⟨rfl, rfl⟩; first | rw [I1.out] | rw [I2.out] | rw [I3.out]))
    go_ret
    exact ⟨by rw [E.out] <;> simp, AW.out⟩
end Go.Proofs.YtofnchdijanikaaGreatDoor
namespace Go.Proofs.YtofnchdijanikaaGreatDoor
open Go.RowKit
def BLPost (b : DBook) (w : World) (e : Ending) (w' : World) : Prop := ∃ v c, e = .returned (.tuple #[v, c, .bool (bookL b).isSome]) ∧ OwnT w' w.heap.size v ((bookL b).getD []).flatten ∧ OwnI w' w.heap.size c (ints (counts ((bookL b).getD []))) ∧ Below w.heap.size w w'
theorem bookSh_ok {b : DBook} (h : BookOk b) : BookSh b := ⟨fun p hp => sh_of_word (parB_words (h.pars p hp)).1, sh_of_pats h.pats⟩
theorem parB_split {p : List (List UInt8)} (h : parB p = true) : wordsB p = true ∧ 0 < p.length := by
 have h1 := (parB_words h).2.2
 unfold parB at h
 rw [Bool.and_eq_true] at h
 exact ⟨h.1, h1⟩
theorem counts_snoc (acc : List (List (List UInt8))) (l : List (List UInt8)) : ints (counts (acc ++ [l])) = ints (counts acc) ++ [(l.length : Int)] := by simp [counts, ints]
theorem flat_snoc (acc : List (List (List UInt8))) (l : List (List UInt8)) : (acc ++ [l]).flatten = acc.flatten ++ l := by simp
theorem box5 (w : World) (T : TypeId) (a b c d e : Value) : (w.alloc (.cells #[a, b, c, d, e] T)).cell? ⟨w.heap.size, 0, none⟩ = some a ∧ (w.alloc (.cells #[a, b, c, d, e] T)).cell? ⟨w.heap.size, 1, none⟩ = some b ∧ (w.alloc (.cells #[a, b, c, d, e] T)).cell? ⟨w.heap.size, 2, none⟩ = some c ∧ (w.alloc (.cells #[a, b, c, d, e] T)).cell? ⟨w.heap.size, 3, none⟩ = some d ∧ (w.alloc (.cells #[a, b, c, d, e] T)).cell? ⟨w.heap.size, 4, none⟩ = some e := by
 refine ⟨?_, ?_, ?_, ?_, ?_⟩ <;> rw [World.cell?_alloc_at _ _ _ _ rfl] <;> rfl
structure BL (w : World) (N : Nat) (v c : Value) (T : List (List UInt8)) (C : List Int) (x0 x1 x2 x3 x4 : Value) : Prop where
 ro : OwnT w N v T
 rc : OwnI w N c C
 ap : Apart2 v c
 n1 : some N ≠ v.ownBlock
 n2 : some N ≠ c.ownBlock
 lt : N < w.heap.size
 k0 : w.cell? ⟨N, 0, none⟩ = some x0
 k1 : w.cell? ⟨N, 1, none⟩ = some x1
 k2 : w.cell? ⟨N, 2, none⟩ = some x2
 k3 : w.cell? ⟨N, 3, none⟩ = some x3
 k4 : w.cell? ⟨N, 4, none⟩ = some x4
section
variable {w w' : World} {N : Nat} {v v' c c' : Value} {T T' : List (List UInt8)} {C C' : List Int} {x0 x1 x2 x3 x4 : Value}
theorem BL.below (h : BL w N v c T C x0 x1 x2 x3 x4) (hb : Below w.heap.size w w') : BL w' N v c T C x0 x1 x2 x3 x4 :=
 ⟨owns_below h.ro hb, owns_below h.rc hb, h.ap, h.n1, h.n2, Nat.lt_of_lt_of_le h.lt hb.size, keepc h.k0 hb, keepc h.k1 hb, keepc h.k2 hb, keepc h.k3 hb, keepc h.k4 hb⟩
theorem BL.addT (h : BL w N v c T C x0 x1 x2 x3 x4) (hm : Moved w v v') (hg : w.grownBy w' v.ownBlock) (ho : OwnT w' N v' T') : BL w' N v' c T' C x0 x1 x2 x3 x4 := by
 have e : ∀ i, w'.cell? ⟨N, i, none⟩ = w.cell? ⟨N, i, none⟩ := fun i => World.cell?_of_block (a := ⟨N, i, none⟩) (hg.block N h.lt h.n1)
 refine ⟨ho, World.ownsRow.kept h.rc hg ?_, fun k h1 h2 => ?_, hm.apart h.n1 h.lt, h.n2, Nat.lt_of_lt_of_le h.lt hg.size, (e 0).trans h.k0, (e 1).trans h.k1, (e 2).trans h.k2, (e 3).trans h.k3, (e 4).trans h.k4⟩
 ·cases hc : c.ownBlock with
  | none => exact .inl rfl
  | some k => exact .inr fun e => h.ap k e.symm hc
 ·exact hm.apart (fun e => h.ap k e.symm h2) (World.ownsRow.lt h.rc k h2).2 h1.symm
theorem BL.addC {o : Obj} (h : BL w N v c T C x0 x1 x2 x3 x4) (hm : Moved (w.alloc o) c c') (hg : w.grownBy w' c.ownBlock) (hc : OwnI w' N c' C') : BL w' N v c' T C' x0 x1 x2 x3 x4 := by
 have e : ∀ i, w'.cell? ⟨N, i, none⟩ = w.cell? ⟨N, i, none⟩ := fun i => World.cell?_of_block (a := ⟨N, i, none⟩) (hg.block N h.lt h.n2)
 refine ⟨World.ownsRow.kept h.ro hg ?_, hc, fun k h1 h2 => ?_, h.n1, moved_alloc hm h.n2 h.lt, Nat.lt_of_lt_of_le h.lt hg.size, (e 0).trans h.k0, (e 1).trans h.k1, (e 2).trans h.k2, (e 3).trans h.k3, (e 4).trans h.k4⟩
 ·cases hv : v.ownBlock with
  | none => exact .inl rfl
  | some k => exact .inr fun e => h.ap k hv e.symm
 ·exact moved_alloc hm (g := k) (fun e => h.ap k h1 e.symm) (World.ownsRow.lt h.ro k h1).2 h2.symm
theorem own_form {w : World} {B : Nat} {v : Value} {xs : List (List UInt8)} (h : OwnT w B v xs) : ∃ z c, v = .slice z xs.length c := by
 rcases h.2 with ⟨rfl, h0⟩ | ⟨g, cap, cur, rfl, _⟩
 ·exact ⟨none, 0, by rw [h0]⟩
 ·exact ⟨_, _, rfl⟩
theorem keep5 {w w' : World} {p q o : Nat} {a b c d e : Value} (h : w.cell? ⟨p, 0, none⟩ = some a ∧ w.cell? ⟨p, 1, none⟩ = some b ∧ w.cell? ⟨p, 2, none⟩ = some c ∧ w.cell? ⟨p, 3, none⟩ = some d ∧ w.cell? ⟨q, o, none⟩ = some e) (hb : Below w.heap.size w w') :
  w'.cell? ⟨p, 0, none⟩ = some a ∧ w'.cell? ⟨p, 1, none⟩ = some b ∧ w'.cell? ⟨p, 2, none⟩ = some c ∧ w'.cell? ⟨p, 3, none⟩ = some d ∧ w'.cell? ⟨q, o, none⟩ = some e :=
 ⟨keepc h.1 hb, keepc h.2.1 hb, keepc h.2.2.1 hb, keepc h.2.2.2.1 hb, keepc h.2.2.2.2 hb⟩
end
set_option maxHeartbeats 16000000 in
theorem implBLines_any (b : DBook) (hv : bookB b = true) (v : Value) (w : World) (h : BookR w v b) : Calls Tryz.prog 64 #[v] w (BLPost b w) := by
 have hok := bookB_true hv
 obtain ⟨pv, qv, rfl, hp, hq⟩ := h
 have hp0 := hp
 obtain ⟨va, vc, rfl, hl, hidx⟩ := ss_idx hp
 have WB := Lib.hid (fun k (hk : k < b.pars.length) => parB_split (hok.pars _ (show b.pars.getD k [] ∈ b.pars by rw [getD_eq b.pars [] k hk]; exact List.getElem_mem hk)))
 have PLA := Lib.hid (fun k (hk : k < b.pars.length) u w' h1 h2 => implPLines_any u qv (b.pars.getD k []) b.pats (WB.out k hk).1 (WB.out k hk).2 hok.pats b.w b.most hok.w hok.most w' h1 h2)
 have BAD := Lib.hid (fun k (hk : k < b.pars.length) h => bookTo_bad (b := b) (k := k) hk h)
 have GOOD := Lib.hid (fun k acc (l : List (List UInt8)) (h1 : bookTo b k = some acc) (h2 : paraL (b.pars.getD k []) b.pats b.w b.most = some l) => bookTo_good (b := b) (k := k) h1 h2)
 have six := hok.six
 have PLL := Lib.hid (fun k l (h : paraL (b.pars.getD k []) b.pats b.w b.most = some l) => paraL_len h)
 have BTL := Lib.hid (fun k acc (h : bookTo b k = some acc) => bookTo_len k acc h)
 have BT0 : Hid (bookTo b 0 = some []) := rfl
 have BTE : Hid (∀ acc, bookTo b b.pars.length = some acc → bookL b = some acc) := fun acc h => h
 obtain ⟨n, hn⟩ : ∃ n, n = b.pars.length := ⟨_, rfl⟩
 rw [← hn] at hidx hl WB PLA BAD BTE six ⊢
 obtain ⟨bw, hbw⟩ : ∃ x, x = b.w := ⟨_, rfl⟩
 obtain ⟨bm, hbm⟩ : ∃ x, x = b.most := ⟨_, rfl⟩
 obtain ⟨bl, hbl⟩ : ∃ x, x = b.lines := ⟨_, rfl⟩
 have AW0 : Below w.heap.size w (w.alloc (.cells #[.slice va n vc, qv, .int .i64 bw, .int .i64 bm, .int .i64 bl] 27)) := (Below.refl _ _).alloc (Nat.le_refl _) _
 have L0 : Hid (BL (w.alloc (.cells #[.slice va n vc, qv, .int .i64 bw, .int .i64 bm, .int .i64 bl] 27)) w.heap.size (.slice none 0 0) (.slice none 0 0) ([] : List (List (List UInt8))).flatten (ints (counts [])) (.slice va n vc) qv (.int .i64 bw) (.int .i64 bm) (.int .i64 bl)) := by
  obtain ⟨y0, y1, y2, y3, y4⟩ := box5 w 27 (.slice va n vc) qv (.int .i64 bw) (.int .i64 bm) (.int .i64 bl)
  exact ⟨OwnT.nil _ _, OwnI.nil _ _, (fun k h => by cases h), (fun e => by cases e), (fun e => by cases e), by simp, y0, y1, y2, y3, y4⟩
 have BV0 := implBook_any b (bookSh_ok hok) _ (w.alloc (.cells #[.slice va n vc, qv, .int .i64 bw, .int .i64 bm, .int .i64 bl] 27)) (BookR.below (⟨_, qv, rfl, hp0, hq⟩ : BookR w (.agg #[.slice va b.pars.length vc, qv, .int .i64 b.w, .int .i64 b.most, .int .i64 b.lines]) b) AW0)
 rw [hv, ← hn, ← hbw, ← hbm, ← hbl] at BV0
 rw [← hbw, ← hbm] at PLA
 rw [← hbw, ← hbm, ← hbl]
 have BV := Lib.hid BV0
 have AW := Lib.hid AW0
 have HI := Lib.hid hidx
 have HQ := Lib.hid hq
 have BWE := Lib.hid hbw
 have BME := Lib.hid hbm
 clear hok hp hp0 hq hidx hn hbw hbm hbl AW0 BV0 hv
 go_enter Tryz.func64, Tryz.ntmps64
 go_wp2_with (go_at_call 27; refine BV.out.mono ?_; rintro e w2 ⟨rfl, hb2⟩; have L2 := Lib.hid (L0.out.below hb2); have B2 := Lib.hid (below_next AW.out hb2 (Nat.le_refl _)); have vk0 := L2.out.k0)
 clear L0 hb2 AW
 go_loopw [5, 6, 17] (fun v c i wr => ∃ (k : Nat) (acc : List (List (List UInt8))), k ≤ n ∧ i = .int .i64 k ∧ Hid (bookTo b k = some acc) ∧ Hid (BL wr w.heap.size v c acc.flatten (ints (counts acc)) (.slice va n vc) qv (.int .i64 bw) (.int .i64 bm) (.int .i64 bl)) ∧ Hid (Below w.heap.size w wr)) (fun _ _ i _ => n - (intOf i).toNat)
 case atStart => exact ⟨0, [], Nat.zero_le _, rfl, BT0.out, L2.out, B2.out⟩
 case round =>
  obtain ⟨k, acc, hk, rfl, hbt, h1, h2⟩ := hrel
  clear L2 B2 vk0
  have k0 := h1.out.k0
  have k1 := h1.out.k1
  have k2 := h1.out.k2
  have k3 := h1.out.k3
  by_cases hkn : k < n
  ·have hkn' : (k : Int) < (n : Int) := by omega
   obtain ⟨b1, o1, u, rfl, b2, c1, hu⟩ := HI.out k hkn
   have c2 := (h2.out.cell (p := ⟨b1, o1 + k, none⟩) b2).trans c1
   have PL0 := PLA.out k hkn u wr (hu.below h2.out) (HQ.out.below h2.out)
   have BTk := BTL.out k acc hbt.out
   clear c1 hu
   cases hpl : paraL (b.pars.getD k []) b.pats bw bm with
   | none =>
    have E := Lib.hid (BAD.out k hkn (by rw [← BWE.out, ← BME.out]; exact hpl))
    unfold LinesPost at PL0
    rw [hpl] at PL0
    have PLH := Lib.hid PL0
    clear hpl PL0 BTk
    go_wp2_with (go_at_call 85; refine PLH.out.mono ?_; rintro e w5 ⟨v9, rfl, o9, hb5⟩; obtain ⟨z9, c9, rfl⟩ := own_form o9; have o99 := Lib.hid o9; have L5 := Lib.hid (h1.out.below hb5); have B5 := Lib.hid (below_next h2.out hb5 (Nat.le_refl _)))
    go_ret3
    exact ⟨_, _, by rw [E.out]; rfl, by rw [E.out]; exact OwnT.nil _ _, by rw [E.out]; exact OwnI.nil _ _, B5.out⟩
   | some l =>
    have hpl2 : paraL (b.pars.getD k []) b.pats b.w b.most = some l := by rw [← BWE.out, ← BME.out]; exact hpl
    have E := Lib.hid (GOOD.out k acc l hbt.out hpl2)
    have ll := PLL.out k l hpl2
    clear hpl2
    unfold LinesPost at PL0
    rw [hpl] at PL0
    have PLH : Hid (Calls Tryz.prog 85 #[u, qv, .int .i64 bw, .int .i64 bm] wr fun e w' => ∃ v, e = Ending.returned (.tuple #[v, .bool true]) ∧ OwnT w' wr.heap.size v l ∧ Below wr.heap.size wr w') := PL0
    have XL : acc.flatten.length ≤ 4000000 := by have := BTk.2.2.2; omega
    have YL : l.length ≤ 4000000 := by omega
    have YL2 : (ints (counts acc)).length ≤ 4000000 := by rw [ints_len]; unfold counts; rw [List.length_map]; have := BTk.1; omega
    have FSQ := Lib.hid (flat_snoc acc l)
    have CS := Lib.hid (counts_snoc acc l)
    obtain ⟨X, hX⟩ : ∃ X, X = acc.flatten := ⟨_, rfl⟩
    obtain ⟨Y, hY⟩ : ∃ Y, Y = ints (counts acc) := ⟨_, rfl⟩
    rw [← hX] at XL FSQ h1
    rw [← hY] at YL2 CS h1
    clear hpl PL0 BTk hX hY
    go_wp2_with (first | (go_at_call 85; refine PLH.out.mono ?_; rintro e w5 ⟨v9, rfl, o9, hb5⟩; obtain ⟨z9, c9, rfl⟩ := own_form o9; have o99 := Lib.hid o9; have L5 := Lib.hid (h1.out.below hb5); have B5 := Lib.hid (below_next h2.out hb5 (Nat.le_refl _))) | (at_builtin; refine append_strs w w5 rfl _ _ rfl w.heap.size u5 X l (.slice z9 l.length c9) rfl rfl L5.out.ro (OwnT.row o99.out) (own_nil_cap o99.out) XL YL (Nat.le_refl _) B5.out ?_; intro v' w6 hown' hbel hmv hgr; have L6 := Lib.hid (L5.out.addT hmv hgr hown')) | (at_builtin; refine append_num w w6 rfl _ _ rfl w.heap.size u6 Y (l.length : Int) rfl rfl L6.out.rc YL2 (Nat.le_refl _) hbel ?_; intro c' w7 hown2 hbel2 hmv2 hgr2))
    have L7 := Lib.hid (L6.out.addC hmv2 hgr2 hown2)
    first
     | exact ⟨⟨k + 1, acc ++ [l], by omega, by go_num, E.out, by rw [FSQ.out, CS.out]; exact L7.out, hbel2⟩, by (simp [intOf]) <;> omega⟩
     | (go_roundw
        case rel => exact ⟨k + 1, acc ++ [l], by omega, by go_num, E.out, by rw [FSQ.out, CS.out]; exact L7.out, hbel2⟩
        case measure => (simp [intOf]) <;> omega)
  ·obtain rfl : k = n := by omega
   have E := Lib.hid (BTE.out acc hbt.out)
   go_wp2_with fail
   go_ret3
   exact ⟨_, _, by rw [E.out]; rfl, by rw [E.out]; exact h1.out.ro, by rw [E.out]; exact h1.out.rc, h2.out⟩
end Go.Proofs.YtofnchdijanikaaGreatDoor

/-
  PROVED HERE: what the printer's lines need, part C19. Conditions: each theorem's own.
-/
import Derived.Test.YtofnchdijanikaaGreatDoorC18
import Derived.Test.YtofnchdijanikaaGreatDoorC02
set_option linter.unusedVariables false
set_option linter.unusedSimpArgs false
set_option maxRecDepth 100000
namespace Go.Proofs.YtofnchdijanikaaGreatDoor
open Go.RowKit
theorem wordI_len (P : List (List UInt8)) (h : 0 < P.length) : 0 < (wordI P).length ∧ (wordI P).length ≤ 2 * P.length := by
 refine ⟨?_, wordTo_len P _⟩
 unfold wordI
 obtain ⟨k, hk⟩ : ∃ k, P.length = k + 1 := ⟨P.length - 1, by omega⟩
 rw [hk, wordTo, List.length_append, List.length_append]
 simp only [List.length_cons, List.length_nil]
 omega
theorem paraTo_more (ws ps : List (List UInt8)) (k : Nat) (h : 0 < k) : paraTo ws ps (k + 1) = (paraTo ws ps k ++ [gluI]) ++ wordI (parts (ws.getD k []) ps) := by
 rw [paraTo, if_pos h, ← List.append_assoc]
theorem paraTo_len {ws ps : List (List UInt8)} (hw : ∀ k, k < ws.length → wordB (ws.getD k []) = true) : ∀ k, k ≤ ws.length → (paraTo ws ps k).length ≤ 50 * k
 | 0, _ => Nat.le_refl _
 | k + 1, hk => by
  have ih := paraTo_len (ps := ps) hw k (by omega)
  have p1 := parts_len (ws.getD k []) ps
  have p2 := places_len (ws.getD k []) ps
  have p3 := (wordB_true (hw k (by omega))).2.2
  have p4 := (wordI_len (parts (ws.getD k []) ps) (by omega)).2
  rw [paraTo, List.length_append, List.length_append]
  have p5 : (if 0 < k then [gluI] else []).length ≤ 1 := by split <;> simp
  omega
theorem own_items {w : World} {B : Nat} {v : Value} {xs : List DItem} (h : OwnX w B v xs) (hp : 0 < xs.length) : ∃ b cap, v = .slice (some ⟨b, 0, none⟩) xs.length cap ∧ Hid (∀ j u, (xs.flatMap encI)[j]? = some u → w.cell? ⟨b, 0 + j, none⟩ = some u) := by
 unfold OwnX at h
 rcases h.2 with ⟨_, h2⟩ | ⟨g, cap, cur, rfl, _⟩
 ·omega
 ·refine ⟨g, cap, rfl, fun j u hu => ?_⟩
  have hj : j < xs.length * 7 := by rw [← flat_encI]; exact (List.getElem?_eq_some_iff.1 hu).1
  rw [Nat.zero_add, World.ownsRow.cellAt h j hj]
  exact hu
theorem endI_cells (wr : World) : ∀ j u, (endI.flatMap encI)[j]? = some u → (wr.alloc (.cells (endI.flatMap encI).toArray 113)).cell? ⟨wr.heap.size, 0 + j, none⟩ = some u := by
 intro j u hu
 rw [Nat.zero_add, World.cell?_alloc_at _ _ _ _ rfl]
 simpa using hu
def ParaPost (ws ps : List (List UInt8)) (w : World) (e : Ending) (w' : World) : Prop :=
 ∃ v, e = .returned (.tuple #[v, .bool (decide ((paraI ws ps).length ≤ 60))]) ∧ ((paraI ws ps).length ≤ 60 → OwnX w' w.heap.size v (paraI ws ps)) ∧ Below w.heap.size w w'
set_option maxHeartbeats 16000000 in
theorem specPara_any (wv pv : Value) (ws ps : List (List UInt8)) (hws : wordsB ws = true) (hw0 : 0 < ws.length) (hps : patsB ps = true) (w : World) (hw : TxtS w wv ws) (hr : TxtS w pv ps) :
  Calls Tryz.prog 97 #[wv, pv] w (ParaPost ws ps w) := by
 have O0 : Hid (OwnX (w.alloc (.cells #[] 113)) w.heap.size (.slice (some ⟨w.heap.size, 0, none⟩) 0 0) (paraTo ws ps 0)) := OwnX.made w (Nat.le_refl _)
 have B0 := Lib.hid ((Below.refl w.heap.size w).alloc (Nat.le_refl _) (.cells #[] 113))
 have wa := words_all hws
 have WV := Lib.hid (specWords_any wv ws _ (hw.below B0.out) (sh_of_word wa.1))
 have PV := Lib.hid (specPats_any pv ps _ (hr.below B0.out) (sh_of_pats hps))
 rw [hws] at WV
 rw [hps] at PV
 obtain ⟨b, off, cap, rfl, hbl, hc⟩ := txt_pos hw hw0
 obtain ⟨m, hm⟩ : ∃ m, m = ws.length := ⟨_, rfl⟩
 have wb : ∀ k, k < ws.length → wordB (ws.getD k []) = true := fun k hk => by rw [getD_eq ws [] k hk]; exact wa.1 _ (List.getElem_mem _)
 have WB := Lib.hid wb
 have PL := Lib.hid (fun k hk => paraTo_len (ps := ps) wb k hk)
 have WI := Lib.hid (fun k (hk : k < ws.length) (w : World) (h : TxtS w pv ps) => specWordI_any (ws.getD k []) (wb k hk) pv ps hps w h)
 have WIL := Lib.hid (fun k (hk : k < ws.length) => (show 0 < (wordI (parts (ws.getD k []) ps)).length ∧ (wordI (parts (ws.getD k []) ps)).length ≤ 50 by
  have p1 := parts_len (ws.getD k []) ps
  have p2 := places_len (ws.getD k []) ps
  have p3 := (wordB_true (wb k hk)).2.2
  have p4 := wordI_len (parts (ws.getD k []) ps) (by omega)
  omega))
 have m12 : m ≤ 12 := by rw [hm]; exact wa.2
 have m0 : 0 < m := by omega
 have mz : ((m : Int) == 0) = false := by rw [beq_eq_false_iff_ne]; omega
 have EM : Hid (paraI ws ps = paraTo ws ps m ++ endI) := by show _ = _; rw [hm]; rfl
 rw [← hm] at hc WV ⊢
 have HC := Lib.hid hc
 have HR := Lib.hid hr
 have DM : Hid (∀ k, k < m → k < ws.length) := fun k hk => by omega
 have DM2 : Hid (m ≤ ws.length) := by show _ ≤ _; omega
 clear hm hc hw hr hws hps wa wb hw0
 go_enter Tryz.func97, Tryz.ntmps97
 go_wp2_with (first | (go_at_call 51; refine WV.out.mono ?_; rintro e w' ⟨rfl, rfl⟩) | (go_at_call 52; refine PV.out.mono ?_; rintro e w' ⟨rfl, rfl⟩))
 go_loopw [6, 7] (fun v i wr => ∃ k : Nat, k ≤ m ∧ i = .int .i64 k ∧ Hid (OwnX wr w.heap.size v (paraTo ws ps k)) ∧ Hid (Below w.heap.size w wr)) (fun _ i _ => m - (intOf i).toNat)
 case atStart => exact ⟨0, Nat.zero_le _, rfl, O0.out, B0.out⟩
 case round =>
  obtain ⟨k, hk, rfl, ho, hb⟩ := hrel
  clear O0 B0
  have hwr := hb.out.size
  by_cases hlt : k < m
  ·have hkl := DM.out k hlt
   have XL : (paraTo ws ps k).length ≤ 10000 := by have := PL.out k (by omega); omega
   have WIk := Lib.hid (fun w h => WI.out k hkl w h)
   have ilen := WIL.out k hkl
   have PM := Lib.hid (fun h => paraTo_more ws ps k h)
   have P1 : Hid (¬ 0 < k → paraTo ws ps (k + 1) = paraTo ws ps k ++ wordI (parts (ws.getD k []) ps)) := fun h => by rw [paraTo, if_neg h]; rfl
   have CK := Lib.hid (HC.out k hlt)
   obtain ⟨p, hp⟩ : ∃ p, p = ws.getD k [] := ⟨_, rfl⟩
   rw [← hp] at WIk PM P1 CK ilen
   obtain ⟨Y, hY⟩ : ∃ Y, Y = wordI (parts p ps) := ⟨_, rfl⟩
   rw [← hY] at WIk PM P1 ilen
   obtain ⟨X, hX⟩ : ∃ X, X = paraTo ws ps k := ⟨_, rfl⟩
   rw [← hX] at XL ho PM P1
   obtain ⟨y1, y2⟩ := ilen
   have c1 : wr.cell? ⟨b, off + k, none⟩ = some (.string (bs p)) := (hb.out.cell (p := ⟨b, off + k, none⟩) hbl).trans CK.out
   have XX := Lib.hid (show X.length ≤ 9000 by rw [hX]; have := PL.out k (by omega); omega)
   clear hp hY hX hkl
   by_cases h0 : 0 < k
   ·have h0' : (0 : Int) < (k : Int) := by omega
    have XL2 : (X ++ [gluI]).length ≤ 10000 := by rw [List.length_append]; have := XX.out; simp; omega
    have YL : Y.length ≤ 10000 := by omega
    have S2 := Lib.hid (PM.out h0)
    clear h0 PM P1
    go_wp2_with (first | (at_builtin; refine append_item w wr rfl _ _ rfl w.heap.size u6 X gluI rfl rfl ho.out XL (Nat.le_refl _) hb.out ?_; intro v1 w5 hown1 hbel1 hmv1 hgr1; have c2 : w5.cell? ⟨b, off + k, none⟩ = some (.string (bs p)) := (hbel1.cell (p := ⟨b, off + k, none⟩) hbl).trans CK.out) | (go_at_call 121; refine (WIk.out _ (HR.out.below hbel1)).mono ?_; rintro e w6 ⟨v6, rfl, hown6, hb6⟩; obtain ⟨b6, c6, rfl, HY6⟩ := own_items hown6 y1) | (at_builtin; refine append_items w w6 rfl _ _ rfl w.heap.size v1 (X ++ [gluI]) Y b6 0 c6 rfl rfl (hown1.below hb6) HY6.out XL2 YL (Nat.le_refl _) (below_next hbel1 hb6 (Nat.le_refl _)) ?_; intro v2 w7 hown2 hbel2 hmv2 hgr2))
    go_roundw
    case rel => exact ⟨k + 1, by omega, by go_num, by rw [S2.out]; exact hown2, hbel2⟩
    case measure => simp [intOf]; omega
   ·have h0' : ¬ (0 : Int) < (k : Int) := by omega
    have YL : Y.length ≤ 10000 := by omega
    have S2 := Lib.hid (P1.out h0)
    clear h0 PM P1
    go_wp2_with (first | (go_at_call 121; refine (WIk.out _ (HR.out.below hb.out)).mono ?_; rintro e w6 ⟨v6, rfl, hown6, hb6⟩; obtain ⟨b6, c6, rfl, HY6⟩ := own_items hown6 y1) | (at_builtin; refine append_items w w6 rfl _ _ rfl w.heap.size u6 X Y b6 0 c6 rfl rfl (ho.out.below hb6) HY6.out XL YL (Nat.le_refl _) (below_next hb.out hb6 (Nat.le_refl _)) ?_; intro v2 w7 hown2 hbel2 hmv2 hgr2))
    go_roundw
    case rel => exact ⟨k + 1, by omega, by go_num, by rw [S2.out]; exact hown2, hbel2⟩
    case measure => simp [intOf]; omega
  ·obtain rfl : k = m := by omega
   have XL : (paraTo ws ps k).length ≤ 10000 := by have := PL.out k DM2.out; omega
   obtain ⟨X, hX⟩ : ∃ X, X = paraTo ws ps k := ⟨_, rfl⟩
   have EM2 := EM.out
   rw [← hX] at XL ho EM2
   have hlen : (paraI ws ps).length = X.length + 3 := by rw [EM2, List.length_append]; rfl
   have EL : endI.length = 3 := rfl
   have hA : (X ++ endI).length = X.length + 3 := by rw [List.length_append]; rfl
   have EM3 := Lib.hid EM2
   clear hX EM2
   have HNE : Hid (0 < (X ++ endI).length) := by show _ < _; omega
   by_cases h60 : X.length + 3 ≤ 60
   ·have hle : Hid ((paraI ws ps).length ≤ 60) := by show _ ≤ _; omega
    have h60' : ¬ (60 : Int) < (X.length : Int) + 3 := by omega
    clear hlen
    go_wp2_with (at_builtin; refine append_items w _ rfl _ _ rfl w.heap.size u6 X endI wr.heap.size 0 3 rfl rfl (World.ownsRow.alloc ho.out _) (endI_cells wr) XL (by decide) (Nat.le_refl _) (hb.out.alloc hwr _) ?_; intro v' w5 hown' hbel hmv hgr; obtain ⟨b7, c7, rfl, -⟩ := own_items hown' HNE.out)
    go_ret2
    exact ⟨_, by rw [decide_eq_true hle.out]; rfl, fun _ => by rw [EM3.out]; rw [hA] at hown'; exact hown', hbel⟩
   ·have hle : Hid (¬ (paraI ws ps).length ≤ 60) := by show ¬ _; omega
    have h60' : (60 : Int) < (X.length : Int) + 3 := by omega
    clear hlen
    go_wp2_with (at_builtin; refine append_items w _ rfl _ _ rfl w.heap.size u6 X endI wr.heap.size 0 3 rfl rfl (World.ownsRow.alloc ho.out _) (endI_cells wr) XL (by decide) (Nat.le_refl _) (hb.out.alloc hwr _) ?_; intro v' w5 hown' hbel hmv hgr; obtain ⟨b7, c7, rfl, -⟩ := own_items hown' HNE.out)
    go_ret2
    exact ⟨_, by rw [decide_eq_false hle.out]; rfl, fun h => absurd h hle.out, hbel.alloc (by have := hbel.size; omega) _⟩
end Go.Proofs.YtofnchdijanikaaGreatDoor
namespace Go.Proofs.YtofnchdijanikaaGreatDoor
open Go.RowKit
def Apart2 (v t : Value) : Prop := ∀ k, v.ownBlock = some k → t.ownBlock = some k → False
theorem Apart2.symm {v t : Value} (h : Apart2 v t) : Apart2 t v := fun k h1 h2 => h k h2 h1
theorem Apart2.or {v t : Value} (h : Apart2 v t) : t.ownBlock = none ∨ t.ownBlock ≠ v.ownBlock := by
 cases ht : t.ownBlock with
 | none => exact .inl rfl
 | some k => exact .inr fun e => h k e.symm ht
theorem Apart2.moved {w : World} {o : Obj} {v v' t : Value} (h : Apart2 v t) (hm : Moved (w.alloc o) v v') (ht : ∀ k, t.ownBlock = some k → k < w.heap.size) : Apart2 v' t := by
 intro k h1 h2
 rcases hm with hm | hm
 ·exact h k (by rw [← hm]; exact h1) h2
 ·have a := hm k h1
  have b := ht k h2
  simp at a
  omega
def IS (w : World) (B : Nat) (v t : Value) (X : List DItem) (T : List (List UInt8)) : Prop := OwnX w B v X ∧ OwnT w B t T ∧ Apart2 v t
theorem IS.item {w w' : World} {B : Nat} {o : Obj} {v v' t : Value} {X X' : List DItem} {T : List (List UInt8)} (h : IS w B v t X T) (hx : OwnX w' B v' X') (hm : Moved (w.alloc o) v v') (hg : w.grownBy w' v.ownBlock) : IS w' B v' t X' T :=
 ⟨hx, World.ownsRow.kept h.2.1 hg h.2.2.or, h.2.2.moved hm (fun k hk => (World.ownsRow.lt h.2.1 k hk).2)⟩
theorem IS.text {w w' : World} {B : Nat} {o : Obj} {v t t' : Value} {X : List DItem} {T T' : List (List UInt8)} (h : IS w B v t X T) (hx : OwnT w' B t' T') (hm : Moved (w.alloc o) t t') (hg : w.grownBy w' t.ownBlock) : IS w' B v t' X T' :=
 ⟨World.ownsRow.kept h.1 hg h.2.2.symm.or, hx, (h.2.2.symm.moved hm (fun k hk => (World.ownsRow.lt h.1 k hk).2)).symm⟩
theorem IS.below {w w' : World} {B : Nat} {v t : Value} {X : List DItem} {T : List (List UInt8)} (h : IS w B v t X T) (hb : Below w.heap.size w w') : IS w' B v t X T := ⟨h.1.below hb, h.2.1.below hb, h.2.2⟩
def PB (w : World) (pb poff m : Nat) (P : List (List UInt8)) (v t : Value) : Prop :=
 pb < w.heap.size ∧ some pb ≠ v.ownBlock ∧ some pb ≠ t.ownBlock ∧ ∀ j, j < m → w.cell? ⟨pb, poff + j, none⟩ = some (.string (bs (P.getD j [])))
theorem PB.item {w w' : World} {o : Obj} {pb poff m : Nat} {P : List (List UInt8)} {v v' t : Value} (h : PB w pb poff m P v t) (hm : Moved (w.alloc o) v v') (hg : w.grownBy w' v.ownBlock) : PB w' pb poff m P v' t :=
 ⟨Nat.lt_of_lt_of_le h.1 hg.size, moved_alloc hm h.2.1 h.1, h.2.2.1, apart_kept hg h.1 h.2.1 h.2.2.2⟩
theorem PB.text {w w' : World} {o : Obj} {pb poff m : Nat} {P : List (List UInt8)} {v t t' : Value} (h : PB w pb poff m P v t) (hm : Moved (w.alloc o) t t') (hg : w.grownBy w' t.ownBlock) : PB w' pb poff m P v t' :=
 ⟨Nat.lt_of_lt_of_le h.1 hg.size, h.2.1, moved_alloc hm h.2.2.1 h.1, apart_kept hg h.1 h.2.2.1 h.2.2.2⟩
theorem PB.below {w w' : World} {pb poff m : Nat} {P : List (List UInt8)} {v t : Value} (h : PB w pb poff m P v t) (hb : Below w.heap.size w w') : PB w' pb poff m P v t :=
 ⟨Nat.lt_of_lt_of_le h.1 hb.size, h.2.1, h.2.2.1, fun j hj => (hb.cell (p := ⟨pb, poff + j, none⟩) h.1).trans (h.2.2.2 j hj)⟩
theorem textsTo_len {ws ps : List (List UInt8)} (hw : ∀ k, k < ws.length → wordB (ws.getD k []) = true) : ∀ k, k ≤ ws.length → (textsTo ws ps k).length ≤ 50 * k
 | 0, _ => Nat.le_refl _
 | k + 1, hk => by
  have ih := textsTo_len (ps := ps) hw k (by omega)
  have p1 := parts_len (ws.getD k []) ps
  have p2 := places_len (ws.getD k []) ps
  have p3 := (wordB_true (hw k (by omega))).2.2
  rw [textsTo, List.length_append]
  omega
theorem take_next (P : List (List UInt8)) (q : Nat) (h : q < P.length) : P.take (q + 1) = P.take q ++ [P.getD q []] := by
 rw [List.take_succ_eq_append_getElem h, getD_eq P [] q h]
def ParaTPost (ws ps : List (List UInt8)) (w : World) (e : Ending) (w' : World) : Prop :=
 ∃ v t, e = .returned (.tuple #[v, t, .bool (decide ((paraI ws ps).length ≤ 60))]) ∧ OwnX w' w.heap.size v (paraI ws ps) ∧ OwnT w' w.heap.size t (texts ws ps) ∧ Below w.heap.size w w'
set_option maxHeartbeats 16000000 in
theorem implPara_any (wv pv : Value) (ws ps : List (List UInt8)) (hws : wordsB ws = true) (hw0 : 0 < ws.length) (hps : patsB ps = true) (w : World) (hw : TxtS w wv ws) (hr : TxtS w pv ps) :
  Calls Tryz.prog 105 #[wv, pv] w (ParaTPost ws ps w) := by
 have S0 : Hid (IS w w.heap.size (.slice none 0 0) (.slice none 0 0) (paraTo ws ps 0) (textsTo ws ps 0)) := ⟨⟨rfl, .inl ⟨rfl, rfl⟩⟩, OwnT.nil w _, fun k h => by cases h⟩
 have B0 := Lib.hid (Below.refl w.heap.size w)
 have wa := words_all hws
 have WV := Lib.hid (implWords_any wv ws _ hw (sh_of_word wa.1))
 have PV := Lib.hid (implPats_any pv ps _ hr (sh_of_pats hps))
 rw [hws] at WV
 rw [hps] at PV
 obtain ⟨b, off, cap, rfl, hbl, hc⟩ := txt_pos hw hw0
 obtain ⟨m, hm⟩ : ∃ m, m = ws.length := ⟨_, rfl⟩
 have wb : ∀ k, k < ws.length → wordB (ws.getD k []) = true := fun k hk => by rw [getD_eq ws [] k hk]; exact wa.1 _ (List.getElem_mem _)
 have WB := Lib.hid wb
 have PL := Lib.hid (fun k hk => paraTo_len (ps := ps) wb k hk)
 have TL := Lib.hid (fun k hk => textsTo_len (ps := ps) wb k hk)
 have WI := Lib.hid (fun k (hk : k < ws.length) (w : World) (h : TxtS w pv ps) => implHParts_any (ws.getD k []) (wb k hk) pv ps hps w h)
 have WIL := Lib.hid (fun k (hk : k < ws.length) => (show 0 < (parts (ws.getD k []) ps).length ∧ (parts (ws.getD k []) ps).length ≤ 40 ∧ (∀ x ∈ parts (ws.getD k []) ps, wordB x = true) by
  have p1 := parts_len (ws.getD k []) ps
  have p2 := places_len (ws.getD k []) ps
  have p3 := (wordB_true (wb k hk)).2.2
  exact ⟨by omega, by omega, (parts_good ps (wb k hk)).1⟩))
 have m12 : m ≤ 12 := by rw [hm]; exact wa.2
 have m0 : 0 < m := by omega
 have mz : ((m : Int) == 0) = false := by rw [beq_eq_false_iff_ne]; omega
 have EM : Hid (paraI ws ps = paraTo ws ps m ++ endI) := by show _ = _; rw [hm]; rfl
 have ET : Hid (texts ws ps = textsTo ws ps m) := by show _ = _; rw [hm]; rfl
 rw [← hm] at hc WV ⊢
 have HC := Lib.hid hc
 have HR := Lib.hid hr
 have DM : Hid (∀ k, k < m → k < ws.length) := fun k hk => by omega
 have DM2 : Hid (m ≤ ws.length) := by show _ ≤ _; omega
 clear hm hc hw hr hws hps wa wb hw0
 go_enter Tryz.func105, Tryz.ntmps105
 go_wp2_with (first | (go_at_call 55; refine WV.out.mono ?_; rintro e w' ⟨rfl, rfl⟩) | (go_at_call 56; refine PV.out.mono ?_; rintro e w' ⟨rfl, rfl⟩))
 go_loopw [7, 8, 28] (fun v t i wr => ∃ k : Nat, k ≤ m ∧ i = .int .i64 k ∧ Hid (IS wr w.heap.size v t (paraTo ws ps k) (textsTo ws ps k)) ∧ Hid (Below w.heap.size w wr)) (fun _ _ i _ => m - (intOf i).toNat)
 case atStart => exact ⟨0, Nat.zero_le _, rfl, S0.out, B0.out⟩
 case round =>
  obtain ⟨k, hk, rfl, ho, hb⟩ := hrel
  clear S0 B0
  have hwr := hb.out.size
  by_cases hlt : k < m
  ·have hkl := DM.out k hlt
   have XL : (paraTo ws ps k).length ≤ 10000 := by have := PL.out k (by omega); omega
   have XX := Lib.hid (show (paraTo ws ps k).length ≤ 5000 by have := PL.out k (by omega); omega)
   have TT := Lib.hid (show (textsTo ws ps k).length ≤ 5000 by have := TL.out k (by omega); omega)
   have WIk := Lib.hid (fun w h => WI.out k hkl w h)
   obtain ⟨il1, il2, il3⟩ := WIL.out k hkl
   have PM := Lib.hid (fun h => paraTo_more ws ps k h)
   have P1 : Hid (¬ 0 < k → paraTo ws ps (k + 1) = paraTo ws ps k ++ wordI (parts (ws.getD k []) ps)) := fun h => by rw [paraTo, if_neg h]; rfl
   have TN : Hid (textsTo ws ps (k + 1) = textsTo ws ps k ++ parts (ws.getD k []) ps) := rfl
   have CK := Lib.hid (HC.out k hlt)
   obtain ⟨p, hp⟩ : ∃ p, p = ws.getD k [] := ⟨_, rfl⟩
   rw [← hp] at WIk PM P1 CK il1 il2 il3 TN
   obtain ⟨P, hP⟩ : ∃ P, P = parts p ps := ⟨_, rfl⟩
   rw [← hP] at WIk PM P1 il1 il2 il3 TN
   obtain ⟨X, hX⟩ : ∃ X, X = paraTo ws ps k := ⟨_, rfl⟩
   rw [← hX] at XL ho PM P1 XX
   obtain ⟨T, hT⟩ : ∃ T, T = textsTo ws ps k := ⟨_, rfl⟩
   rw [← hT] at ho TN TT
   obtain ⟨n, hn⟩ : ∃ n, n = P.length := ⟨_, rfl⟩
   have HN := Lib.hid hn
   rw [← hn] at il1 il2
   have WP := Lib.hid (fun q (hq : q < n) (w : World) => implWidth_any (P.getD q []) (by rw [getD_eq P [] q (by omega)]; exact il3 _ (List.getElem_mem _)) w)
   have WN1 := Lib.hid (wordTo_first P)
   have WNM := Lib.hid (fun q h => wordTo_more P q h)
   have WTL := Lib.hid (fun q => wordTo_len P q)
   have EW : Hid (wordI P = wordTo P n) := by show _ = _; rw [hn]; rfl
   have ETP : Hid (P.take n = P) := by show _ = _; rw [hn]; exact List.take_length
   have TKN := Lib.hid (fun q (hq : q < n) => take_next P q (by omega))
   have c1 : wr.cell? ⟨b, off + k, none⟩ = some (.string (bs p)) := (hb.out.cell (p := ⟨b, off + k, none⟩) hbl).trans CK.out
   clear hp hP hX hT hkl il3 hn
   by_cases h0 : 0 < k
   ·have h0' : (0 : Int) < (k : Int) := by omega
    have S2 := Lib.hid (PM.out h0)
    clear h0 PM P1
    go_wp2_with (first | (at_builtin; refine append_item w wr rfl _ _ rfl w.heap.size u7 X gluI rfl rfl ho.out.1 XL (Nat.le_refl _) hb.out ?_; intro v1 w5 hown1 hbel1 hmv1 hgr1; have I1 := Lib.hid (ho.out.item hown1 hmv1 hgr1); have c2 : w5.cell? ⟨b, off + k, none⟩ = some (.string (bs p)) := (hbel1.cell (p := ⟨b, off + k, none⟩) hbl).trans CK.out) | (go_at_call 135; refine (WIk.out _ (HR.out.below hbel1)).mono ?_; rintro e w6 ⟨v6, rfl, hown6, hb6⟩; obtain ⟨pb, poff, pcap, rfl, hpl, HY6⟩ := own_pos HN.out il1 hown6; have hlg := (hown6.lt pb rfl).1))
    have II := Lib.hid (I1.out.below hb6)
    have PI : Hid (PB w6 pb poff n P v1 u8) := ⟨hpl, fun e => by have h1 := (World.ownsRow.lt hown1 pb e.symm).2; omega, fun e => by have h1 := (World.ownsRow.lt I1.out.2.1 pb e.symm).2; omega, HY6.out⟩
    have BI : Hid (Below w.heap.size w w6) := below_next hbel1 hb6 (Nat.le_refl _)
    have X1L : Hid ((X ++ [gluI]).length ≤ 5001) := by have := XX.out; show _ ≤ _; (try rw [List.length_append]); (try simp only [List.length_cons, List.length_nil]); omega
    obtain ⟨X1, hX1⟩ : ∃ X1, X1 = (X ++ [gluI]) := ⟨_, rfl⟩
    rw [← hX1] at II X1L S2
    clear hown1 hbel1 hmv1 hgr1 hown6 hb6 HY6 hpl hlg I1 ho hb c1 c2
    have II0 : Hid (IS w6 w.heap.size v1 u8 (X1 ++ wordTo P 0) (T ++ P.take 0)) := by show IS _ _ _ _ _ _; rw [show wordTo P 0 = [] from rfl, show P.take 0 = [] from rfl, List.append_nil, List.append_nil]; exact II.out
    clear II hX1
    go_loopw [7, 8, 44] (fun v t i wr => ∃ q : Nat, q ≤ n ∧ i = .int .i64 q ∧ Hid (IS wr w.heap.size v t (X1 ++ wordTo P q) (T ++ P.take q)) ∧ Hid (PB wr pb poff n P v t) ∧ Hid (Below w.heap.size w wr)) (fun _ _ i _ => n - (intOf i).toNat)
    case atStart => exact ⟨0, Nat.zero_le _, rfl, II0.out, PI.out, BI.out⟩
    case round =>
     obtain ⟨q, hq, rfl, ho, hpb, hb⟩ := hrel
     clear II0 PI BI
     have hwr := hb.out.size
     by_cases hql : q < n
     ·have c1 := hpb.out.2.2.2 q hql
      have WW := Lib.hid (fun w => WP.out q hql w)
      have YL : (X1 ++ wordTo P q).length ≤ 10000 := by have := WTL.out q; have := X1L.out; rw [List.length_append]; omega
      have TL2 : (T ++ P.take q).length ≤ 4000000 := by have := TT.out; rw [List.length_append, List.length_take]; omega
      have TS : Hid (T ++ P.take (q + 1) = (T ++ P.take q) ++ [P.getD q []]) := by show _ = _; rw [TKN.out q hql, List.append_assoc]
      have WM : Hid (0 < q → X1 ++ wordTo P (q + 1) = ((X1 ++ wordTo P q) ++ [hyI]) ++ [boxI (width (P.getD q []))]) := fun h => by rw [WNM.out q h]; simp only [List.append_assoc]
      have W1 : Hid (q = 0 → X1 ++ wordTo P (q + 1) = (X1 ++ wordTo P q) ++ [boxI (width (P.getD q []))]) := fun h => by rw [h, WN1.out]; simp only [List.append_assoc]
      have YL9 : Hid ((X1 ++ wordTo P q).length ≤ 9000) := by have := WTL.out q; have := X1L.out; show _ ≤ _; rw [List.length_append]; omega
      obtain ⟨s, hs⟩ : ∃ s, s = P.getD q [] := ⟨_, rfl⟩
      rw [← hs] at c1 WW TS WM W1
      have HPS := Lib.hid hs
      obtain ⟨Y, hY⟩ : ∃ Y, Y = X1 ++ wordTo P q := ⟨_, rfl⟩
      rw [← hY] at YL ho WM W1 YL9
      obtain ⟨V, hV⟩ : ∃ V, V = T ++ P.take q := ⟨_, rfl⟩
      rw [← hV] at TL2 ho TS
      obtain ⟨W, hW⟩ : ∃ W, W = width s := ⟨_, rfl⟩
      rw [← hW] at WW WM W1
      clear hs hY hV hW
      by_cases hq0 : 0 < q
      ·have hq0' : (0 : Int) < (q : Int) := by omega
       have YL2 : (Y ++ [hyI]).length ≤ 10000 := by have := YL9.out; rw [List.length_append]; simp; omega
       have E2 := Lib.hid (WM.out hq0)
       clear hq0 WM W1
       go_wp2_with (first | (at_builtin; refine append_item w wr rfl _ _ rfl w.heap.size u7 Y hyI rfl rfl ho.out.1 YL (Nat.le_refl _) hb.out ?_; intro v1 w5 hown1 hbel1 hmv1 hgr1; have I1 := Lib.hid (ho.out.item hown1 hmv1 hgr1); have P1 := Lib.hid (hpb.out.item hmv1 hgr1); have c2 := P1.out.2.2.2 q hql; rw [← HPS.out] at c2) | (go_at_call 136; refine (WW.out _).mono ?_; rintro e w6 ⟨rfl, hb6⟩; have I2 := Lib.hid (I1.out.below hb6); have P2 := Lib.hid (P1.out.below hb6); have hbel6 := Lib.hid (below_next hbel1 hb6 (Nat.le_refl _))) | (at_builtin; refine append_item w w6 rfl _ _ rfl w.heap.size v1 (Y ++ [hyI]) (boxI W) rfl rfl I2.out.1 YL2 (Nat.le_refl _) hbel6.out ?_; intro v2 w7 hown2 hbel2 hmv2 hgr2; have I3 := Lib.hid (I2.out.item hown2 hmv2 hgr2); have P3 := Lib.hid (P2.out.item hmv2 hgr2)) | (at_builtin; refine append_str w w7 rfl _ _ rfl w.heap.size u8 V s rfl rfl I3.out.2.1 TL2 (Nat.le_refl _) hbel2 ?_; intro t2 w8 hown3 hbel3 hmv3 hgr3; have I4 := Lib.hid (I3.out.text hown3 hmv3 hgr3); have P4 := Lib.hid (P3.out.text hmv3 hgr3)))
       first
        | exact ⟨⟨q + 1, by omega, by go_num, by rw [E2.out, TS.out]; exact I4.out, P4.out, hbel3⟩, by simp [intOf]; omega⟩
        | (go_roundw
           case rel => exact ⟨q + 1, by omega, by go_num, by rw [E2.out, TS.out]; exact I4.out, P4.out, hbel3⟩
           case measure => simp [intOf]; omega)
      ·have hq0' : ¬ (0 : Int) < (q : Int) := by omega
       have E2 := Lib.hid (W1.out (by omega))
       clear hq0 WM W1
       go_wp2_with (first | (go_at_call 136; refine (WW.out _).mono ?_; rintro e w6 ⟨rfl, hb6⟩; have I2 := Lib.hid (ho.out.below hb6); have P2 := Lib.hid (hpb.out.below hb6); have hbel6 := Lib.hid (below_next hb.out hb6 (Nat.le_refl _))) | (at_builtin; refine append_item w w6 rfl _ _ rfl w.heap.size u7 Y (boxI W) rfl rfl I2.out.1 YL (Nat.le_refl _) hbel6.out ?_; intro v2 w7 hown2 hbel2 hmv2 hgr2; have I3 := Lib.hid (I2.out.item hown2 hmv2 hgr2); have P3 := Lib.hid (P2.out.item hmv2 hgr2)) | (at_builtin; refine append_str w w7 rfl _ _ rfl w.heap.size u8 V s rfl rfl I3.out.2.1 TL2 (Nat.le_refl _) hbel2 ?_; intro t2 w8 hown3 hbel3 hmv3 hgr3; have I4 := Lib.hid (I3.out.text hown3 hmv3 hgr3); have P4 := Lib.hid (P3.out.text hmv3 hgr3)))
       first
        | exact ⟨⟨q + 1, by omega, by go_num, by rw [E2.out, TS.out]; exact I4.out, P4.out, hbel3⟩, by simp [intOf]; omega⟩
        | (go_roundw
           case rel => exact ⟨q + 1, by omega, by go_num, by rw [E2.out, TS.out]; exact I4.out, P4.out, hbel3⟩
           case measure => simp [intOf]; omega)
     ·obtain rfl : q = n := by omega
      have hqn : ¬ ((q : Int) < (q : Int)) := by omega
      have HO : Hid (IS wr w.heap.size u7 u8 (paraTo ws ps (k + 1)) (textsTo ws ps (k + 1))) := by
       show IS _ _ _ _ _ _
       rw [S2.out, TN.out, EW.out]
       have := ho.out
       rw [ETP.out] at this
       exact this
      go_wp2_with fail
      first
       | exact ⟨⟨k + 1, by omega, by go_num, HO.out, hb.out⟩, by simp [intOf]; omega⟩
       | (go_roundw
          case rel => exact ⟨k + 1, by omega, by go_num, HO.out, hb.out⟩
          case measure => simp [intOf]; omega)
   ·have h0' : ¬ (0 : Int) < (k : Int) := by omega
    have S2 := Lib.hid (P1.out h0)
    clear h0 PM P1
    go_wp2_with (go_at_call 135; refine (WIk.out _ (HR.out.below hb.out)).mono ?_; rintro e w6 ⟨v6, rfl, hown6, hb6⟩; obtain ⟨pb, poff, pcap, rfl, hpl, HY6⟩ := own_pos HN.out il1 hown6; have hlg := (hown6.lt pb rfl).1)
    have II := Lib.hid (ho.out.below hb6)
    have PI : Hid (PB w6 pb poff n P u7 u8) := ⟨hpl, fun e => by have h1 := (World.ownsRow.lt ho.out.1 pb e.symm).2; omega, fun e => by have h1 := (World.ownsRow.lt ho.out.2.1 pb e.symm).2; omega, HY6.out⟩
    have BI : Hid (Below w.heap.size w w6) := below_next hb.out hb6 (Nat.le_refl _)
    have X1L : Hid (X.length ≤ 5001) := by have := XX.out; show _ ≤ _; (try rw [List.length_append]); (try simp only [List.length_cons, List.length_nil]); omega
    obtain ⟨X1, hX1⟩ : ∃ X1, X1 = X := ⟨_, rfl⟩
    rw [← hX1] at II X1L S2
    clear hown6 hb6 HY6 hpl hlg ho hb c1
    have II0 : Hid (IS w6 w.heap.size u7 u8 (X1 ++ wordTo P 0) (T ++ P.take 0)) := by show IS _ _ _ _ _ _; rw [show wordTo P 0 = [] from rfl, show P.take 0 = [] from rfl, List.append_nil, List.append_nil]; exact II.out
    clear II hX1
    go_loopw [7, 8, 44] (fun v t i wr => ∃ q : Nat, q ≤ n ∧ i = .int .i64 q ∧ Hid (IS wr w.heap.size v t (X1 ++ wordTo P q) (T ++ P.take q)) ∧ Hid (PB wr pb poff n P v t) ∧ Hid (Below w.heap.size w wr)) (fun _ _ i _ => n - (intOf i).toNat)
    case atStart => exact ⟨0, Nat.zero_le _, rfl, II0.out, PI.out, BI.out⟩
    case round =>
     obtain ⟨q, hq, rfl, ho, hpb, hb⟩ := hrel
     clear II0 PI BI
     have hwr := hb.out.size
     by_cases hql : q < n
     ·have c1 := hpb.out.2.2.2 q hql
      have WW := Lib.hid (fun w => WP.out q hql w)
      have YL : (X1 ++ wordTo P q).length ≤ 10000 := by have := WTL.out q; have := X1L.out; rw [List.length_append]; omega
      have TL2 : (T ++ P.take q).length ≤ 4000000 := by have := TT.out; rw [List.length_append, List.length_take]; omega
      have TS : Hid (T ++ P.take (q + 1) = (T ++ P.take q) ++ [P.getD q []]) := by show _ = _; rw [TKN.out q hql, List.append_assoc]
      have WM : Hid (0 < q → X1 ++ wordTo P (q + 1) = ((X1 ++ wordTo P q) ++ [hyI]) ++ [boxI (width (P.getD q []))]) := fun h => by rw [WNM.out q h]; simp only [List.append_assoc]
      have W1 : Hid (q = 0 → X1 ++ wordTo P (q + 1) = (X1 ++ wordTo P q) ++ [boxI (width (P.getD q []))]) := fun h => by rw [h, WN1.out]; simp only [List.append_assoc]
      have YL9 : Hid ((X1 ++ wordTo P q).length ≤ 9000) := by have := WTL.out q; have := X1L.out; show _ ≤ _; rw [List.length_append]; omega
      obtain ⟨s, hs⟩ : ∃ s, s = P.getD q [] := ⟨_, rfl⟩
      rw [← hs] at c1 WW TS WM W1
      have HPS := Lib.hid hs
      obtain ⟨Y, hY⟩ : ∃ Y, Y = X1 ++ wordTo P q := ⟨_, rfl⟩
      rw [← hY] at YL ho WM W1 YL9
      obtain ⟨V, hV⟩ : ∃ V, V = T ++ P.take q := ⟨_, rfl⟩
      rw [← hV] at TL2 ho TS
      obtain ⟨W, hW⟩ : ∃ W, W = width s := ⟨_, rfl⟩
      rw [← hW] at WW WM W1
      clear hs hY hV hW
      by_cases hq0 : 0 < q
      ·have hq0' : (0 : Int) < (q : Int) := by omega
       have YL2 : (Y ++ [hyI]).length ≤ 10000 := by have := YL9.out; rw [List.length_append]; simp; omega
       have E2 := Lib.hid (WM.out hq0)
       clear hq0 WM W1
       go_wp2_with (first | (at_builtin; refine append_item w wr rfl _ _ rfl w.heap.size u7 Y hyI rfl rfl ho.out.1 YL (Nat.le_refl _) hb.out ?_; intro v1 w5 hown1 hbel1 hmv1 hgr1; have I1 := Lib.hid (ho.out.item hown1 hmv1 hgr1); have P1 := Lib.hid (hpb.out.item hmv1 hgr1); have c2 := P1.out.2.2.2 q hql; rw [← HPS.out] at c2) | (go_at_call 136; refine (WW.out _).mono ?_; rintro e w6 ⟨rfl, hb6⟩; have I2 := Lib.hid (I1.out.below hb6); have P2 := Lib.hid (P1.out.below hb6); have hbel6 := Lib.hid (below_next hbel1 hb6 (Nat.le_refl _))) | (at_builtin; refine append_item w w6 rfl _ _ rfl w.heap.size v1 (Y ++ [hyI]) (boxI W) rfl rfl I2.out.1 YL2 (Nat.le_refl _) hbel6.out ?_; intro v2 w7 hown2 hbel2 hmv2 hgr2; have I3 := Lib.hid (I2.out.item hown2 hmv2 hgr2); have P3 := Lib.hid (P2.out.item hmv2 hgr2)) | (at_builtin; refine append_str w w7 rfl _ _ rfl w.heap.size u8 V s rfl rfl I3.out.2.1 TL2 (Nat.le_refl _) hbel2 ?_; intro t2 w8 hown3 hbel3 hmv3 hgr3; have I4 := Lib.hid (I3.out.text hown3 hmv3 hgr3); have P4 := Lib.hid (P3.out.text hmv3 hgr3)))
       first
        | exact ⟨⟨q + 1, by omega, by go_num, by rw [E2.out, TS.out]; exact I4.out, P4.out, hbel3⟩, by simp [intOf]; omega⟩
        | (go_roundw
           case rel => exact ⟨q + 1, by omega, by go_num, by rw [E2.out, TS.out]; exact I4.out, P4.out, hbel3⟩
           case measure => simp [intOf]; omega)
      ·have hq0' : ¬ (0 : Int) < (q : Int) := by omega
       have E2 := Lib.hid (W1.out (by omega))
       clear hq0 WM W1
       go_wp2_with (first | (go_at_call 136; refine (WW.out _).mono ?_; rintro e w6 ⟨rfl, hb6⟩; have I2 := Lib.hid (ho.out.below hb6); have P2 := Lib.hid (hpb.out.below hb6); have hbel6 := Lib.hid (below_next hb.out hb6 (Nat.le_refl _))) | (at_builtin; refine append_item w w6 rfl _ _ rfl w.heap.size u7 Y (boxI W) rfl rfl I2.out.1 YL (Nat.le_refl _) hbel6.out ?_; intro v2 w7 hown2 hbel2 hmv2 hgr2; have I3 := Lib.hid (I2.out.item hown2 hmv2 hgr2); have P3 := Lib.hid (P2.out.item hmv2 hgr2)) | (at_builtin; refine append_str w w7 rfl _ _ rfl w.heap.size u8 V s rfl rfl I3.out.2.1 TL2 (Nat.le_refl _) hbel2 ?_; intro t2 w8 hown3 hbel3 hmv3 hgr3; have I4 := Lib.hid (I3.out.text hown3 hmv3 hgr3); have P4 := Lib.hid (P3.out.text hmv3 hgr3)))
       first
        | exact ⟨⟨q + 1, by omega, by go_num, by rw [E2.out, TS.out]; exact I4.out, P4.out, hbel3⟩, by simp [intOf]; omega⟩
        | (go_roundw
           case rel => exact ⟨q + 1, by omega, by go_num, by rw [E2.out, TS.out]; exact I4.out, P4.out, hbel3⟩
           case measure => simp [intOf]; omega)
     ·obtain rfl : q = n := by omega
      have hqn : ¬ ((q : Int) < (q : Int)) := by omega
      have HO : Hid (IS wr w.heap.size u7 u8 (paraTo ws ps (k + 1)) (textsTo ws ps (k + 1))) := by
       show IS _ _ _ _ _ _
       rw [S2.out, TN.out, EW.out]
       have := ho.out
       rw [ETP.out] at this
       exact this
      go_wp2_with fail
      first
       | exact ⟨⟨k + 1, by omega, by go_num, HO.out, hb.out⟩, by simp [intOf]; omega⟩
       | (go_roundw
          case rel => exact ⟨k + 1, by omega, by go_num, HO.out, hb.out⟩
          case measure => simp [intOf]; omega)
  ·obtain rfl : k = m := by omega
   have XL : (paraTo ws ps k).length ≤ 10000 := by have := PL.out k DM2.out; omega
   have I0 := Lib.hid ho.out
   obtain ⟨X, hX⟩ : ∃ X, X = paraTo ws ps k := ⟨_, rfl⟩
   have EM2 := EM.out
   rw [← hX] at XL I0 EM2
   have hlen : (paraI ws ps).length = X.length + 3 := by rw [EM2, List.length_append]; rfl
   have hA : (X ++ endI).length = X.length + 3 := by rw [List.length_append]; rfl
   have EM3 := Lib.hid EM2
   have HD : Hid (decide ((X.length : Int) + 3 ≤ 60) = decide ((paraI ws ps).length ≤ 60)) := by show _ = _; rw [hlen]; exact decide_eq_decide.2 (by omega)
   have HNE : Hid (0 < (X ++ endI).length) := by show _ < _; omega
   have HAA := Lib.hid hA
   clear hX EM2 hlen ho
   have fin : ∀ (v' : Value) (w5 : World), OwnX w5 w.heap.size v' (X ++ endI) → Below w.heap.size w w5 → Moved (wr.alloc (.cells (endI.flatMap encI).toArray 113)) u7 v' → (wr.alloc (.cells (endI.flatMap encI).toArray 113)).grownBy w5 u7.ownBlock → OwnX w5 w.heap.size v' (paraI ws ps) ∧ OwnT w5 w.heap.size u8 (texts ws ps) := by
    intro v' w5 h1 h2 h3 h4
    rw [EM3.out, ET.out]
    exact ⟨h1, (I0.out.item h1 h3 (grownBy_trans (World.grownBy_alloc wr _ _) h4)).2.1⟩
   have FI := Lib.hid fin
   clear fin
   go_wp2_with (at_builtin; refine append_items w _ rfl _ _ rfl w.heap.size u7 X endI wr.heap.size 0 3 rfl rfl (World.ownsRow.alloc I0.out.1 _) (endI_cells wr) XL (by decide) (Nat.le_refl _) (hb.out.alloc hwr _) ?_; intro v' w5 hown' hbel hmv hgr; obtain ⟨F1, F2⟩ := FI.out v' w5 hown' hbel hmv hgr; have F3 := Lib.hid F1; have F4 := Lib.hid F2; obtain ⟨b7, c7, rfl, -⟩ := own_items hown' HNE.out)
   go_ret3
   have F5 := F3.out
   rw [HAA.out] at F5
   exact ⟨_, _, by rw [← HD.out]; rfl, F5, F4.out, hbel⟩
end Go.Proofs.YtofnchdijanikaaGreatDoor
namespace Go.Proofs.YtofnchdijanikaaGreatDoor
open Go.RowKit
def Chain (xs : List DItem) : Nat → List Nat → Prop
 | _, [] => True
 | a, u :: t => a ≤ u ∧ u < xs.length ∧ lineB xs a u = true ∧ Chain xs (u + 1) t
theorem path_chain (xs : List DItem) (wd most : Int) : ∀ (f a : Nat) (bf : Int), Chain xs a (pathF xs wd most f a bf)
 | 0, _, _ => trivial
 | f + 1, a, bf => by
  rw [pathF]
  split
  ·trivial
  ·rename_i hn
   split
   ·trivial
   ·rename_i m u hb
    obtain ⟨h1, h2, c, l, q, v, h3, _⟩ := best_next (by omega) hb
    exact ⟨h1, h2, (lineC_some h3).1, path_chain xs wd most f _ _⟩
theorem lineB_kind {xs : List DItem} {a u : Nat} (h : lineB xs a u = true) : ¬ (it xs u).kind = 1 := by
 unfold lineB at h
 simp only [Bool.and_eq_true] at h
 have hb := h.1.1.2
 unfold brk at hb
 intro hk
 rw [if_neg (by omega), hk] at hb
 simp at hb
theorem boxNo_over {xs : List DItem} {u : Nat} (h : u < xs.length) (hk : ¬ (it xs u).kind = 1) : boxNo xs (u + 1) = boxNo xs u := by rw [boxNo_succ xs u h, if_neg hk]
structure PL (w : World) (v : Value) (ib kb pb n : Nat) (xs : List DItem) (br : List Nat) (tx : List (List UInt8)) : Prop where
 it : ItC w ib 0 n xs
 i1 : some ib ≠ v.ownBlock
 k0 : kb < w.heap.size
 k1 : some kb ≠ v.ownBlock
 k2 : ∀ j, j < br.length → w.cell? ⟨kb, j, none⟩ = some (.int .i64 ((br.getD j 0 : Nat) : Int))
 p0 : pb < w.heap.size
 p1 : some pb ≠ v.ownBlock
 p2 : ∀ j, j < tx.length → w.cell? ⟨pb, j, none⟩ = some (.string (bs (tx.getD j [])))
theorem PL.append {w w' : World} {o : Obj} {v v' : Value} {ib kb pb n : Nat} {xs : List DItem} {br : List Nat} {tx : List (List UInt8)} (h : PL w v ib kb pb n xs br tx) (hm : Moved (w.alloc o) v v') (hg : w.grownBy w' v.ownBlock) : PL w' v' ib kb pb n xs br tx :=
 ⟨h.it.kept hg h.i1, moved_alloc hm h.i1 h.it.2.1, Nat.lt_of_lt_of_le h.k0 hg.size, moved_alloc hm h.k1 h.k0, fun j hj => (World.cell?_of_block (a := ⟨kb, j, none⟩) (hg.block kb h.k0 h.k1)).trans (h.k2 j hj),
  Nat.lt_of_lt_of_le h.p0 hg.size, moved_alloc hm h.p1 h.p0, fun j hj => (World.cell?_of_block (a := ⟨pb, j, none⟩) (hg.block pb h.p0 h.p1)).trans (h.p2 j hj)⟩
theorem PL.below {w w' : World} {v : Value} {ib kb pb n : Nat} {xs : List DItem} {br : List Nat} {tx : List (List UInt8)} (h : PL w v ib kb pb n xs br tx) (hb : Below w.heap.size w w') : PL w' v ib kb pb n xs br tx :=
 ⟨h.it.below hb, h.i1, Nat.lt_of_lt_of_le h.k0 hb.size, h.k1, fun j hj => (hb.cell (p := ⟨kb, j, none⟩) h.k0).trans (h.k2 j hj), Nat.lt_of_lt_of_le h.p0 hb.size, h.p1, fun j hj => (hb.cell (p := ⟨pb, j, none⟩) h.p0).trans (h.p2 j hj)⟩
theorem PL.append0 {w w' : World} {v v' : Value} {ib kb pb n : Nat} {xs : List DItem} {br : List Nat} {tx : List (List UInt8)} (h : PL w v ib kb pb n xs br tx) (hm : Moved w v v') (hg : w.grownBy w' v.ownBlock) : PL w' v' ib kb pb n xs br tx :=
 ⟨h.it.kept hg h.i1, hm.apart h.i1 h.it.2.1, Nat.lt_of_lt_of_le h.k0 hg.size, hm.apart h.k1 h.k0, fun j hj => (World.cell?_of_block (a := ⟨kb, j, none⟩) (hg.block kb h.k0 h.k1)).trans (h.k2 j hj),
  Nat.lt_of_lt_of_le h.p0 hg.size, hm.apart h.p1 h.p0, fun j hj => (World.cell?_of_block (a := ⟨pb, j, none⟩) (hg.block pb h.p0 h.p1)).trans (h.p2 j hj)⟩
theorem own_nil_cap {w : World} {B : Nat} {v : Value} {xs : List (List UInt8)} (h : OwnT w B v xs) : ∀ c n, v = .slice none n c → c = 0 := by
 intro c n e
 rcases h.2 with ⟨h1, _⟩ | ⟨g, cap, cur, h1, _⟩
 ·rw [h1] at e
  injection e with _ _ e3
  exact e3.symm
 ·rw [h1] at e
  injection e with e1
  cases e1
def LinesPost (ws ps : List (List UInt8)) (wd most : Int) (w : World) (e : Ending) (w' : World) : Prop := ∃ v, e = .returned (.tuple #[v, .bool (paraL ws ps wd most).isSome]) ∧ OwnT w' w.heap.size v ((paraL ws ps wd most).getD []) ∧ Below w.heap.size w w'
theorem own_items_cells {w : World} {B : Nat} {v : Value} {xs : List DItem} (h : OwnX w B v xs) (hp : 0 < xs.length) : ∃ b cap, v = .slice (some ⟨b, 0, none⟩) xs.length cap ∧ B ≤ b ∧ ItC w b 0 xs.length xs := by
 obtain ⟨b, off, cap, e, hc⟩ := ItC.of_row h.row hp
 rcases h.2 with ⟨_, h2⟩ | ⟨g, cap', cur, e2, hg, _⟩
 ·omega
 ·rw [e2] at e
  injection e with e3 _ e5
  injection e3 with e3
  injection e3 with e4 e6
  subst e4 e5
  subst e6
  exact ⟨g, cap', e2, hg, hc⟩
theorem own_ints_cells {w : World} {B : Nat} {v : Value} {br : List Nat} (h : OwnI w B v (ints br)) (hp : 0 < br.length) : ∃ b cap, v = .slice (some ⟨b, 0, none⟩) br.length cap ∧ B ≤ b ∧ b < w.heap.size ∧ ∀ j, j < br.length → w.cell? ⟨b, j, none⟩ = some (.int .i64 ((br.getD j 0 : Nat) : Int)) := by
 obtain ⟨b, cap, h1, h2, h3, h4⟩ := nums_pos (m := br.length) (by rw [ints_len]) hp h
 exact ⟨b, cap, h1, h3, h2, fun j hj => by rw [h4.out j hj, ints_getD _ _ hj]⟩
theorem own_texts_cells {w : World} {B : Nat} {v : Value} {tx : List (List UInt8)} (h : OwnT w B v tx) (hp : 0 < tx.length) : ∃ b cap, v = .slice (some ⟨b, 0, none⟩) tx.length cap ∧ B ≤ b ∧ b < w.heap.size ∧ ∀ j, j < tx.length → w.cell? ⟨b, j, none⟩ = some (.string (bs (tx.getD j []))) := by
 rcases h.2 with ⟨_, h2⟩ | ⟨g, cap, cur, rfl, hg, _⟩
 ·omega
 ·refine ⟨g, cap, rfl, hg, (World.ownsRow.lt h g rfl).2, fun j hj => ?_⟩
  rw [World.ownsRow.cellAt h j (by omega)]
  have := flatMap_get encB 1 tx j 0 hj (fun x _ => rfl) (by omega)
  rw [show j * 1 + 0 = j by omega] at this
  rw [this]
  simp [List.getD, hj, encB]
theorem paraL_is {ws ps : List (List UInt8)} {wd most : Int} (h : (paraI ws ps).length ≤ 60) : paraL ws ps wd most = (bestBreaks (paraI ws ps) wd most).map (linesT (paraI ws ps) (texts ws ps) 0) := by unfold paraL; rw [if_pos h]
theorem paraL_no {ws ps : List (List UInt8)} {wd most : Int} (h : ¬ (paraI ws ps).length ≤ 60) : paraL ws ps wd most = none := by unfold paraL; rw [if_neg h]
theorem breaks_chain {xs : List DItem} {wd most : Int} {br : List Nat} (h : bestBreaks xs wd most = some br) : Chain xs 0 br := by
 unfold bestBreaks at h
 cases hb : best xs wd most 0 1 with
 | none => rw [hb] at h; cases h
 | some p => rw [hb] at h; cases h; exact path_chain xs wd most _ _ _
theorem chain_len {xs : List DItem} : ∀ (t : List Nat) (a : Nat), Chain xs a t → a ≤ xs.length → t.length ≤ xs.length - a
 | [], _, _, _ => Nat.zero_le _
 | u :: t, a, h, _ => by
  have := chain_len t (u + 1) h.2.2.2 (by have := h.2.1; omega)
  have h1 := h.1
  have h2 := h.2.1
  rw [List.length_cons]
  omega
end Go.Proofs.YtofnchdijanikaaGreatDoor

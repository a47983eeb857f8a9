/-
  PROVED HERE: what the printer's lines need, part V01. Conditions: each theorem's own.
-/
import Derived.Test.YtofnchdijanikaaGreatDoorC21
import Derived.Deep.RegionHeld3
set_option linter.unusedVariables false
set_option linter.unusedSimpArgs false
set_option maxRecDepth 100000
namespace Go.Proofs.YtofnchdijanikaaGreatDoor
open Go.RowKit
set_option maxHeartbeats 16000000 in
theorem specBLines_any (b : DBook) (hv : bookB b = true) (v : Value) (w : World) (h : BookR w v b) : Calls Tryz.prog 60 #[v] w (BLPost b w) := by
 have hok := bookB_true hv
 obtain ⟨pv, qv, rfl, hp, hq⟩ := h
 have hp0 := hp
 obtain ⟨va, vc, rfl, hl, hidx⟩ := ss_idx hp
 have WB := Lib.hid (fun k (hk : k < b.pars.length) => parB_split (hok.pars _ (show b.pars.getD k [] ∈ b.pars by rw [getD_eq b.pars [] k hk]; exact List.getElem_mem hk)))
 have PLA := Lib.hid (fun k (hk : k < b.pars.length) u w' h1 h2 => specPLines_any u qv (b.pars.getD k []) b.pats (WB.out k hk).1 (WB.out k hk).2 hok.pats b.w b.most hok.w hok.most w' h1 h2)
 have BAD := Lib.hid (fun k (hk : k < b.pars.length) h => bookTo_bad (b := b) (k := k) hk h)
 have GOOD := Lib.hid (fun k acc (l : List (List UInt8)) (h1 : bookTo b k = some acc) (h2 : paraL (b.pars.getD k []) b.pats b.w b.most = some l) => bookTo_good (b := b) (k := k) h1 h2)
 have six := hok.six
 have PLL := Lib.hid (fun k l (h : paraL (b.pars.getD k []) b.pats b.w b.most = some l) => paraL_len h)
 have BTL := Lib.hid (fun k acc (h : bookTo b k = some acc) => bookTo_len k acc h)
 have BT0 : Hid (bookTo b 0 = some []) := rfl
 have BTE : Hid (∀ acc, bookTo b b.pars.length = some acc → bookL b = some acc) := fun acc h => h
 obtain ⟨n, hn⟩ : ∃ n, n = b.pars.length := ⟨_, rfl⟩
 rw [← hn] at hidx hl WB PLA BAD BTE six ⊢
 obtain ⟨bw, hbw⟩ : ∃ x, x = b.w := ⟨_, rfl⟩
 obtain ⟨bm, hbm⟩ : ∃ x, x = b.most := ⟨_, rfl⟩
 obtain ⟨bl, hbl⟩ : ∃ x, x = b.lines := ⟨_, rfl⟩
 have AW0 : Below w.heap.size w (((w.alloc (.cells #[.slice va n vc, qv, .int .i64 bw, .int .i64 bm, .int .i64 bl] 27)).alloc (.cells #[] 9)).alloc (.cells #[] 3)) := (((Below.refl _ _).alloc (Nat.le_refl _) _).alloc (by simp) _).alloc (by simp; omega) _
 have L0 : Hid (BL (((w.alloc (.cells #[.slice va n vc, qv, .int .i64 bw, .int .i64 bm, .int .i64 bl] 27)).alloc (.cells #[] 9)).alloc (.cells #[] 3)) w.heap.size (.slice (some ⟨w.heap.size + 1, 0, none⟩) 0 0) (.slice (some ⟨w.heap.size + 2, 0, none⟩) 0 0) ([] : List (List (List UInt8))).flatten (ints (counts [])) (.slice va n vc) qv (.int .i64 bw) (.int .i64 bm) (.int .i64 bl)) := by
  have o1 := OwnT.made (w.alloc (.cells #[.slice va n vc, qv, .int .i64 bw, .int .i64 bm, .int .i64 bl] 27)) (B := w.heap.size) (by simp)
  rw [show (w.alloc (.cells #[.slice va n vc, qv, .int .i64 bw, .int .i64 bm, .int .i64 bl] 27)).heap.size = w.heap.size + 1 by simp] at o1
  have o2 := OwnI.made ((w.alloc (.cells #[.slice va n vc, qv, .int .i64 bw, .int .i64 bm, .int .i64 bl] 27)).alloc (.cells #[] 9)) (B := w.heap.size) (by simp; omega)
  rw [show ((w.alloc (.cells #[.slice va n vc, qv, .int .i64 bw, .int .i64 bm, .int .i64 bl] 27)).alloc (.cells #[] 9)).heap.size = w.heap.size + 2 by simp] at o2
  obtain ⟨y0, y1, y2, y3, y4⟩ := box5 w 27 (.slice va n vc) qv (.int .i64 bw) (.int .i64 bm) (.int .i64 bl)
  have AL : Below (w.alloc (.cells #[.slice va n vc, qv, .int .i64 bw, .int .i64 bm, .int .i64 bl] 27)).heap.size (w.alloc (.cells #[.slice va n vc, qv, .int .i64 bw, .int .i64 bm, .int .i64 bl] 27)) (((w.alloc (.cells #[.slice va n vc, qv, .int .i64 bw, .int .i64 bm, .int .i64 bl] 27)).alloc (.cells #[] 9)).alloc (.cells #[] 3)) := ((Below.refl _ _).alloc (Nat.le_refl _) _).alloc (by simp) _
  refine ⟨World.ownsRow.alloc o1 _, o2, (fun k h1 h2 => ?_), ?_, ?_, by simp; omega, keepc y0 AL, keepc y1 AL, keepc y2 AL, keepc y3 AL, keepc y4 AL⟩
  ·have e1 : some (w.heap.size + 1) = some k := h1
   have e2 : some (w.heap.size + 2) = some k := h2
   rw [← e1] at e2
   have := Option.some.inj e2
   omega
  ·show some w.heap.size ≠ some (w.heap.size + 1); intro e; have := Option.some.inj e; omega
  ·show some w.heap.size ≠ some (w.heap.size + 2); intro e; have := Option.some.inj e; omega
 have BV0 := specBook_any b (bookSh_ok hok) _ (((w.alloc (.cells #[.slice va n vc, qv, .int .i64 bw, .int .i64 bm, .int .i64 bl] 27)).alloc (.cells #[] 9)).alloc (.cells #[] 3)) (BookR.below (⟨_, qv, rfl, hp0, hq⟩ : BookR w (.agg #[.slice va b.pars.length vc, qv, .int .i64 b.w, .int .i64 b.most, .int .i64 b.lines]) b) AW0)
 rw [hv, ← hn, ← hbw, ← hbm, ← hbl] at BV0
 rw [← hbw, ← hbm] at PLA
 rw [← hbw, ← hbm, ← hbl]
 have BV := Lib.hid BV0
 have AW := Lib.hid AW0
 have HI := Lib.hid hidx
 have HQ := Lib.hid hq
 have BWE := Lib.hid hbw
 have BME := Lib.hid hbm
 clear hok hp hp0 hq hidx hn hbw hbm hbl AW0 BV0 hv
 go_enter Tryz.func60, Tryz.ntmps60
 go_wp2_with (go_at_call 19; refine BV.out.mono ?_; rintro e w2 ⟨rfl, hb2⟩; have L2 := Lib.hid (L0.out.below hb2); have B2 := Lib.hid (below_next AW.out hb2 (Nat.le_refl _)); have vk0 := L2.out.k0)
 clear L0 hb2 AW
 go_loopw [5, 6, 7] (fun v c i wr => ∃ (k : Nat) (acc : List (List (List UInt8))), k ≤ n ∧ i = .int .i64 k ∧ Hid (bookTo b k = some acc) ∧ Hid (BL wr w.heap.size v c acc.flatten (ints (counts acc)) (.slice va n vc) qv (.int .i64 bw) (.int .i64 bm) (.int .i64 bl)) ∧ Hid (Below w.heap.size w wr)) (fun _ _ i _ => n - (intOf i).toNat)
 case atStart => exact ⟨0, [], Nat.zero_le _, rfl, BT0.out, L2.out, B2.out⟩
 case round =>
  obtain ⟨k, acc, hk, rfl, hbt, h1, h2⟩ := hrel
  clear L2 B2 vk0
  have k0 := h1.out.k0
  have k1 := h1.out.k1
  have k2 := h1.out.k2
  have k3 := h1.out.k3
  by_cases hkn : k < n
  ·have hkn' : (k : Int) < (n : Int) := by omega
   obtain ⟨b1, o1, u, rfl, b2, c1, hu⟩ := HI.out k hkn
   have c2 := (h2.out.cell (p := ⟨b1, o1 + k, none⟩) b2).trans c1
   have PL0 := PLA.out k hkn u wr.drew (hu.below h2.out.drew) (HQ.out.below h2.out.drew)
   have BTk := BTL.out k acc hbt.out
   clear c1 hu
   cases hpl : paraL (b.pars.getD k []) b.pats bw bm with
   | none =>
    have E := Lib.hid (BAD.out k hkn (by rw [← BWE.out, ← BME.out]; exact hpl))
    unfold LinesPost at PL0
    rw [hpl] at PL0
    have PLH := Lib.hid PL0
    clear hpl PL0 BTk
    go_wp2_with fail
    have kk := (show wr.drew.cell? ⟨w.heap.size, 0, none⟩ = some (.slice (some ⟨b1, o1, none⟩) n vc) ∧ wr.drew.cell? ⟨w.heap.size, 1, none⟩ = some qv ∧ wr.drew.cell? ⟨w.heap.size, 2, none⟩ = some (.int .i64 bw) ∧ wr.drew.cell? ⟨w.heap.size, 3, none⟩ = some (.int .i64 bm) ∧ wr.drew.cell? ⟨b1, o1 + k, none⟩ = some u from ⟨k0, k1, k2, k3, c2⟩)
    go_region_held3 (fun w' => w'.cell? ⟨w.heap.size, 0, none⟩ = some (.slice (some ⟨b1, o1, none⟩) n vc) ∧ w'.cell? ⟨w.heap.size, 1, none⟩ = some qv ∧ w'.cell? ⟨w.heap.size, 2, none⟩ = some (.int .i64 bw) ∧ w'.cell? ⟨w.heap.size, 3, none⟩ = some (.int .i64 bm) ∧ w'.cell? ⟨b1, o1 + k, none⟩ = some u) (first | with_reducible exact kk | with_reducible exact kk5) (first | (go_at_call 80; refine PLH.out.mono ?_; rintro e w5 ⟨v9, rfl, o9, hb5⟩; have hb5x := hb5; have hb5 := below_next ((Below.refl wr.heap.size wr).drew) hb5x (Nat.le_refl _); obtain ⟨z9, c9, rfl⟩ := own_form o9; have o99 := Lib.hid o9; have L5 := Lib.hid (h1.out.below hb5); have B5 := Lib.hid (below_next h2.out hb5 (Nat.le_refl _)); with_reducible have kk5 := keep5 kk hb5x))
    go_wp2_with fail
    have Q1 := OwnT.made w5 (B := w.heap.size) B5.out.size
    have Q2 := OwnI.made (w5.alloc (.cells #[] 9)) (B := w.heap.size) (by have := B5.out.size; simp; omega)
    go_ret3
    refine ⟨_, _, by rw [E.out]; rfl, ?_, ?_, (B5.out.alloc B5.out.size _).alloc (by have := B5.out.size; simp; omega) _⟩
    ·rw [E.out]
     exact World.ownsRow.alloc Q1 _
    ·rw [E.out]
     show OwnI _ _ _ []
     simpa using Q2
   | some l =>
    have hpl2 : paraL (b.pars.getD k []) b.pats b.w b.most = some l := by rw [← BWE.out, ← BME.out]; exact hpl
    have E := Lib.hid (GOOD.out k acc l hbt.out hpl2)
    have ll := PLL.out k l hpl2
    clear hpl2
    unfold LinesPost at PL0
    rw [hpl] at PL0
    have PLH : Hid (Calls Tryz.prog 80 #[u, qv, .int .i64 bw, .int .i64 bm] wr.drew fun e w' => ∃ v, e = Ending.returned (.tuple #[v, .bool true]) ∧ OwnT w' wr.drew.heap.size v l ∧ Below wr.drew.heap.size wr.drew w') := PL0
    have XL : acc.flatten.length ≤ 4000000 := by have := BTk.2.2.2; omega
    have YL : l.length ≤ 4000000 := by omega
    have YL2 : (ints (counts acc)).length ≤ 4000000 := by rw [ints_len]; unfold counts; rw [List.length_map]; have := BTk.1; omega
    have FSQ := Lib.hid (flat_snoc acc l)
    have CS := Lib.hid (counts_snoc acc l)
    obtain ⟨X, hX⟩ : ∃ X, X = acc.flatten := ⟨_, rfl⟩
    obtain ⟨Y, hY⟩ : ∃ Y, Y = ints (counts acc) := ⟨_, rfl⟩
    rw [← hX] at XL FSQ h1
    rw [← hY] at YL2 CS h1
    clear hpl PL0 BTk hX hY
    go_wp2_with fail
    have kk := (show wr.drew.cell? ⟨w.heap.size, 0, none⟩ = some (.slice (some ⟨b1, o1, none⟩) n vc) ∧ wr.drew.cell? ⟨w.heap.size, 1, none⟩ = some qv ∧ wr.drew.cell? ⟨w.heap.size, 2, none⟩ = some (.int .i64 bw) ∧ wr.drew.cell? ⟨w.heap.size, 3, none⟩ = some (.int .i64 bm) ∧ wr.drew.cell? ⟨b1, o1 + k, none⟩ = some u from ⟨k0, k1, k2, k3, c2⟩)
    go_region_held3 (fun w' => w'.cell? ⟨w.heap.size, 0, none⟩ = some (.slice (some ⟨b1, o1, none⟩) n vc) ∧ w'.cell? ⟨w.heap.size, 1, none⟩ = some qv ∧ w'.cell? ⟨w.heap.size, 2, none⟩ = some (.int .i64 bw) ∧ w'.cell? ⟨w.heap.size, 3, none⟩ = some (.int .i64 bm) ∧ w'.cell? ⟨b1, o1 + k, none⟩ = some u) (first | with_reducible exact kk | with_reducible exact kk5) (first | (go_at_call 80; refine PLH.out.mono ?_; rintro e w5 ⟨v9, rfl, o9, hb5⟩; have hb5x := hb5; have hb5 := below_next ((Below.refl wr.heap.size wr).drew) hb5x (Nat.le_refl _); obtain ⟨z9, c9, rfl⟩ := own_form o9; have o99 := Lib.hid o9; have L5 := Lib.hid (h1.out.below hb5); have B5 := Lib.hid (below_next h2.out hb5 (Nat.le_refl _)); with_reducible have kk5 := keep5 kk hb5x))
    go_wp2_with (first | (at_builtin; refine append_strs w w5 rfl _ _ rfl w.heap.size u5 X l (.slice z9 l.length c9) rfl rfl L5.out.ro (OwnT.row o99.out) (own_nil_cap o99.out) XL YL (Nat.le_refl _) B5.out ?_; intro v' w6 hown' hbel hmv hgr; have L6 := Lib.hid (L5.out.addT hmv hgr hown')) | (at_builtin; refine append_num w w6 rfl _ _ rfl w.heap.size u6 Y (l.length : Int) rfl rfl L6.out.rc YL2 (Nat.le_refl _) hbel ?_; intro c' w7 hown2 hbel2 hmv2 hgr2))
    have L7 := Lib.hid (L6.out.addC hmv2 hgr2 hown2)
    first
     | exact ⟨⟨k + 1, acc ++ [l], by omega, by go_num, E.out, by rw [FSQ.out, CS.out]; exact L7.out, hbel2⟩, by (simp [intOf]) <;> omega⟩
     | (go_roundw
        case rel => exact ⟨k + 1, acc ++ [l], by omega, by go_num, E.out, by rw [FSQ.out, CS.out]; exact L7.out, hbel2⟩
        case measure => (simp [intOf]) <;> omega)
  ·obtain rfl : k = n := by omega
   have E := Lib.hid (BTE.out acc hbt.out)
   go_wp2_with fail
   go_ret3
   exact ⟨_, _, by rw [E.out]; rfl, by rw [E.out]; exact h1.out.ro, by rw [E.out]; exact h1.out.rc, h2.out⟩
end Go.Proofs.YtofnchdijanikaaGreatDoor
namespace Go.Proofs.YtofnchdijanikaaGreatDoor
open Go.RowKit
theorem info_row : (Tryz.prog.info? 23).map (fun i => (i.zero, i.size, i.bytes)) = some (some (.slice none 0 0), 1, 24) := by kernel_rfl
def OwnSU (w : World) (base hi : Nat) (v : Value) (xss : List (List (List UInt8))) (us : List Value) : Prop :=
 us.length = xss.length ∧ w.ownsRow base 23 1 v xss.length us ∧ (∀ k, v.ownBlock = some k → k < hi) ∧
  (∀ j (h : j < xss.length), ∃ u, us[j]? = some u ∧ OwnT w base u xss[j] ∧ (∀ k, u.ownBlock = some k → k < hi) ∧ (u.ownBlock = none ∨ u.ownBlock ≠ v.ownBlock)) ∧
  (∀ (i j : Nat) (u u' : Value), us[i]? = some u → us[j]? = some u' → i ≠ j → u.ownBlock = none ∨ u.ownBlock ≠ u'.ownBlock)
section
variable {w w' : World} {base hi : Nat} {v : Value} {xss : List (List (List UInt8))} {us : List Value}
theorem encV_map (us : List Value) : us.flatMap encV = us := by
 induction us with
 | nil => rfl
 | cons u t ih => rw [List.flatMap_cons, ih]; rfl
theorem OwnSU.nil (w : World) (base hi : Nat) : OwnSU w base hi (.slice none 0 0) [] [] := ⟨rfl, ⟨rfl, .inl ⟨rfl, rfl⟩⟩, (fun k h => by cases h), (fun j h => by cases h), fun i j u u' h => by cases h⟩
theorem OwnSU.made (w : World) {base : Nat} (hb : base ≤ w.heap.size) : OwnSU (w.alloc (.cells #[] 23)) base (w.heap.size + 1) (.slice (some ⟨w.heap.size, 0, none⟩) 0 0) [] [] :=
 ⟨rfl, World.ownsRow_made w #[] 0 hb (Nat.zero_le _) rfl, (fun k h => by have e : some w.heap.size = some k := h; have := Option.some.inj e; omega), (fun j h => by cases h), fun i j u u' h => by cases h⟩
theorem OwnSU.read (h : OwnSU w base hi v xss us) : TxtSS w v xss := by
 obtain ⟨h1, h2, _, h3, _⟩ := h
 refine ⟨us, SRow.of_owns encV_len h1 (by rw [encV_map]; exact h2), h1, fun j hj => ?_⟩
 obtain ⟨u, e, hu, _⟩ := h3 j hj
 exact ⟨u, e, hu.row⟩
theorem OwnSU.kept (h : OwnSU w base hi v xss us) (hb : ∀ k, base ≤ k → k < hi → k < w.heap.size → w'.heap[k]? = w.heap[k]?) : OwnSU w' base hi v xss us := by
 obtain ⟨h1, h2, h2', h3, h4⟩ := h
 have key : ∀ {E : TypeId} {sz n : Nat} {u : Value} {zs : List Value}, w.ownsRow base E sz u n zs → (∀ k, u.ownBlock = some k → k < hi) → w'.ownsRow base E sz u n zs := fun ho hu => by
  refine ⟨ho.1, ho.2.imp id fun ⟨g, cap, cur, e, hb', hc, r⟩ => ?_⟩
  subst e
  have hg : g < hi := hu g rfl
  have hgl : g < w.heap.size := (World.ownsRow.lt ho g rfl).2
  exact ⟨g, cap, cur, rfl, hb', (hb g hb' hg hgl).trans hc, r⟩
 refine ⟨h1, key h2 h2', h2', fun j hj => ?_, h4⟩
 obtain ⟨u, e, hu, hk, ha⟩ := h3 j hj
 exact ⟨u, e, key hu hk, hk, ha⟩
theorem OwnSU.below (h : OwnSU w base hi v xss us) (hb : Below w.heap.size w w') : OwnSU w' base hi v xss us := h.kept fun k _ _ hk => hb.block k hk
theorem OwnSU.wider {hi' : Nat} (h : OwnSU w base hi v xss us) (hh : hi ≤ hi') : OwnSU w base hi' v xss us := by
 obtain ⟨h1, h2, h2', h3, h4⟩ := h
 refine ⟨h1, h2, fun k hk => Nat.lt_of_lt_of_le (h2' k hk) hh, fun j hj => ?_, h4⟩
 obtain ⟨u, e, hu, hk, ha⟩ := h3 j hj
 exact ⟨u, e, hu, fun k h => Nat.lt_of_lt_of_le (hk k h) hh, ha⟩
theorem OwnSU.snoc {o : Obj} {v' u : Value} {x : List (List UInt8)} (h : OwnSU w base hi v xss us) (hh : hi ≤ w.heap.size) (hu : OwnT w base u x) (hg : ∀ k, u.ownBlock = some k → hi ≤ k) (hgr : w.grownBy w' v.ownBlock) (hmv : Moved (w.alloc o) v v')
  (ho : w'.ownsRow base 23 1 v' (xss.length + 1) (us ++ [u])) : OwnSU w' base w'.heap.size v' (xss ++ [x]) (us ++ [u]) := by
 obtain ⟨h1, h2, h2', h3, h4⟩ := h
 have hs := hgr.size
 have hux := World.ownsRow.lt hu
 have huv : u.ownBlock = none ∨ u.ownBlock ≠ v.ownBlock := by
  cases hb : u.ownBlock with
  | none => exact .inl rfl
  | some k => exact .inr fun e => by have := hg k hb; have := h2' k e.symm; omega
 have old : ∀ (i : Nat) (u : Value), us[i]? = some u → ∀ k, u.ownBlock = some k → k < hi := fun i u e => by
  have hi' : i < xss.length := by rw [← h1]; exact (List.getElem?_eq_some_iff.1 e).1
  obtain ⟨u2, e2, _, hk, _⟩ := h3 i hi'
  rw [e] at e2
  cases e2
  exact hk
 have move : ∀ z : Value, (z.ownBlock = none ∨ z.ownBlock ≠ v.ownBlock) → (∀ k, z.ownBlock = some k → k < w.heap.size) → z.ownBlock = none ∨ z.ownBlock ≠ v'.ownBlock := fun z hz hk => by
  cases hb : z.ownBlock with
  | none => exact .inl rfl
  | some k =>
   right
   refine moved_alloc hmv ?_ (hk k hb)
   rcases hz with hz | hz
   ·rw [hb] at hz; cases hz
   ·rw [← hb]; exact hz
 refine ⟨by simp [h1], by simpa using ho, fun k hk => (ho.lt k hk).2, fun j hj => ?_, fun i j z z' hz hz' hij => ?_⟩
 ·by_cases hjx : j < xss.length
  ·obtain ⟨z, e, hz, hk, ha⟩ := h3 j hjx
   refine ⟨z, by rw [List.getElem?_append_left (by omega)]; exact e, ?_, fun k h => by have := hk k h; omega, move z ha (fun k h => by have := hk k h; omega)⟩
   rw [List.getElem_append_left hjx]
   exact World.ownsRow.kept hz hgr ha
  ·obtain rfl : j = xss.length := by simp at hj; omega
   refine ⟨u, by rw [← h1]; simp, ?_, fun k h => by have := (hux k h).2; omega, move u huv (fun k h => (hux k h).2)⟩
   rw [List.getElem_append_right (Nat.le_refl _)]
   simp only [Nat.sub_self, List.getElem_cons_zero]
   exact World.ownsRow.kept hu hgr huv
 ·rw [List.getElem?_append] at hz hz'
  split at hz
  ·split at hz'
   ·exact h4 i j z z' hz hz' hij
   ·obtain rfl : u = z' := (List.mem_singleton.1 (List.mem_of_getElem? hz')).symm
    cases hb : z.ownBlock with
    | none => exact .inl rfl
    | some k =>
     right
     intro e
     have := old i z hz k hb
     have := hg k e.symm
     omega
  ·split at hz'
   ·obtain rfl : u = z := (List.mem_singleton.1 (List.mem_of_getElem? hz)).symm
    cases hb : u.ownBlock with
    | none => exact .inl rfl
    | some k =>
     right
     intro e
     have := old j z' hz' k e.symm
     have := hg k hb
     omega
   ·exfalso
    have a := (List.getElem?_eq_some_iff.1 hz).1
    have b := (List.getElem?_eq_some_iff.1 hz').1
    simp at a b
    omega
end
theorem append_ss (w wr : World) {ops : Array Oper} {rest : List Oper} {o : Oper} {a : Act} {Q : Exit → Act → World → Prop} (hgd : o.guard = none) (s x : Operand)
  (ho : o.op = .call { callee := .builtin .append, args := #[s, x], argTypes := #[22, 22] }) (B hi : Nat) (v : Value) (xss : List (List (List UInt8))) (us : List Value) (z : Option Addr) (n c : Nat) (l : List (List UInt8))
  (hs : a.eval s = v) (hx : a.eval x = .slice (some ⟨wr.heap.size, 0, none⟩) 1 1) (hown : OwnSU wr B hi v xss us) (hhi : hi ≤ wr.heap.size) (hu : OwnT wr B (.slice z n c) l) (hg : ∀ k, (Value.slice z n c).ownBlock = some k → hi ≤ k) (hn : xss.length ≤ 4000000) (hB : B ≤ w.heap.size) (hb : Below B w wr)
  (h : ∀ v' w', OwnSU w' B w'.heap.size v' (xss ++ [l]) (us ++ [.slice z n c]) → Below B w w' → Moved (wr.alloc (.cells #[.slice z n c] 23)) v v' → wr.grownBy w' v.ownBlock → wpList Tryz.prog ops Q rest (a.put o.dst v') w') :
  wpList Tryz.prog ops Q (o :: rest) a (wr.alloc (.cells #[.slice z n c] 23)) := by
 obtain ⟨i0, hi0, hz0, hz1, hz2⟩ := info_parts info_row
 have hws := hb.size
 have hr := hown.2.1
 refine append_mine _ hgd s x 22 ho B 23 i0 (.slice none 0 0) 1 24 Tryz.underlying22 hi0 hz0 hz1 hz2 rfl (by decide) v xss.length _ hs (World.ownsRow.alloc hr _) ⟨wr.heap.size, 0, none⟩ 1 1 [.slice z n c] hx rfl (by simpa using cells_new wr [_] _) (by intro u hu; simp at hu; subst hu; rfl) (by unfold maxLen; omega) (by omega) (by simp; omega) ?_
 intro v' w' h1 h2 h3
 have hgr := grownBy_trans (World.grownBy_alloc wr _ v.ownBlock) h2
 exact h v' w' (hown.snoc hhi hu hg hgr h3 h1) (below_append hb hB hr h2) h3 hgr
end Go.Proofs.YtofnchdijanikaaGreatDoor
namespace Go.Proofs.YtofnchdijanikaaGreatDoor
open Go.RowKit
theorem hQ {p : Prop} (h : p) : Hid p := Lib.hid h
theorem nR {n : Nat} : n ≤ n := Nat.le_refl n
structure OwnB (w : World) (base hi : Nat) (pv qv : Value) (us : List Value) (b : DBook) : Prop where
 p : OwnSU w base hi pv b.pars us
 q : OwnT w base qv b.pats
 ap : ∀ k, qv.ownBlock = some k → k < hi ∧ pv.ownBlock ≠ some k ∧ ∀ u ∈ us, u.ownBlock ≠ some k
def bookV (pv qv : Value) (b : DBook) : Value := .agg #[pv, qv, .int .i64 b.w, .int .i64 b.most, .int .i64 b.lines]
def CopyPost (b : DBook) (w : World) (e : Ending) (w' : World) : Prop := ∃ pv qv us, e = .returned (bookV pv qv b) ∧ OwnB w' w.heap.size w'.heap.size pv qv us b ∧ Below w.heap.size w w'
theorem OwnB.read {w : World} {base hi : Nat} {pv qv : Value} {us : List Value} {b : DBook} (h : OwnB w base hi pv qv us b) : BookR w (bookV pv qv b) b := ⟨pv, qv, rfl, h.p.read, h.q.row⟩
theorem OwnSU.mono {w : World} {base base' hi : Nat} {v : Value} {xss : List (List (List UInt8))} {us : List Value} (h : OwnSU w base hi v xss us) (hb : base' ≤ base) : OwnSU w base' hi v xss us := by
 obtain ⟨h1, h2, h2', h3, h4⟩ := h
 refine ⟨h1, World.ownsRow.mono h2 hb, h2', fun j hj => ?_, h4⟩
 obtain ⟨u, e, hu, hk, ha⟩ := h3 j hj
 exact ⟨u, e, hu.mono hb, hk, ha⟩
theorem OwnSU.us_lt {w : World} {base hi : Nat} {v : Value} {xss : List (List (List UInt8))} {us : List Value} (h : OwnSU w base hi v xss us) : ∀ u ∈ us, ∀ k, u.ownBlock = some k → base ≤ k ∧ k < hi := by
 obtain ⟨h1, _, _, h3, _⟩ := h
 intro u hu k hk
 obtain ⟨i, hi', rfl⟩ := List.getElem_of_mem hu
 obtain ⟨u2, e, ho, hh, _⟩ := h3 i (by omega)
 rw [List.getElem?_eq_getElem hi'] at e
 obtain rfl := Option.some.inj e
 exact ⟨(World.ownsRow.lt ho k hk).1, hh k hk⟩
theorem OwnSU.form {w : World} {base hi : Nat} {v : Value} {xss : List (List (List UInt8))} {us : List Value} (h : OwnSU w base hi v xss us) : ∃ z c, v = .slice z xss.length c := by
 rcases h.2.1.2 with ⟨rfl, h0⟩ | ⟨g, cap, cur, rfl, _⟩
 ·exact ⟨none, 0, by rw [h0]⟩
 ·exact ⟨_, _, rfl⟩
theorem own5_made (w : World) {B : Nat} (hB : B ≤ w.heap.size) (E : TypeId) (a b c d e : Value) : (w.alloc (.cells #[a, b, c, d, e] E)).ownsRow B E 5 (.slice (some ⟨w.heap.size, 0, none⟩) 1 1) 1 [a, b, c, d, e] :=
 ⟨rfl, .inr ⟨w.heap.size, 1, #[a, b, c, d, e], rfl, hB, heap_alloc_new w _, Nat.le_refl _, by unfold maxLen; omega, rfl, rfl⟩⟩
theorem own5 {w : World} {base g : Nat} {E : TypeId} {a b c d e : Value} (h : w.ownsRow base E 5 (.slice (some ⟨g, 0, none⟩) 1 1) 1 [a, b, c, d, e]) : w.cell? ⟨g, 0, none⟩ = some a ∧ w.cell? ⟨g, 1, none⟩ = some b ∧ w.cell? ⟨g, 2, none⟩ = some c ∧ w.cell? ⟨g, 3, none⟩ = some d ∧ w.cell? ⟨g, 4, none⟩ = some e :=
 ⟨h.cellAt 0 (by omega), h.cellAt 1 (by omega), h.cellAt 2 (by omega), h.cellAt 3 (by omega), h.cellAt 4 (by omega)⟩
theorem fz5 {w : World} {base g : Nat} {E : TypeId} {l : List Value} (h : w.ownsRow base E 5 (.slice (some ⟨g, 0, none⟩) 1 1) 1 l) : w.frozen? ⟨g, 0, none⟩ = false ∧ w.frozen? ⟨g, 1, none⟩ = false ∧ w.frozen? ⟨g, 2, none⟩ = false ∧ w.frozen? ⟨g, 3, none⟩ = false ∧ w.frozen? ⟨g, 4, none⟩ = false :=
 ⟨World.ownsRow.frozenAt h 0, World.ownsRow.frozenAt h 1, World.ownsRow.frozenAt h 2, World.ownsRow.frozenAt h 3, World.ownsRow.frozenAt h 4⟩
theorem own5_set {w : World} {base g : Nat} {E : TypeId} {a b c d e : Value} (h : w.ownsRow base E 5 (.slice (some ⟨g, 0, none⟩) 1 1) 1 [a, b, c, d, e]) (x y z u v : Value) :
  (((((w.setCell ⟨g, 0, none⟩ x).setCell ⟨g, 1, none⟩ y).setCell ⟨g, 2, none⟩ z).setCell ⟨g, 3, none⟩ u).setCell ⟨g, 4, none⟩ v).ownsRow base E 5 (.slice (some ⟨g, 0, none⟩) 1 1) 1 [x, y, z, u, v] ∧
  w.grownBy (((((w.setCell ⟨g, 0, none⟩ x).setCell ⟨g, 1, none⟩ y).setCell ⟨g, 2, none⟩ z).setCell ⟨g, 3, none⟩ u).setCell ⟨g, 4, none⟩ v) (some g) := by
 have s0 := h.stored 0 x
 have s1 := s0.1.stored 1 y
 have s2 := s1.1.stored 2 z
 have s3 := s2.1.stored 3 u
 have s4 := s3.1.stored 4 v
 exact ⟨s4.1, grownBy_trans (grownBy_trans (grownBy_trans (grownBy_trans s0.2 s1.2) s2.2) s3.2) s4.2⟩
theorem OwnSU.grown {w w' : World} {base hi : Nat} {v : Value} {xss : List (List (List UInt8))} {us : List Value} {row : Option Nat} (h : OwnSU w base hi v xss us) (hg : w.grownBy w' row) (hr : ∀ k, row = some k → k < base ∨ hi ≤ k) : OwnSU w' base hi v xss us :=
 h.kept fun k h1 h2 h3 => hg.block k h3 fun e => by have := hr k e.symm; omega
theorem take_snoc {α : Type} (l : List α) (d : α) (k : Nat) (h : k < l.length) : l.take (k + 1) = l.take k ++ [l.getD k d] := by
 rw [List.take_succ_eq_append_getElem h, getD_eq l d k h]
theorem moved_nil {w : World} {v : Value} (h : Moved w (.slice none 0 0) v) : ∀ k, v.ownBlock = some k → w.heap.size ≤ k := by
 rcases h with h | h
 ·intro k hk; rw [h] at hk; cases hk
 ·exact h
abbrev BoxT : TypeId := 27
def NC (v : Value) : Prop := ∀ c n, v = .slice none n c → c = 0
def BookN (v : Value) : Prop := ∀ p q x y z, v = .agg #[p, q, x, y, z] → NC q
theorem NC.own {w : World} {B : Nat} {v : Value} {xs : List (List UInt8)} (h : OwnT w B v xs) : NC v := own_nil_cap h
theorem NC.pos {w : World} {v : Value} {xs : List (List UInt8)} (h : TxtS w v xs) (hp : 0 < xs.length) : NC v := by
 obtain ⟨b, off, cap, rfl, _⟩ := txt_pos h hp
 intro c n e
 injection e with e1
 cases e1
set_option maxHeartbeats 16000000 in
theorem clone_any (b : DBook) (hv : bookB b = true) (v : Value) (w : World) (h : BookR w v b) (hz : BookN v) : Calls Tryz.prog 37 #[v] w (CopyPost b w) := by
 obtain ⟨pv, qv, rfl, hp, hq⟩ := h
 obtain ⟨va, vc, rfl, hl, hidx⟩ := ss_idx hp
 have hok := bookB_true hv
 have NQ : NC qv := hz _ _ _ _ _ rfl
 have hs1 := hok.six
 have hs3 := (pats_all hok.pats).2
 have PLN := Lib.hid (fun k (hk : k < b.pars.length) => (show 0 < (b.pars.getD k []).length ∧ (b.pars.getD k []).length ≤ 12 by
  have h := parB_words (hok.pars _ (List.getElem_mem hk))
  rw [getD_eq b.pars [] k hk]
  exact ⟨h.2.2, h.2.1⟩))
 have TK := Lib.hid (fun k (hk : k < b.pars.length) => take_snoc b.pars [] k hk)
 have TA := Lib.hid (show b.pars.take b.pars.length = b.pars from List.take_length)
 obtain ⟨n, hn⟩ : ∃ n, n = b.pars.length := ⟨_, rfl⟩
 have HN := Lib.hid hn
 rw [← hn] at hidx hl PLN TK TA hs1 ⊢
 obtain ⟨bw, hbw⟩ : ∃ x, x = b.w := ⟨_, rfl⟩
 obtain ⟨bm, hbm⟩ : ∃ x, x = b.most := ⟨_, rfl⟩
 obtain ⟨bl, hbl⟩ : ∃ x, x = b.lines := ⟨_, rfl⟩
 have VB : Hid (∀ x y, bookV x y b = .agg #[x, y, .int .i64 bw, .int .i64 bm, .int .i64 bl]) := fun x y => by rw [hbw, hbm, hbl]; rfl
 rw [← hbw, ← hbm, ← hbl]
 obtain ⟨W2, hW2⟩ : ∃ W2, W2 = (w.alloc (.cells #[.slice va n vc, qv, .int .i64 bw, .int .i64 bm, .int .i64 bl] BoxT)).alloc (.cells #[.slice none 0 0, .slice none 0 0, .int .i64 0, .int .i64 0, .int .i64 0] BoxT) := ⟨_, rfl⟩
 have A1 : Below w.heap.size w W2 := by rw [hW2]; exact ((Below.refl _ _).alloc (Nat.le_refl _) _).alloc (by simp) _
 have S2 : W2.heap.size = w.heap.size + 2 := by rw [hW2]; simp
 have R1 : W2.ownsRow w.heap.size BoxT 5 (.slice (some ⟨w.heap.size, 0, none⟩) 1 1) 1 [.slice va n vc, qv, .int .i64 bw, .int .i64 bm, .int .i64 bl] := by rw [hW2]; exact (own5_made w (Nat.le_refl _) _ _ _ _ _ _).alloc _
 have R2 : W2.ownsRow w.heap.size BoxT 5 (.slice (some ⟨w.heap.size + 1, 0, none⟩) 1 1) 1 [.slice none 0 0, .slice none 0 0, .int .i64 0, .int .i64 0, .int .i64 0] := by
  have := own5_made (w.alloc (.cells #[.slice va n vc, qv, .int .i64 bw, .int .i64 bm, .int .i64 bl] BoxT)) (B := w.heap.size) (by simp) BoxT (.slice none 0 0) (.slice none 0 0) (.int .i64 0) (.int .i64 0) (.int .i64 0)
  rw [show (w.alloc (.cells #[.slice va n vc, qv, .int .i64 bw, .int .i64 bm, .int .i64 bl] BoxT)).heap.size = w.heap.size + 1 by simp] at this
  rw [hW2]
  exact this
 have HA1 := Lib.hid A1
 have HS2 := Lib.hid S2
 have HR1 := Lib.hid R1
 have HR2 := Lib.hid R2
 have HI := Lib.hid hidx
 have HQ := Lib.hid hq
 have HW2 := Lib.hid hW2
 have U0 := Lib.hid (OwnSU.nil W2 W2.heap.size W2.heap.size)
 have hs3' := Lib.hid hs3
 clear hp hq hidx hn hbw hbm hbl A1 S2 R1 R2 hs3 hok hv hz
 unfold BoxT at hW2
 go_enter Tryz.func37, Tryz.ntmps37
 go_wp2
 rw [← hW2]
 clear hW2
 go_loopw [3, 9] (fun v i wr => ∃ (k : Nat) (us : List Value), k ≤ n ∧ i = .int .i64 k ∧ Hid (OwnSU wr W2.heap.size wr.heap.size v (b.pars.take k) us) ∧ Hid (Below W2.heap.size W2 wr)) (fun _ i _ => n - (intOf i).toNat)
 case atStart => exact ⟨0, [], Nat.zero_le _, rfl, U0.out, Below.refl _ _⟩
 case round =>
  obtain ⟨k, us, hk, rfl, h1, h2⟩ := hrel
  clear U0
  by_cases hkn : k < n
  ·have hkn' : (k : Int) < (n : Int) := by omega
   obtain ⟨b1, o1, u, rfl, b2, c1, hu⟩ := HI.out k hkn
   have c2 := ((HA1.out.trans (h2.out.mono (by have := HS2.out; omega))).cell (p := ⟨b1, o1 + k, none⟩) b2).trans c1
   have HU := Lib.hid (hu.below (HA1.out.trans (h2.out.mono (by have := HS2.out; omega))))
   have pl := PLN.out k hkn
   have TKk := Lib.hid (TK.out k hkn)
   obtain ⟨p, hp⟩ : ∃ p, p = b.pars.getD k [] := ⟨_, rfl⟩
   rw [← hp] at HU pl TKk
   have XN : (b.pars.take k).length ≤ 4000000 := by rw [List.length_take]; omega
   have NU := Lib.hid (NC.pos HU.out pl.1)
   have YL : p.length ≤ 4000000 := by omega
   have N0 := OwnT.nil wr wr.heap.size
   obtain ⟨X, hX⟩ : ∃ X, X = b.pars.take k := ⟨_, rfl⟩
   rw [← hX] at XN h1 TKk
   clear hp c1 hu hX pl
   go_wp2_with (first | (at_builtin; refine append_strs wr wr rfl _ _ rfl wr.heap.size (.slice none 0 0) [] p u rfl rfl N0 HU.out NU.out (by decide) YL (Nat.le_refl _) (Below.refl _ _) ?_; intro v1 w5 ho1 hb5 hm1 hg1; obtain ⟨z, zc, rfl⟩ := own_form ho1; have D1 := Lib.hid (moved_nil hm1); have U5 := Lib.hid (h1.out.below hb5); have B5 := Lib.hid (below_next h2.out hb5 (Nat.le_refl _)); have P5 := Lib.hid (ho1.mono (show W2.heap.size ≤ wr.heap.size from h2.out.size)); have S5 := Lib.hid hb5.size) | (at_builtin; refine append_ss W2 w5 rfl _ _ rfl W2.heap.size wr.heap.size u3 X us z p.length zc p rfl rfl U5.out S5.out P5.out D1.out XN (Nat.le_refl _) B5.out ?_; intro v' w7 hown2 hbel2 hmv2 hgr2))
   first
    | exact ⟨⟨k + 1, us ++ [.slice z p.length zc], by omega, by go_num, by rw [TKk.out]; exact hown2, hbel2⟩, by (simp [intOf]) <;> omega⟩
    | (go_roundw
       case rel => exact ⟨k + 1, us ++ [.slice z p.length zc], by omega, by go_num, by rw [TKk.out]; exact hown2, hbel2⟩
       case measure => (simp [intOf]) <;> omega)
  ·obtain rfl : k = n := by omega
   have s2 := HS2.out
   have s3 := h2.out.size
   obtain ⟨zP, cP, lP, rfl⟩ : ∃ z c l, u3 = .slice z l c := by obtain ⟨z, c, e⟩ := h1.out.form; exact ⟨z, c, _, e⟩
   have R0 := owns_below HR1.out h2.out
   have RR2 := owns_below HR2.out h2.out
   obtain ⟨x0, x1, x2, x3, x4⟩ := own5 R0
   have y0 := World.ownsRow.frozenAt R0 0
   have T1 := R0.stored 0 (.slice zP lP cP)
   have Q1 : (wr.setCell ⟨w.heap.size, 0, none⟩ (.slice zP lP cP)).ownsRow w.heap.size BoxT 5 (.slice (some ⟨w.heap.size, 0, none⟩) 1 1) 1 [(.slice zP lP cP), qv, .int .i64 bw, .int .i64 bm, .int .i64 bl] := T1.1
   obtain ⟨z0, z1, z2, z3, z4⟩ := own5 Q1
   have Q2 := World.ownsRow.kept RR2 T1.2 (.inr (show some (w.heap.size + 1) ≠ some w.heap.size from fun e => by have := Option.some.inj e; omega))
   have U1 := Lib.hid (h1.out.grown T1.2 (fun k hk => by cases hk; left; omega))
   have BB : Below w.heap.size w wr := HA1.out.trans (h2.out.mono (by omega))
   have B1 := Lib.hid (BB.grown T1.2 BB.size (fun k hk => by cases hk; exact Nat.le_refl _))
   have HQ1 := Lib.hid (HQ.out.below B1.out)
   have N0 := OwnT.nil (wr.setCell ⟨w.heap.size, 0, none⟩ (.slice zP lP cP)) (wr.setCell ⟨w.heap.size, 0, none⟩ (.slice zP lP cP)).heap.size
   have SZ1 : Hid ((wr.setCell ⟨w.heap.size, 0, none⟩ (.slice zP lP cP)).heap.size = wr.heap.size) := by show _ = _; simp [World.setCell]
   have HNQ := Lib.hid NQ
   have YL : b.pats.length ≤ 4000000 := by have := hs3'.out; omega
   have PU := Lib.hid (fun k (hk : (Value.slice zP lP cP).ownBlock = some k) => (show k < wr.heap.size from h1.out.2.2.1 k hk))
   have PUS := Lib.hid (fun u hu k hk => (h1.out.us_lt u hu k hk).2)
   have TKA := TA.out
   have U1T : Hid (OwnSU (wr.setCell ⟨w.heap.size, 0, none⟩ (.slice zP lP cP)) W2.heap.size wr.heap.size (.slice zP lP cP) b.pars us) := by
    have := U1.out
    rw [TKA] at this
    exact this
   have HQ1R := Lib.hid Q1
   have HQ2 := Lib.hid Q2
   clear h1 U1 R0 RR2 T1 Q1 Q2 BB NQ TKA hkn hk
   go_wp2_with (first | (at_builtin; refine append_strs (wr.setCell ⟨w.heap.size, 0, none⟩ (.slice zP lP cP)) (wr.setCell ⟨w.heap.size, 0, none⟩ (.slice zP lP cP)) rfl _ _ rfl (wr.setCell ⟨w.heap.size, 0, none⟩ (.slice zP lP cP)).heap.size (.slice none 0 0) [] b.pats qv rfl rfl N0 HQ1.out HNQ.out (by decide) YL (Nat.le_refl _) (Below.refl _ _) ?_; intro v8 w8 ho8 hb8 hm8 hg8; obtain ⟨zQ, cQ, lQ, rfl⟩ : ∃ z c l, v8 = .slice z l c := (by obtain ⟨z, c, e⟩ := own_form ho8; exact ⟨z, c, _, e⟩); have D8 := Lib.hid (moved_nil hm8); have U8 := Lib.hid (U1T.out.below hb8); have B8 := Lib.hid (below_next B1.out hb8 (Nat.le_refl _)); have R8 := Lib.hid (owns_below HQ1R.out hb8); have RR8 := Lib.hid (owns_below HQ2.out hb8); have T8 := Lib.hid (R8.out.stored 1 (.slice zQ lQ cQ)); have q1 := (own5 R8.out).2.1; have y1 := World.ownsRow.frozenAt R8.out 1; have Q8 := Lib.hid (show (w8.setCell ⟨w.heap.size, 1, none⟩ (.slice zQ lQ cQ)).ownsRow w.heap.size BoxT 5 (.slice (some ⟨w.heap.size, 0, none⟩) 1 1) 1 [(.slice zP lP cP), (.slice zQ lQ cQ), .int .i64 bw, .int .i64 bm, .int .i64 bl] from T8.out.1); obtain ⟨f0, f1, f2, f3, f4⟩ := own5 Q8.out; have QQ8 := Lib.hid (World.ownsRow.kept RR8.out T8.out.2 (.inr (show some (w.heap.size + 1) ≠ some w.heap.size from fun e => by have := Option.some.inj e; omega))); obtain ⟨e0, e1, e2, e3, e4⟩ := own5 QQ8.out; have m0 := World.ownsRow.frozenAt QQ8.out 0; have m1 := World.ownsRow.frozenAt QQ8.out 1; have m2 := World.ownsRow.frozenAt QQ8.out 2; have m3 := World.ownsRow.frozenAt QQ8.out 3; have m4 := World.ownsRow.frozenAt QQ8.out 4; have FF := Lib.hid (own5_set QQ8.out (.slice zP lP cP) (.slice zQ lQ cQ) (.int .i64 bw) (.int .i64 bm) (.int .i64 bl))))
   obtain ⟨g0, g1, g2, g3, g4⟩ := own5 FF.out.1
   have s8 := hb8.size
   have sz1 := SZ1.out
   have FU := ((U8.out.grown T8.out.2 (fun k hk => by cases hk; left; omega)).grown FF.out.2 (fun k hk => by cases hk; left; omega))
   have FQ := World.ownsRow.kept (World.ownsRow.kept ho8 T8.out.2 (by
    cases hh : (Value.slice zQ lQ cQ).ownBlock with
    | none => exact .inl rfl
    | some k => exact .inr fun e => by have := D8.out k hh; have := Option.some.inj e; omega)) FF.out.2 (by
    cases hh : (Value.slice zQ lQ cQ).ownBlock with
    | none => exact .inl rfl
    | some k => exact .inr fun e => by have := D8.out k hh; have := Option.some.inj e; omega)
   have fs1 := T8.out.2.size
   have fs2 := FF.out.2.size
   have FB := (B8.out.grown T8.out.2 B8.out.size (fun k hk => by cases hk; exact Nat.le_refl _)).grown FF.out.2 (Nat.le_trans B8.out.size fs1) (fun k hk => by cases hk; omega)
   refine bodyPost_ret (v := .agg #[(.slice zP lP cP), (.slice zQ lQ cQ), .int .i64 bw, .int .i64 bm, .int .i64 bl]) (by simp [results, Tryz.results37, go_sem, g0, g1, g2, g3, g4]) rfl ⟨(.slice zP lP cP), (.slice zQ lQ cQ), us, by rw [VB.out], ⟨(FU.mono (by omega)).wider (by omega), World.ownsRow.mono FQ (by omega), fun k hk => ⟨by have := (World.ownsRow.lt FQ k hk).2; exact this, fun e => by have := PU.out k e; have := D8.out k hk; omega, fun u hu e => by have := PUS.out u hu k e; have := D8.out k hk; omega⟩⟩, FB⟩
end Go.Proofs.YtofnchdijanikaaGreatDoor
namespace Go.Proofs.YtofnchdijanikaaGreatDoor
open Go.RowKit
def SSPost (xss : List (List (List UInt8))) (w : World) (e : Ending) (w' : World) : Prop := ∃ v us, e = .returned v ∧ OwnSU w' w.heap.size w'.heap.size v xss us ∧ Below w.heap.size w w'
set_option maxHeartbeats 16000000 in
theorem ownRows_any (xss : List (List (List UInt8))) (hx : xss.length ≤ 6) (hp : ∀ p ∈ xss, 0 < p.length ∧ p.length ≤ 12) (v : Value) (w : World) (h : TxtSS w v xss) : Calls Tryz.prog 79 #[v] w (SSPost xss w) := by
 obtain ⟨va, vc, rfl, hl, hidx⟩ := ss_idx h
 have PLN := hQ (fun k (hk : k < xss.length) => (show 0 < (xss.getD k []).length ∧ (xss.getD k []).length ≤ 12 by rw [getD_eq xss [] k hk]; exact hp _ (List.getElem_mem hk)))
 have TK := hQ (fun k (hk : k < xss.length) => take_snoc xss [] k hk)
 have TA := hQ (show xss.take xss.length = xss from List.take_length)
 obtain ⟨n, hn⟩ : ∃ n, n = xss.length := ⟨_, rfl⟩
 rw [← hn] at hidx hl PLN TK TA hx ⊢
 have HI := hQ hidx
 have U0 : Hid (OwnSU (w.alloc (.cells #[] 23)) w.heap.size (w.alloc (.cells #[] 23)).heap.size (.slice (some ⟨w.heap.size, 0, none⟩) 0 0) [] []) := by
  have := OwnSU.made w (Nat.le_refl w.heap.size)
  rw [show (w.alloc (.cells #[] 23)).heap.size = w.heap.size + 1 by simp]
  exact this
 have B0 := hQ ((Below.refl w.heap.size w).alloc nR (.cells #[] 23))
 clear hp hidx hn h
 go_enter Tryz.func79, Tryz.ntmps79
 go_wp2
 go_loopw [3, 4] (fun v i wr => ∃ (k : Nat) (us : List Value), k ≤ n ∧ i = .int .i64 k ∧ Hid (OwnSU wr w.heap.size wr.heap.size v (xss.take k) us) ∧ Hid (Below w.heap.size w wr)) (fun _ i _ => n - (intOf i).toNat)
 case atStart => exact ⟨0, [], Nat.zero_le _, rfl, U0.out, B0.out⟩
 case round =>
  obtain ⟨k, us, hk, rfl, h1, h2⟩ := hrel
  clear U0 B0
  by_cases hkn : k < n
  ·have hkn' : (k : Int) < (n : Int) := by omega
   obtain ⟨b1, o1, u, rfl, b2, c1, hu⟩ := HI.out k hkn
   have AZ : Below wr.heap.size wr (wr.alloc (.cells #[] 9)) := (Below.refl _ _).alloc nR _
   have c2 := ((below_next h2.out AZ nR).cell (p := ⟨b1, o1 + k, none⟩) b2).trans c1
   have HU := hQ (hu.below (below_next h2.out AZ nR))
   have pl := PLN.out k hkn
   have TKk := hQ (TK.out k hkn)
   obtain ⟨p, hp⟩ : ∃ p, p = xss.getD k [] := ⟨_, rfl⟩
   rw [← hp] at HU pl TKk
   have XN : (xss.take k).length ≤ 4000000 := by rw [List.length_take]; omega
   have NU := hQ (NC.pos HU.out pl.1)
   have YL : p.length ≤ 4000000 := by omega
   have N0 := OwnT.made wr (B := wr.heap.size) nR
   have HAZ := hQ AZ
   obtain ⟨X, hX⟩ : ∃ X, X = xss.take k := ⟨_, rfl⟩
   rw [← hX] at XN h1 TKk
   clear hp c1 hu hX pl AZ
   go_wp2_with (first | (at_builtin; refine append_strs wr (wr.alloc (.cells #[] 9)) rfl _ _ rfl wr.heap.size (.slice (some ⟨wr.heap.size, 0, none⟩) 0 0) [] p u rfl rfl N0 HU.out NU.out (by decide) YL nR HAZ.out ?_; intro v1 w5 ho1 hb5 hm1 hg1; have D1 := hQ (fun k hk => (World.ownsRow.lt ho1 k hk).1); obtain ⟨z, zc, rfl⟩ := own_form ho1; have U5 := hQ (h1.out.below hb5); have B5 := hQ (below_next h2.out hb5 nR); have P5 := hQ (ho1.mono (show w.heap.size ≤ wr.heap.size from h2.out.size)); have S5 := hQ hb5.size) | (at_builtin; refine append_ss w w5 rfl _ _ rfl w.heap.size wr.heap.size u3 X us z p.length zc p rfl rfl U5.out S5.out P5.out D1.out XN nR B5.out ?_; intro v' w7 hown2 hbel2 hmv2 hgr2))
   first
    | exact ⟨⟨k + 1, us ++ [.slice z p.length zc], by omega, by go_num, by rw [TKk.out]; exact hown2, hbel2⟩, by (simp [intOf]) <;> omega⟩
    | (go_roundw
       case rel => exact ⟨k + 1, us ++ [.slice z p.length zc], by omega, by go_num, by rw [TKk.out]; exact hown2, hbel2⟩
       case measure => (simp [intOf]) <;> omega)
  ·obtain rfl : k = n := by omega
   have h11 := h1.out
   rw [TA.out] at h11
   have H11 := hQ h11
   clear h11
   go_wp2
   go_ret
   exact ⟨_, us, rfl, H11.out, h2.out⟩
end Go.Proofs.YtofnchdijanikaaGreatDoor

/-
  PROVED HERE: what the program's PlaceInsets does. Conditions: each theorem's own.
-/
import Derived.Test.YtoeaaoceicjmdaaPlaceFn
import Derived.Test.YtoeaaoceicjmdaaPlaceL
import Derived.Deep.Onto
namespace Go.Proofs.Ytoeaaoceicjmdaa
open Go.RowKit

/-- It returns a row of its own with these numbers, and a bool. -/
def PlacePost (xs : List Int) (b : Bool) (w : World) (e : Ending) (w' : World) : Prop := ∃ v, e = .returned (.tuple #[v, .bool b]) ∧ w'.ownsRow w.heap.size 3 1 v xs.length (xs.map (Value.int .i64)) ∧ Below w.heap.size w w'

theorem irow_cell {w : World} {base : Nat} {E : TypeId} {g cap m : Nat} {L : List Int} (h : w.ownsRow base E 1 (.slice (some ⟨g, 0, none⟩) m cap) m (L.map (Value.int .i64))) (j : Nat) (hj : j < m) : w.cell? ⟨g, j, none⟩ = some (.int .i64 (L.getD j 0)) := by
  have hl : L.length = m := by have := h.1; simpa using this
  have e := h.cellAt j (by omega)
  rw [e]
  simp [List.getD, hl, hj]

theorem alloc_named {w : World} {a : Addr} {y : Int} (_ : w.cell? a = some (.int .i64 y)) (h : Int) : ∃ W, W = w.alloc (.cells #[.int .i64 h, .int .i64 y] 32) := ⟨_, rfl⟩

set_option maxHeartbeats 4000000 in
theorem implPlace_yes (v u : Value) (xs : List DInset) (rs : List Int) (w : World) (h : SRow 2 encInset w v xs) (hr : IRow w u rs) (hv : insB xs = true) (hq : roomsB rs = true) :
    Calls Try.prog 19 #[v, u] w (PlacePost (placeXs xs rs) (placeB xs rs) w) := by
  have H := Lib.hid h
  have HR := Lib.hid hr
  obtain ⟨hxl, hxb⟩ := insB_true hv
  obtain ⟨hrl, hrb⟩ := roomsB_true hq
  have hra : (!rs.all fun x => inB x 0 1000) = false := by
    unfold roomsB at hq
    rw [Bool.and_eq_true] at hq
    rw [hq.2]
    rfl
  obtain ⟨m, hm⟩ : ∃ m, m = rs.length := ⟨_, rfl⟩
  obtain ⟨ca, cc, hul⟩ : ∃ ca cc, u = .slice ca m cc := by obtain ⟨a, cap, e, _⟩ := hr; exact ⟨a, cap, by rw [hm]; exact e⟩
  have hm20 : m ≤ 20 := by omega
  have HM := Lib.hid hm
  have HP := Lib.hid (show placeO xs rs = insGo xs 0 rs [] by unfold placeO; rw [if_pos ⟨hv, hq⟩])
  obtain ⟨i0, hi, hz0, hz1, hz2⟩ := info_parts info_int
  have HXB := Lib.hid hxb
  have HRB := Lib.hid hrb
  have HV := Lib.hid hv
  have HRA := Lib.hid hra
  subst hul
  clear hm hxb hrb hrl hv hq hra h hr
  go_enter Try.func19, Try.ntmps19
  go_wp2_with fail
  refine (implInsetsValid_any v xs w H.out).mono ?_
  rintro e w1 ⟨rfl, b1⟩
  rw [HV.out]
  have r1 := HR.out.below b1
  go_wp2_with fail
  refine (containsRoom_any _ rs w1 r1).mono ?_
  rintro e w2 ⟨rfl, b2⟩
  rw [HRA.out]
  have r2 := r1.below b2
  have B2 : Below w.heap.size w w2 := below_next b1 b2 (Nat.le_refl _)
  clear r1 b1 b2
  go_wp2_with fail
  refine (clone_any _ rs w2 r2 (by have := HM.out; omega)).mono ?_
  rintro e w3 ⟨VL, rfl, o3, b3⟩
  have B3 : Below w.heap.size w w3 := below_next B2 b3 (Nat.le_refl _)
  have KL := o3.lt
  have s23 : w2.heap.size ≤ w3.heap.size := b3.size
  have s02 : w.heap.size ≤ w2.heap.size := B2.size
  have hs3 : SRow 2 encInset w3 v xs := H.out.below B3
  have o3' : w3.ownsRow w.heap.size 3 1 VL m (rs.map (Value.int .i64)) := by have e := o3; rw [← HM.out] at e; exact World.ownsRow.mono e s02
  have BB := Lib.hid B3
  have OL := Lib.hid o3'
  have KLH := Lib.hid KL
  clear r2 B2 b3 o3 B3 KL o3' 
  by_cases h0 : xs.length = 0
  · obtain rfl : xs = [] := List.eq_nil_of_length_eq_zero h0
    obtain ⟨a, cap, rfl⟩ := hs3.empty
    clear H h0 hs3 hxl
    go_wp2
    refine wp_loop_rounds 1 ?_
    rw [rounds_succ]
    go_wp2
    go_ret2
    have e : placeO [] rs = some [] := HP.out
    unfold placeXs placeB
    rw [e]
    exact ⟨_, rfl, World.ownsRow_nil _ _ _ _, BB.out⟩
  · obtain ⟨b, off, cap, rfl, hbl3, hc3⟩ := hs3.pos encInset_pos (by omega)
    have hbl : b < w.heap.size := by
      obtain ⟨b', off', cap', e, hb', _⟩ := H.out.pos encInset_pos (by omega)
      have e1 : b = b' := by injection e with e1 _ _; injection e1 with e1; injection e1
      rw [e1]; exact hb'
    have HC := Lib.hid hc3
    obtain ⟨n, hn⟩ : ∃ n, n = xs.length := ⟨_, rfl⟩
    rw [← hn] at h0 hxl ⊢
    have HN := Lib.hid hn
    clear hn hc3 hs3 H HV HRA HR
    rcases OL.out.2 with ⟨rfl, hm0⟩ | ⟨g, cl, _, rfl, hgb, _⟩
    · obtain rfl : m = 0 := hm0
      have hk' : 0 < xs.length := by have := HN.out; omega
      have q := HC.out 0 hk'
      obtain ⟨z, hx⟩ : ∃ x, x = xs[0] := ⟨_, rfl⟩
      have hzb := HXB.out xs[0] (List.getElem_mem hk')
      rw [← hx] at q hzb
      obtain ⟨z1, z2, z3, z4⟩ := hzb
      have c0 : w3.cell? ⟨b, off, none⟩ = some (.int .i64 z.f0) := by simpa using q 0 _ rfl
      have c1 : w3.cell? ⟨b, off + 1, none⟩ = some (.int .i64 z.f1) := by simpa using q 1 _ rfl
      have hbr : b < w3.heap.size := by omega
      have e : placeO xs rs = none := by
        obtain rfl : rs = [] := List.eq_nil_of_length_eq_zero HM.out.symm
        rw [HP.out, ← List.drop_zero (l := xs), List.drop_eq_getElem_cons hk', insGo]
        simp
      have E := Lib.hid e
      clear q hx HC HXB e
      go_wp2
      refine wp_loop_rounds 1 ?_
      rw [rounds_succ]
      have hlt0 : decide (z.f1 < 0) = false := decide_eq_false (by omega)
      go_wp2
      all_goals
        refine wp_loop_rounds 1 ?_
        rw [rounds_succ]
        go_wp2_with fail
        go_quiet (fail)
        go_wp2
        go_ret2
        unfold placeXs placeB
        rw [E.out]
        exact ⟨_, rfl, World.ownsRow_nil _ _ _ _, below_drewN (BB.out.alloc (by omega) _) _⟩
    · have hg : g < w3.heap.size := (KLH.out g rfl).2
      have hgw : w.heap.size ≤ g := hgb
      have HG := Lib.hid hgb
      go_wp2
      go_loopw [7, 8, 27] (fun vo pg i wr => ∃ (k p : Nat) (L O : List Int), k ≤ n ∧ i = .int .i64 k ∧ p ≤ 20 ∧ pg = .int .i64 p ∧ Hid (insGo xs 0 rs [] = insGo (xs.drop k) p L O) ∧ Hid (∀ j, 0 ≤ L.getD j 0 ∧ L.getD j 0 ≤ 1000) ∧ Hid (wr.ownsRow w.heap.size 3 1 (.slice (some ⟨g, 0, none⟩) m cl) m (L.map (Value.int .i64))) ∧ Hid (wr.ownsRow w3.heap.size 3 1 vo k (O.map (Value.int .i64))) ∧ Hid (Below w.heap.size w wr) ∧ w3.heap.size ≤ wr.heap.size) (fun _ _ i _ => n - (intOf i).toNat)
      case atStart => exact ⟨0, 0, rs, [], Nat.zero_le _, rfl, by omega, rfl, rfl, HRB.out, OL.out, World.ownsRow_nil _ _ _ _, BB.out, Nat.le_refl _⟩
      case round =>
        obtain ⟨k, p, L, O, hk, rfl, hp, rfl, hgo, hL, ho1, ho2, hb, hw3⟩ := hrel
        by_cases hlt : k < n
        · have hk' : k < xs.length := by rw [← HN.out]; exact hlt
          have q := HC.out k hk'
          have hzb := HXB.out xs[k] (List.getElem_mem hk')
          have hd : xs.drop k = xs[k] :: xs.drop (k + 1) := List.drop_eq_getElem_cons hk'
          obtain ⟨z, hx⟩ : ∃ x, x = xs[k] := ⟨_, rfl⟩
          rw [← hx] at q hzb hd
          obtain ⟨z1, z2, z3, z4⟩ := hzb
          have hLl : L.length = m := by have := ho1.out.1; simpa using this
          have hbr : b < wr.heap.size := by have := hb.out.size; omega
          have r : ∀ i u, (encInset z)[i]? = some u → wr.cell? ⟨b, off + k * 2 + i, none⟩ = some u := fun i u hu => by
            have e := q i u hu
            have h3 : w.cell? ⟨b, off + k * 2 + i, none⟩ = some u := (BB.out.cell (p := ⟨b, off + k * 2 + i, none⟩) hbl).symm.trans e
            exact (hb.out.cell (p := ⟨b, off + k * 2 + i, none⟩) hbl).trans h3
          obtain ⟨hh, f1⟩ := z
          simp only at z1 z2 z3 z4
          obtain ⟨f, rfl⟩ := Int.eq_ofNat_of_zero_le z3
          have c0 : wr.cell? ⟨b, off + k * 2, none⟩ = some (.int .i64 hh) := by simpa using r 0 _ rfl
          have c1 : wr.cell? ⟨b, off + k * 2 + 1, none⟩ = some (.int .i64 (f : Int)) := by simpa using r 1 _ rfl
          obtain ⟨p1, hp1⟩ : ∃ p1 : Nat, p1 = max p f := ⟨_, rfl⟩
          have hp1b : p1 ≤ 20 := by omega
          have FE : Hid (insGo xs 0 rs [] = if insSkip hh L p1 < m then insGo (xs.drop (k + 1)) (insSkip hh L p1) (L.set (insSkip hh L p1) (L.getD (insSkip hh L p1) 0 - hh)) (O ++ [((insSkip hh L p1 : Nat) : Int)]) else none) := by
            show _ = _
            rw [hgo.out, hd, insGo]
            simp only [Int.toNat_natCast]
            rw [← hp1, hLl]
          have HLL := Lib.hid hLl
          have hcase : p < f ∧ p1 = f ∨ f ≤ p ∧ p1 = p := by omega
          clear q r hx hd hgo hLl hp1 z3
          rcases hcase with ⟨hpf, hp1⟩ | ⟨hpf, hp1⟩
          all_goals
            first | (obtain rfl : p1 = f := hp1) | (obtain rfl : p1 = p := hp1)
            go_wp2
            obtain ⟨wo, rfl⟩ : ∃ wo : World, wo = wr := ⟨_, rfl⟩
            obtain ⟨W, hW⟩ := alloc_named c1 hh
            rw [← hW]
            have cD : W.cell? ⟨wo.heap.size, 0, none⟩ = some (.int .i64 hh) := by rw [hW, World.cell?_alloc_at _ _ _ _ rfl]; rfl
            have hWs : W.heap.size = wo.heap.size + 1 := by rw [hW]; simp
            have hbW : Below w.heap.size w W := by rw [hW]; exact hb.out.alloc (by have := hb.out.size; omega) _
            have oW1 : W.ownsRow w.heap.size 3 1 (.slice (some ⟨g, 0, none⟩) m cl) m (L.map (Value.int .i64)) := by rw [hW]; exact ho1.out.alloc _
            have oW2 : W.ownsRow w3.heap.size 3 1 u7 k (O.map (Value.int .i64)) := by rw [hW]; exact ho2.out.alloc _
            have HW := Lib.hid hW
            have HBW := Lib.hid hbW
            have OW1 := Lib.hid oW1
            have OW2 := Lib.hid oW2
            have HCD := Lib.hid cD
            clear hW hbW oW1 oW2 ho1 ho2 hb c0 c1 cD
            go_loopw [8] (fun pg wi => ∃ q : Nat, q ≤ 20 ∧ pg = .int .i64 q ∧ Hid (insSkip hh L p1 = insSkip hh L q) ∧ Hid (Below W.heap.size W wi)) (fun pg _ => 20 - (intOf pg).toNat)
            case atStart => exact ⟨p1, hp1b, rfl, rfl, Below.refl _ _⟩
            case round =>
              obtain ⟨q, hq, rfl, hsk, hbi⟩ := hrel
              have hi1 := owns_below OW1.out hbi.out
              have hi2 := owns_below OW2.out hbi.out
              have cD2 : wr.cell? ⟨wo.heap.size, 0, none⟩ = some (.int .i64 hh) := (hbi.out.cell (p := ⟨wo.heap.size, 0, none⟩) (by rw [hWs]; exact Nat.lt_succ_self _)).trans HCD.out
              have hwis : W.heap.size ≤ wr.heap.size := hbi.out.size
              have bW := HBW.out.trans (hbi.out.mono HBW.out.size)
              have BW := Lib.hid bW
              have HI1 := Lib.hid hi1
              have HI2 := Lib.hid hi2
              by_cases hqm : q < m
              · have cL := irow_cell hi1 q hqm
                have cF := hi1.frozenAt q
                obtain ⟨t1, t2⟩ := hL.out q
                obtain ⟨u, hu⟩ : ∃ u, u = L.getD q 0 := ⟨_, rfl⟩
                rw [← hu] at cL t1 t2
                have HU := Lib.hid hu
                by_cases hlu : u < hh
                · have nx : Hid (insSkip hh L p1 = insSkip hh L (q + 1)) := hsk.out.trans (insSkip_next (by rw [HLL.out]; exact hqm) (by rw [← hu]; exact hlu))
                  have B2 := Lib.hid hbi.out
                  clear hi1 hi2 bW hsk hbi cF hu
                  go_wp2_with fail
                  go_quiet (fail)
                  go_wp2
                  go_roundw
                  case rel => exact ⟨q + 1, by omega, by go_num, nx.out, below_drewN B2.out _⟩
                  case measure => simp [intOf]; omega
                · have hst : insSkip hh L p1 = q := hsk.out.trans (insSkip_stop (fun h => hlu (by rw [hu]; exact h.2)))
                  have fe2 : insGo xs 0 rs [] = insGo (xs.drop (k + 1)) q (L.set q (u - hh)) (O ++ [(q : Int)]) := by rw [FE.out, hst, if_pos hqm, ← hu]
                  have FE2 := Lib.hid fe2
                  clear hi1 hi2 bW hsk hbi hu hst fe2 FE
                  go_wp2_with fail
                  go_quiet (fail)
                  go_wp2_with fail
                  obtain ⟨wd, hwd⟩ : ∃ wd, wd = wr.drewN nq := ⟨_, rfl⟩
                  have d1 : wd.ownsRow w.heap.size 3 1 (.slice (some ⟨g, 0, none⟩) m cl) m (L.map (Value.int .i64)) := by rw [hwd]; exact HI1.out
                  have d2 : wd.ownsRow w3.heap.size 3 1 u7 k (O.map (Value.int .i64)) := by rw [hwd]; exact HI2.out
                  have d3 : wd.cell? ⟨g, q, none⟩ = some (.int .i64 u) := by rw [hwd]; exact cL
                  have d4 : wd.cell? ⟨wo.heap.size, 0, none⟩ = some (.int .i64 hh) := by rw [hwd]; exact cD2
                  have D2 := Lib.hid d2
                  have d5 : Below w.heap.size w wd := by rw [hwd]; exact below_drewN BW.out _
                  have d6 := d1.frozenAt q
                  have d7 : W.heap.size ≤ wd.heap.size := by rw [hwd]; exact hwis
                  rw [← hwd]
                  have st := d1.stored q (.int .i64 (u - hh))
                  rw [← List.map_set] at st
                  obtain ⟨st1, st2⟩ := st
                  have st3 := d2.kept st2 (.inr (owns_ne d2 (.inl hg)).symm)
                  have ST1 := Lib.hid st1
                  have ST2 := Lib.hid st2
                  have ST3 := Lib.hid st3
                  have D5 := Lib.hid d5
                  clear hwd cL cD2 cF HI1 HI2 BW d1 d2 d5 st1 st2 st3
                  go_still_tail 8, (by kernel_rfl)
                  go_wp2_with (at_builtin; refine wpList_append_own _ rfl _ _ 35 rfl w3.heap.size 3 i0 (.int .i64 0) 1 8 Try.underlying35 hi hz0 hz1 hz2 rfl (by decide) _ _ _ rfl (ST3.out.alloc _).drew ⟨wd.heap.size, 0, none⟩ 1 1 [.int .i64 (q : Int)] rfl rfl (by simpa using cells_new (wd.setCell ⟨g, q, none⟩ (.int .i64 (u - hh))) [_] _) (by intro u hu; simp at hu; subst hu; rfl) (by unfold maxLen; omega) (by omega) (by simp; omega) ?_; intro v' w1 hown' hgrow _)
                  have g1 := World.grownBy_alloc (wd.setCell ⟨g, q, none⟩ (.int .i64 (u - hh))) (.cells #[.int .i64 (q : Int)] 3) none
                  have k1 := ((ST1.out.alloc _).drew).kept hgrow (.inr (fun e => owns_ne D2.out (.inl hg) e))
                  have bs : Below w.heap.size w (wd.setCell ⟨g, q, none⟩ (.int .i64 (u - hh))) := D5.out.grown ST2.out (by have := D5.out.size; omega) (fun j hj => by cases hj; exact hgw)
                  have bf := ((bs.alloc (by have := bs.size; omega) _).drew).grown hgrow (by have := bs.size; simp at this ⊢; omega) (fun j hj => by have := (ST3.out.lt j hj).1; omega)
                  have gs := hgrow.size
                  have e0 := FE2.out
                  have e1 := set_bd (L := L) (q := q) (z := u - hh) hL.out (by omega) (by omega)
                  have hq20 : q ≤ 20 := hq
                  go_roundw
                  case rel => exact ⟨k + 1, q, _, _, by omega, by go_num, hq20, rfl, e0, e1, k1, by show World.ownsRow _ _ _ _ _ _ _; rw [List.map_append]; exact hown', bf, by simp at gs; omega⟩
                  case measure => simp [intOf]; omega
              · have hst : insSkip hh L p1 = q := hsk.out.trans (insSkip_stop (fun h => hqm (by rw [← HLL.out]; exact h.1)))
                have e : placeO xs rs = none := by rw [HP.out, FE.out, hst, if_neg hqm]
                have E := Lib.hid e
                clear hi1 hi2 bW hsk hbi hst e FE
                go_wp2_with fail
                go_quiet (fail)
                go_wp2
                go_ret2
                unfold placeXs placeB
                rw [E.out]
                exact ⟨_, rfl, World.ownsRow_nil _ _ _ _, below_drewN BW.out _⟩
        · have e : placeO xs rs = some O := by
            rw [HP.out, hgo.out, List.drop_of_length_le (by have := HN.out; omega), insGo]
          have hkO : k = n := by omega
          have E := Lib.hid e
          clear e hgo hkO
          go_wp2
          go_ret2
          unfold placeXs placeB
          rw [E.out]
          have hO : O.length = k := by have := ho2.out.1; simpa using this
          exact ⟨_, rfl, by have h := ho2.out; rw [← hO] at h; exact World.ownsRow.mono h (by omega), hb.out⟩

theorem place_none {xs : List DInset} {rs : List Int} (h : ¬ (insB xs = true ∧ roomsB rs = true)) : placeXs xs rs = [] ∧ placeB xs rs = false := by
  unfold placeXs placeB placeO
  rw [if_neg h]
  exact ⟨rfl, rfl⟩

set_option maxHeartbeats 1000000 in
theorem implPlace_no (v u : Value) (xs : List DInset) (rs : List Int) (w : World) (h : SRow 2 encInset w v xs) (hr : IRow w u rs) (hn : ¬ (insB xs = true ∧ roomsB rs = true)) :
    Calls Try.prog 19 #[v, u] w (PlacePost (placeXs xs rs) (placeB xs rs) w) := by
  have H := Lib.hid h
  have HR := Lib.hid hr
  obtain ⟨e1, e2⟩ := place_none hn
  rw [e1, e2]
  obtain ⟨m, hm⟩ : ∃ m, m = rs.length := ⟨_, rfl⟩
  obtain ⟨ca, cc, hul, hml⟩ : ∃ ca cc, u = .slice ca m cc ∧ m ≤ 9223372036854775807 := by obtain ⟨a, cap, e, hl, _⟩ := hr; exact ⟨a, cap, by rw [hm]; exact e, by omega⟩
  have HM := Lib.hid hm
  have HN := Lib.hid hn
  subst hul
  clear hm h hr hn e1 e2
  go_enter Try.func19, Try.ntmps19
  go_wp2_with fail
  refine (implInsetsValid_any v xs w H.out).mono ?_
  rintro e w1 ⟨rfl, b1⟩
  cases hv : insB xs
  · clear hv
    go_wp2
    go_ret2
    exact ⟨_, rfl, World.ownsRow_nil _ _ _ _, b1⟩
  · by_cases hm20 : 20 < m
    · clear hv
      go_wp2
      go_ret2
      exact ⟨_, rfl, World.ownsRow_nil _ _ _ _, b1⟩
    · have hra : (!rs.all fun x => inB x 0 1000) = true := by
        cases h : rs.all fun x => inB x 0 1000
        · rfl
        · exact absurd ⟨hv, by unfold roomsB; rw [h, Bool.and_true]; exact decide_eq_true (by have := HM.out; omega)⟩ HN.out
      have HRA := Lib.hid hra
      have r1 := HR.out.below b1
      clear hv hra
      go_wp2_with fail
      refine (containsRoom_any _ rs w1 r1).mono ?_
      rintro e w2 ⟨rfl, b2⟩
      rw [HRA.out]
      have B2 : Below w.heap.size w w2 := below_next b1 b2 (Nat.le_refl _)
      clear r1 b1 b2
      go_wp2
      go_ret2
      exact ⟨_, rfl, World.ownsRow_nil _ _ _ _, B2⟩

theorem implPlace_any (v u : Value) (xs : List DInset) (rs : List Int) (w : World) (h : SRow 2 encInset w v xs) (hr : IRow w u rs) :
    Calls Try.prog 19 #[v, u] w (PlacePost (placeXs xs rs) (placeB xs rs) w) := by
  by_cases hc : insB xs = true ∧ roomsB rs = true
  · exact implPlace_yes v u xs rs w h hr hc.1 hc.2
  · exact implPlace_no v u xs rs w h hr hc
end Go.Proofs.Ytoeaaoceicjmdaa

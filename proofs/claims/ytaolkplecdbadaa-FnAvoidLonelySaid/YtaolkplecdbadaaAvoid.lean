/-
  PROVED HERE: pages without lonely lines: what the program returns. Conditions: each theorem's own.
-/
import Derived.Test.YtaolkplecdbadaaAvoidL
import Derived.Test.YtaolkplecdbadaaToInt
import Derived.Test.YtaolkplecdbadaaMine
import Derived.Maps.Own
import Derived.Maps.OwnOps
import Derived.Maps.Views
import Derived.Carry
namespace Go.Proofs.Ytaolkplecdbadaa
open Go.RowKit Go.Maps

theorem avE_all (b : Int → Bool) (e x : Int) (h1 : avE b e < x) (h2 : x ≤ e) : b x = true := by
  unfold avE at h1
  split at h1
  · rename_i h
    split at h1
    · rename_i h'
      rcases (by omega : x = e ∨ x = e - 1) with rfl | rfl
      · exact h
      · exact h'
    · obtain rfl : x = e := by omega
      exact h
  · omega

theorem plainElem_bool_inv {H : Type} {P : Program} {e : TypeId} (he : P.underlying e = some .bool) {v : Value} {z : DataW H × List MemPlace} (h : plainElem P e v = some z) : ∃ x, v = .bool x ∧ z = (.lit (.bool x), []) := by
  unfold plainElem at h
  rw [he] at h
  cases v <;> simp at h
  subst h
  exact ⟨_, rfl, rfl⟩

/-- Block B is a map from numbers to bools, of at most k entries, which reads as b. -/
def MapIs (w : World) (B k : Nat) (b : Int → Bool) : Prop :=
  ∃ D : DataW Unit, w.ownsMap Try.prog 3 (plainElem Try.prog 4) B k D ∧ IsMap D ∧ ∀ n, D.atKey (.int .i64 n) (.lit (.bool false)) = .lit (.bool (b n))
theorem MapIs.made (w : World) : MapIs (w.alloc (.map #[] 0)) w.heap.size 0 (fun _ => false) :=
  ⟨.map [], World.ownsMap_made w _ _ _, isMap_empty, fun n => rfl⟩
theorem MapIs.kept {w w' : World} {B k : Nat} {b : Int → Bool} {row : Option Nat} (h : MapIs w B k b) (hg : w.grownBy w' row) (hne : some B ≠ row) : MapIs w' B k b := by
  obtain ⟨D, h1, h2⟩ := h
  exact ⟨D, h1.kept hg hne, h2⟩
theorem MapIs.lt {w : World} {B k : Nat} {b : Int → Bool} (h : MapIs w B k b) : B < w.heap.size := by
  obtain ⟨D, h1, _⟩ := h
  exact h1.lt
theorem wf64 {n : Int} (h1 : -9223372036854775808 ≤ n) (h2 : n ≤ 9223372036854775807) : (Lit.int .i64 n).wf = true := WalkArith.wf_i64 ⟨h1, h2⟩
theorem MapIs.look {w : World} {B k : Nat} {b : Int → Bool} (h : MapIs w B k b) (n : Int) (h1 : -9223372036854775808 ≤ n) (h2 : n ≤ 9223372036854775807) :
    (Instr.lookup 66 (.map (some B)) (.int .i64 n) false).run Try.prog w = .ok (.bool (b n)) w := by
  obtain ⟨D, g1, _, g3⟩ := h
  obtain ⟨v, ps, hrun, hv⟩ := g1.lookup (int_keyed Try.underlying3) Try.underlying66 (z := .bool false) (by kernel_rfl) (plainElem_bool Try.underlying4 false) (keyOf_int_mk Try.underlying3 (wf64 h1 h2))
  obtain ⟨x, rfl, hz⟩ := plainElem_bool_inv Try.underlying4 hv
  rw [hrun]
  have := g3 n
  have e2 : D.atKey (.int .i64 n) (.lit (.bool false)) = .lit (.bool x) := (Prod.mk.inj hz).1
  rw [e2] at this
  injection this with this
  injection this with this
  rw [this]
theorem MapIs.put {w' : World} {B k : Nat} {b : Int → Bool} {D : DataW Unit} (n : Int) (hm : IsMap D) (hb : ∀ n, D.atKey (.int .i64 n) (.lit (.bool false)) = .lit (.bool (b n))) (h : w'.ownsMap Try.prog 3 (plainElem Try.prog 4) B k (D.put (.int .i64 n) (.lit (.bool true)))) :
    MapIs w' B k (fun x => b x || (x == n)) := by
  refine ⟨_, h, hm.put _ _, fun x => ?_⟩
  by_cases hx : x = n
  · subst hx
    rw [atKey_put_same (k := .int .i64 x) hm (by simp [WideAt.IsKeyLit])]
    simp
  · rw [atKey_put_other (by simpa using hx), hb x]
    have : (x == n) = false := by simpa using hx
    show _ = DataW.lit (Lit.bool (b x || x == n))
    rw [this, Bool.or_false]

theorem asc_len : ∀ (p : Int) (xs : List Int), ascB p xs = true → (xs.length : Int) ≤ lastI p xs - p
  | p, [], _ => by simp [lastI]
  | p, y :: t, h => by
    rw [ascB, Bool.and_eq_true] at h
    have h1 := of_decide_eq_true h.1
    have := asc_len y t h.2
    rw [lastI, List.length_cons]
    omega
theorem info_intA : (Try.prog.info? 3).map (fun i => (i.zero, i.size, i.bytes)) = some (some (.int .i64 0), 1, 8) := by kernel_rfl
theorem avL_no {m h : Int} {ps : List Int} (hn : avOk m ps h = false) : avL m ps h = [] := by unfold avL; rw [hn]; rfl
theorem avL_yes {m h : Int} {ps : List Int} (hn : avOk m ps h = true) : avL m ps h = avGo (badG 0 ps) m h m.toNat 0 := by unfold avL; rw [hn]; rfl

set_option maxHeartbeats 8000000 in
theorem implAvoid_any (m h : Int) (v : Value) (ps : List Int) (w : World) (hi : IRow w v ps) (hh1 : -9223372036854775808 ≤ h) (hh2 : h ≤ 9223372036854775807) :
    Calls Try.prog 26 #[.int .i64 m, v, .int .i64 h] w (OwnInts (avL m ps h) w) := by
  have H := Lib.hid hi
  cases b1 : inB m 0 999
  · have E := Lib.hid (avL_no (m := m) (ps := ps) (h := h) (by unfold avOk; rw [b1]; rfl))
    clear hi
    go_enter Try.func26, Try.ntmps26
    go_wp2_with fail
    refine (in_any _ _ _ _).mono ?_
    rintro e w' ⟨rfl, rfl⟩
    rw [b1]
    go_wp2
    go_ret
    exact ⟨_, rfl, by rw [E.out]; exact World.ownsRow_nil _ _ _ _, Below.refl _ _⟩
  · cases b2 : endsB m ps
    · have E := Lib.hid (avL_no (m := m) (ps := ps) (h := h) (by unfold avOk; rw [b1, b2]; rfl))
      clear hi
      go_enter Try.func26, Try.ntmps26
      go_wp2_with fail
      refine (in_any _ _ _ _).mono ?_
      rintro e w' ⟨rfl, rfl⟩
      rw [b1]
      go_wp2_with fail
      refine (endsFit_any m v ps _ H.out).mono ?_
      rintro e w' ⟨rfl, rfl⟩
      rw [b2]
      go_wp2
      go_ret
      exact ⟨_, rfl, by rw [E.out]; exact World.ownsRow_nil _ _ _ _, Below.refl _ _⟩
    · by_cases b3 : 4 ≤ h
      · have E := Lib.hid (avL_yes (m := m) (ps := ps) (h := h) (by unfold avOk; rw [b1, b2, decide_eq_true b3]; rfl))
        have hm := inB_true b1
        obtain ⟨hm1, hm2⟩ := hm
        have HP := Lib.hid (endsB_true b2).2.2
        have hn9 : ps.length ≤ 999 := by have := asc_len 0 ps (endsB_true b2).1; have := (endsB_true b2).2.1; omega
        have HB1 := Lib.hid b1
        have HB2 := Lib.hid b2
        obtain ⟨BG, hBG⟩ : ∃ BG, BG = badG 0 ps := ⟨_, rfl⟩
        have HBG := Lib.hid hBG
        have LAW : Hid (∀ a, 0 ≤ a → a < m → a < avE BG (a + min h (m - a)) ∧ avE BG (a + min h (m - a)) ≤ a + min h (m - a) ∧ BG (avE BG (a + min h (m - a))) = false) := fun a h0 h1 => by rw [hBG]; exact avE_law b2 b3 h0 h1
        have E2 : Hid (avL m ps h = avGo BG m h m.toNat 0) := by show _ = _; rw [E.out, hBG]
        clear b1 b2 hBG E
        have hmm := @run_makeMap Try.prog
        obtain ⟨va, vc, rfl⟩ : ∃ va vc, v = .slice va ps.length vc := by obtain ⟨a, c, e, _⟩ := hi; exact ⟨a, c, e⟩
        have hsz : ps.length ≤ 9223372036854775807 := by obtain ⟨_, _, _, h, _⟩ := hi; exact h
        have hidx : ∀ j, j < ps.length → ∃ b off, va = some ⟨b, off, none⟩ ∧ b < w.heap.size ∧ w.cell? ⟨b, off + j, none⟩ = some (.int .i64 (ps.getD j 0)) := by
          obtain ⟨a, c, e, _, hc⟩ := hi
          injection e with e1
          subst e1
          intro j hj
          obtain ⟨b, off, e1, e2⟩ := hc j hj
          exact ⟨b, off, e1, World.block_lt_of_cell? w _ e2, e2⟩
        obtain ⟨n, hn⟩ : ∃ n, n = ps.length := ⟨_, rfl⟩
        have HI := Lib.hid hidx
        rw [← hn] at hsz H hn9 ⊢
        have HN := Lib.hid hn
        clear hn hidx hi
        obtain ⟨i0, hi0, hz0, hz1, hz2⟩ := info_parts info_intA
        have M0 := Lib.hid (MapIs.made w)
        have B0 := Lib.hid ((Below.refl w.heap.size w).alloc (Nat.le_refl _) (.map #[] 0))
        go_enter Try.func26, Try.ntmps26
        go_wp2_with fail
        refine (in_any _ _ _ _).mono ?_
        rintro e w' ⟨rfl, rfl⟩
        rw [HB1.out]
        go_wp2_with fail
        refine (endsFit_any m _ ps _ H.out).mono ?_
        rintro e w' ⟨rfl, rfl⟩
        rw [HB2.out]
        go_wp2
        obtain ⟨Bm, hBm⟩ : ∃ Bm, Bm = w.heap.size := ⟨_, rfl⟩
        rw [← hBm] at M0 ⊢
        have HBM := Lib.hid hBm
        clear hBm
        go_loopw [8, 30] (fun fr i wr => ∃ (k : Nat) (f : Int) (b : Int → Bool), k ≤ n ∧ i = .int .i64 k ∧ fr = .int .i64 f ∧ 0 ≤ f ∧ f ≤ 999 ∧ Hid (MapIs wr Bm (2 * k) b) ∧ Hid (∀ x, BG x = (b x || badG f (ps.drop k) x)) ∧ Hid (Below w.heap.size w wr)) (fun _ i _ => n - (intOf i).toNat)
        case atStart => exact ⟨0, 0, fun _ => false, Nat.zero_le _, rfl, rfl, by omega, by omega, M0.out, fun x => by rw [HBG.out]; simp, B0.out⟩
        case round =>
          obtain ⟨k, f, b, hk, rfl, rfl, hf0, hf1, hM, hbx, hb⟩ := hrel
          by_cases hlt : k < n
          · have hk' : k < ps.length := by rw [← HN.out]; exact hlt
            obtain ⟨bb, off, rfl, hbb, hc⟩ := HI.out k hk'
            have hd := getD_drop hk'
            have hpm : ps.getD k 0 ∈ ps := by simp [List.getD, hk']
            obtain ⟨ht0, ht1⟩ := HP.out _ hpm
            obtain ⟨t, ht⟩ : ∃ t, t = ps.getD k 0 := ⟨_, rfl⟩
            rw [← ht] at hd hc ht0 ht1
            have c1 : wr.cell? ⟨bb, off + k, none⟩ = some (.int .i64 t) := (hb.out.cell (p := ⟨bb, off + k, none⟩) hbb).trans hc
            have bx2 : Hid (∀ x, BG x = (b x || ((decide (1 < t - f) && ((x == f + 1) || (x == t - 1))) || badG t (ps.drop (k + 1)) x))) := fun x => by rw [hbx.out x, hd, badG_cons]
            have hBw : w.heap.size ≤ Bm := by rw [HBM.out]; exact Nat.le_refl _
            clear hd hc hpm ht hbx
            by_cases h1 : 1 < t - f
            · obtain ⟨D, g1, g2, g3⟩ := hM.out
              have G1 := Lib.hid g1
              have G2 := Lib.hid g2
              have G3 := Lib.hid g3
              have wfa : (Lit.int .i64 (f + 1)).wf = true := wf64 (by omega) (by omega)
              have wfb : (Lit.int .i64 (t - 1)).wf = true := wf64 (by omega) (by omega)
              clear g1 g2 g3 hM
              go_wp2_with (first | (at_mapUpdate; refine wpList_mapUpdate_own _ rfl (.tmp 38) (.tmp 40) _ 66 rfl 3 4 (int_keyed Try.underlying3) Try.underlying66 _ Bm (2 * k) _ rfl G1.out (by unfold maxLen; omega) _ _ _ rfl rfl (keyOf_int_mk Try.underlying3 wfa) _ [] (plainElem_bool Try.underlying4 true) ?_; intro w1 hown1 hgrow1) | (at_mapUpdate; refine wpList_mapUpdate_own _ rfl (.tmp 41) (.tmp 43) _ 66 rfl 3 4 (int_keyed Try.underlying3) Try.underlying66 _ Bm (2 * k + 1) _ rfl hown1 (by unfold maxLen; omega) _ _ _ rfl rfl (keyOf_int_mk Try.underlying3 wfb) _ [] (plainElem_bool Try.underlying4 true) ?_; intro w2 hown2 hgrow2))
              have mp := MapIs.put (t - 1) (G2.out.put _ _) (b := fun x => b x || (x == f + 1)) (fun x => by
                by_cases hx : x = f + 1
                · subst hx
                  rw [atKey_put_same (k := .int .i64 (f + 1)) G2.out (by simp [WideAt.IsKeyLit])]
                  simp
                · rw [atKey_put_other (by simpa using hx), G3.out x]
                  have e : (x == f + 1) = false := by simpa using hx
                  show _ = DataW.lit (Lit.bool (b x || x == f + 1))
                  rw [e, Bool.or_false]) hown2
              have bf := (hb.out.grown hgrow1 (by have := hb.out.size; omega) (fun j hj => by cases hj; exact hBw)).grown hgrow2 (by have := hb.out.size; have := hgrow1.size; omega) (fun j hj => by cases hj; exact hBw)
              have bx3 : Hid (∀ x, BG x = ((b x || (x == f + 1) || (x == t - 1)) || badG t (ps.drop (k + 1)) x)) := fun x => by rw [bx2.out x, decide_eq_true h1]; simp [Bool.or_assoc]
              clear bx2 hown1 hown2 hgrow1 hgrow2 hb
              go_roundw
              case rel => exact ⟨k + 1, t, _, by omega, by go_num, rfl, by omega, by omega, by show MapIs _ _ _ _; rw [show 2 * (k + 1) = 2 * k + 1 + 1 by omega]; exact mp, bx3.out, bf⟩
              case measure => simp [intOf]; omega
            · have bx3 : Hid (∀ x, BG x = (b x || badG t (ps.drop (k + 1)) x)) := fun x => by rw [bx2.out x, decide_eq_false h1]; simp
              have mp : MapIs wr Bm (2 * (k + 1)) b := by
                obtain ⟨D, g1, g2⟩ := hM.out
                exact ⟨D, g1.mono (by omega), g2⟩
              clear bx2 hM
              go_wp2
              go_roundw
              case rel => exact ⟨k + 1, t, b, by omega, by go_num, rfl, by omega, by omega, mp, bx3.out, hb.out⟩
              case measure => simp [intOf]; omega
          · have hkn : k = n := by omega
            have MB : Hid (MapIs wr Bm (2 * n) BG) := by
              obtain ⟨D, g1, g2, g3⟩ := hM.out
              refine ⟨D, by rw [← hkn]; exact g1, g2, fun x => ?_⟩
              rw [g3 x, hbx.out x, List.drop_of_length_le (by have := HN.out; omega), badG, Bool.or_false]
            have BB := Lib.hid hb.out
            clear hM hbx hb hkn HI HP
            go_wp2
            obtain ⟨wx, rfl⟩ : ∃ wx : World, wx = wr := ⟨_, rfl⟩
            go_loopw [11, 12] (fun v at' wr => ∃ (a : Int) (O : List Int) (fu L : Nat), at' = .int .i64 a ∧ 0 ≤ a ∧ a ≤ m ∧ (m - a).toNat ≤ fu ∧ (L : Int) ≤ a ∧ Hid (avL m ps h = O ++ avGo BG m h fu a) ∧ Hid (wr.ownsRow w.heap.size 3 1 v L (O.map (Value.int .i64))) ∧ Hid (some Bm ≠ v.ownBlock) ∧ Hid (MapIs wr Bm (2 * n) BG) ∧ Hid (Below w.heap.size w wr)) (fun _ at' _ => (m - intOf at').toNat)
            case atStart => exact ⟨0, [], m.toNat, 0, rfl, by omega, by omega, by omega, by omega, E2.out, World.ownsRow_nil _ _ _ _, by show _ ≠ _; simp [Value.ownBlock], MB.out, BB.out⟩
            case round =>
              obtain ⟨a, O, fu, L, rfl, ha0, ham, hfu, hL, hO, ho, hap, hM, hb⟩ := hrel
              have hws := hb.out.size
              have hBlt := hM.out.lt
              by_cases hlt : a < m
              · obtain ⟨q1, q2, q3⟩ := LAW.out a ha0 hlt
                have hst := avGo_step BG m h fu a hlt hfu
                have hall := avE_all BG (a + min h (m - a))
                obtain ⟨e0, he0⟩ : ∃ e0, e0 = a + min h (m - a) := ⟨_, rfl⟩
                rw [← he0] at q1 q2 q3 hst hall
                obtain ⟨q, hq⟩ : ∃ q, q = avE BG e0 := ⟨_, rfl⟩
                rw [← hq] at q1 q2 q3 hst hall
                have O2 : Hid (avL m ps h = (O ++ [q]) ++ avGo BG m h (fu - 1) q) := by show _ = _; rw [hO.out, hst, List.append_assoc]; rfl
                have Q3 := Lib.hid q3
                have ALL := Lib.hid hall
                have hem : e0 ≤ m := by omega
                have hcase : (h ≤ m - a ∧ e0 = a + h) ∨ (m - a < h ∧ e0 = m) := by omega
                clear hst hall hq q3 hO he0
                rcases hcase with ⟨hmin, he⟩ | ⟨hmin, he⟩
                all_goals
                  have e0h : e0 ≤ 999 := by omega
                  go_wp2
                  first | rw [show a + h = e0 by omega] | rw [show a + (m - a) = e0 by omega]
                  obtain ⟨wy, rfl⟩ : ∃ wy : World, wy = wr := ⟨_, rfl⟩
                  clear he hmin
                  go_loop [13] (fun e => ∃ x : Int, e = .int .i64 x ∧ q ≤ x ∧ x ≤ e0) (fun e => (intOf e).toNat)
                  case atStart => exact ⟨e0, rfl, q2, Int.le_refl _⟩
                  case round =>
                    obtain ⟨x, rfl, hx1, hx2⟩ := hrel
                    have lk := hM.out.look x (by omega) (by omega)
                    cases hbx : BG x
                    · have hxq : x = q := by
                        by_cases hqx : q < x
                        · have := ALL.out x hqx hx2
                          rw [hbx] at this
                          cases this
                        · omega
                      subst hxq
                      have HM := Lib.hid hM.out
                      have HAP := Lib.hid hap.out
                      have LK := Lib.hid lk
                      clear hM hap
                      go_wp2_with (at_builtin; refine append_mine _ rfl _ _ 32 rfl w.heap.size 3 i0 (.int .i64 0) 1 8 Try.underlying32 hi0 hz0 hz1 hz2 rfl (by decide) _ _ _ rfl (ho.out.alloc _) ⟨wy.heap.size, 0, none⟩ 1 1 [.int .i64 x] rfl rfl (by simpa using cells_new wy [_] _) (by intro u hu; simp at hu; subst hu; rfl) (by unfold maxLen; omega) (by omega) (by simp; omega) ?_; intro v' w5 hown' hgrow hmv)
                      have bf := (hb.out.alloc hws (.cells #[.int .i64 x] 3)).grown hgrow (by simp; omega) (fun j hj => (ho.out.lt j hj).1)
                      have hap2 : some Bm ≠ v'.ownBlock := hmv.apart HAP.out (by simp; omega)
                      have mp := (HM.out.kept (World.grownBy_alloc wy (.cells #[.int .i64 x] 3) none) (by simp)).kept hgrow HAP.out
                      have own2 : w5.ownsRow w.heap.size 3 1 v' (L + 1) ((O ++ [x]).map (Value.int .i64)) := by rw [List.map_append]; exact hown'
                      clear lk hmv hown'
                      go_roundw
                      case rel => exact ⟨x, O ++ [x], fu - 1, L + 1, rfl, by omega, by omega, by omega, by omega, O2.out, own2, hap2, mp, bf⟩
                      case measure => simp [intOf]; omega
                    · have hxq : q < x := by
                        by_cases hqx : q < x
                        · exact hqx
                        · obtain rfl : x = q := by omega
                          have := Q3.out
                          rw [hbx] at this
                          cases this
                      go_wp2
                      go_round
                      case rel => exact ⟨x - 1, rfl, by omega, by omega⟩
                      case measure => simp [intOf]; omega
              · have e : avL m ps h = O := by rw [hO.out, avGo_end BG m h fu a (by omega), List.append_nil]
                have hOl : O.length = L := by have := ho.out.1; simpa using this
                have E3 := Lib.hid e
                have HOL := Lib.hid hOl
                clear e hOl hO
                go_wp2
                go_ret
                exact ⟨_, rfl, by rw [E3.out, HOL.out]; exact ho.out, hb.out⟩
      · have E := Lib.hid (avL_no (m := m) (ps := ps) (h := h) (by unfold avOk; rw [b1, b2, decide_eq_false b3]; rfl))
        have b3' : h < 4 := by omega
        clear hi b3
        go_enter Try.func26, Try.ntmps26
        go_wp2_with fail
        refine (in_any _ _ _ _).mono ?_
        rintro e w' ⟨rfl, rfl⟩
        rw [b1]
        go_wp2_with fail
        refine (endsFit_any m v ps _ H.out).mono ?_
        rintro e w' ⟨rfl, rfl⟩
        rw [b2]
        go_wp2
        go_ret
        exact ⟨_, rfl, by rw [E.out]; exact World.ownsRow_nil _ _ _ _, Below.refl _ _⟩
end Go.Proofs.Ytaolkplecdbadaa

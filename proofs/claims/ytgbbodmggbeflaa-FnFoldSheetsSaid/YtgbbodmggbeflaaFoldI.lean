/-
  PROVED HERE: sheets, folded: what the program returns. Conditions: each theorem's own.
-/
import Derived.Test.YtgbbodmggbeflaaFoldX
import Derived.Test.YtgbbodmggbeflaaFoldFn
import Derived.Test.YtgbbodmggbeflaaBack
set_option linter.unusedVariables false
set_option linter.unusedSimpArgs false
namespace Go.Proofs.Ytgbbodmggbeflaa
open Go.RowKit Go.Shelf
set_option maxRecDepth 100000

def fillR (t : Array Value) (d : Nat) : List Value → Array Value
  | [] => t
  | u :: us => fillR (t.setIfInBounds d u) (d + 1) us
theorem fillR_get : ∀ (us : List Value) (t : Array Value) (d k : Nat), (fillR t d us)[k]? = if d ≤ k ∧ k < d + us.length ∧ k < t.size then us[k - d]? else t[k]?
  | [], t, d, k => by rw [fillR, if_neg (by simp; omega)]
  | u :: us, t, d, k => by
    rw [fillR, fillR_get us, Array.getElem?_setIfInBounds]
    by_cases h : d = k
    · subst h
      rw [if_neg (by omega), if_pos rfl]
      by_cases hk : d < t.size
      · rw [if_pos hk, if_pos ⟨Nat.le_refl _, by simp, hk⟩, Nat.sub_self]
        rfl
      · rw [if_neg hk, if_neg (by omega), Array.getElem?_eq_none (by omega)]
    · by_cases hin : d + 1 ≤ k ∧ k < d + 1 + us.length ∧ k < (t.setIfInBounds d u).size
      · rw [if_pos hin, if_pos (by simp at hin; simp; omega)]
        obtain ⟨j, rfl⟩ : ∃ j, k = d + 1 + j := ⟨k - (d + 1), by omega⟩
        rw [show d + 1 + j - (d + 1) = j by omega, show d + 1 + j - d = j + 1 by omega]
        rfl
      · rw [if_neg hin, if_neg h, if_neg (by simp at hin; simp; omega)]
theorem len11 : ∀ (us : List Value), us.length = 11 → ∃ u0 u1 u2 u3 u4 u5 u6 u7 u8 u9 u10, us = [u0, u1, u2, u3, u4, u5, u6, u7, u8, u9, u10]
  | [u0, u1, u2, u3, u4, u5, u6, u7, u8, u9, u10], _ => ⟨u0, u1, u2, u3, u4, u5, u6, u7, u8, u9, u10, rfl⟩
theorem range_get (ts : Array Value) (d n j : Nat) (hj : j < n) : ((List.range n).map fun j => ts.getD (d + j) undef)[j]? = some (ts.getD (d + j) undef) := by
  rw [List.getElem?_map, List.getElem?_range hj, Option.map_some]
theorem framed_ts {d : Nat} {t0 ts : Array Value} (h1 : ts.size = t0.size) (h3 : ∀ t, (∀ i, i < 12 → fDst d i ≠ some t) → ts[t]? = t0[t]?) (hd : d + 10 < t0.size) (k : Nat) : ts[k]? = (fillR t0 d ((List.range 11).map fun j => ts.getD (d + j) undef))[k]? := by
  rw [fillR_get, List.length_map, List.length_range]
  by_cases hk : d ≤ k ∧ k < d + 11
  · rw [if_pos ⟨hk.1, hk.2, by omega⟩]
    obtain ⟨j, hj⟩ : ∃ j, k = d + j := ⟨k - d, by omega⟩
    subst hj
    have hj : j < 11 := by omega
    have hs : d + j < ts.size := by omega
    rw [Nat.add_sub_cancel_left, range_get ts d 11 j hj, Array.getD_eq_getD_getElem?, Array.getElem?_eq_getElem hs, Option.getD_some]
  · rw [if_neg (fun e => hk ⟨e.1, e.2.1⟩)]
    refine h3 k fun i hi => ?_
    unfold fDst
    split
    · intro e
      have := Option.some.inj e
      omega
    · intro e; cases e
theorem framed_fill0 {d : Nat} {a0 a : Act} (h : FramedO (fDst d) 12 a0 a) (hd : d + 10 < a0.tmps.size) : ∃ us : List Value, us.length = 11 ∧ a = { tmps := fillR a0.tmps d us, defers := a0.defers } := by
  refine ⟨(List.range 11).map fun j => a.tmps.getD (d + j) undef, by rw [List.length_map, List.length_range], ?_⟩
  have e : a.tmps = fillR a0.tmps d ((List.range 11).map fun j => a.tmps.getD (d + j) undef) := Array.ext_getElem? (framed_ts h.1 h.2.2 hd)
  rw [← e, ← h.2.1]
theorem framed_fill {d : Nat} {a0 a : Act} (h : FramedO (fDst d) 12 a0 a) (hd : d + 10 < a0.tmps.size) : ∃ u0 u1 u2 u3 u4 u5 u6 u7 u8 u9 u10, a = { tmps := fillR a0.tmps d [u0, u1, u2, u3, u4, u5, u6, u7, u8, u9, u10], defers := a0.defers } := by
  obtain ⟨us, hl, e⟩ := framed_fill0 h hd
  obtain ⟨u0, u1, u2, u3, u4, u5, u6, u7, u8, u9, u10, rfl⟩ := len11 us hl
  exact ⟨u0, u1, u2, u3, u4, u5, u6, u7, u8, u9, u10, e⟩

theorem foldNd (p : String) (d ts : Nat) (i1 i2 : Int) : ∀ (i : Nat) (o : Oper), (foldOps p d ts i1 i2).toArray[i]? = some o → ∀ c, o.op ≠ .defer c := by
  intro i o ho
  have hm : o ∈ foldOps p d ts i1 i2 := List.mem_of_getElem? (by simpa using ho)
  have hall : ∀ o ∈ foldOps p d ts i1 i2, ∀ c, o.op ≠ .defer c := by
    unfold foldOps
    simp only [List.forall_mem_cons]
    refine ⟨?_, ?_, ?_, ?_, ?_, ?_, ?_, ?_, ?_, ?_, ?_, ?_, ?_⟩
    all_goals first | (intro c h; cases h) | (intro o h; cases h)
  exact hall o hm
def bkF (xs : List (List Int)) {n : Nat} (pre : List { k : Nat // k < n }) : List Int := pre.flatMap fun x => fB (xs.getD x.1 [])
theorem bkF_dn (xs : List (List Int)) : ∀ d, d ≤ xs.length → bkF xs (dn xs.length d) = foldB xs (xs.length - d)
  | 0, _ => by rw [foldB_end _ _ (by omega)]; rfl
  | d + 1, h => by
    have h1 : xs.length - (d + 1) < xs.length := by omega
    unfold bkF
    rw [dn_succ _ _ (by omega), List.flatMap_append]
    have ih := bkF_dn xs d (by omega)
    unfold bkF at ih
    rw [ih, foldB_pred xs _ h1, show xs.length - (d + 1) + 1 = xs.length - d by omega]
    simp [List.getD, h1]
theorem bkF_len (xs : List (List Int)) {n : Nat} (pre : List { k : Nat // k < n }) : (bkF xs pre).length = 2 * pre.length := by
  unfold bkF
  induction pre with
  | nil => rfl
  | cons x t ih => rw [List.flatMap_cons, List.length_append, ih]; simp [fB]; omega
theorem bkF_snoc (xs : List (List Int)) {n : Nat} (pre : List { k : Nat // k < n }) (x : { k : Nat // k < n }) : bkF xs (pre ++ [x]) = bkF xs pre ++ fB (xs.getD x.1 []) := by
  unfold bkF
  rw [List.flatMap_append]
  simp

set_option maxHeartbeats 8000000 in
theorem implFold_any (v : Value) (xs : List (List Int)) (w : World) (h : SheetR w v xs) : Calls Try.prog 43 #[v] w (FoldPost (foldR xs) w) := by
  obtain ⟨i0, hi, hz0, hz1, hz2⟩ := info_parts info_int
  have SH := Lib.hid h
  obtain ⟨a, ca, hv, hl, h3⟩ := h.len
  obtain ⟨n, hn⟩ : ∃ n, n = xs.length := ⟨_, rfl⟩
  have H3 := Lib.hid h3
  rw [← hn] at hl hv
  have HN := Lib.hid hn
  have hok := foldOk_any xs
  have CF := Lib.hid (containsSh_any v xs w h)
  clear h h3
  by_cases h100 : 100 < n
  · have E : Hid (foldR xs = []) := by show _ = _; unfold foldR; rw [hok, decide_eq_false (by omega)]; rfl
    have q1 : (100 : Int) < n := by omega
    rw [E.out]
    subst hv
    clear hok hn
    go_enter Try.func43, Try.ntmps43
    go_wp2
    go_ret
    exact ⟨_, rfl, World.ownsRow_nil _ _ _ _, Below.refl _ _⟩
  · have q1 : ¬ (100 : Int) < n := by omega
    cases h4 : xs.any not4
    · have E : Hid (foldR xs = foldF xs n ++ foldB xs 0) := by show _ = _; unfold foldR; rw [hok, h4, decide_eq_true (by omega), Bool.not_false, Bool.true_and, if_pos rfl, HN.out]
      have A4 : Hid (∀ j (hj : j < xs.length), xs[j].length = 4) := by
        have : foldOk xs = true := by rw [hok, h4, decide_eq_true (by omega)]; rfl
        exact (foldOk_inv this).2
      rw [h4] at CF
      obtain ⟨U, hU⟩ : ∃ U : Nat → Value, ∀ k (hk : k < xs.length), ∃ b off cap, U k = .slice (some ⟨b, off, none⟩) 4 cap ∧ b < w.heap.size ∧ w.cell? ⟨b, off, none⟩ = some (.int .i64 (xs[k].getD 0 0)) ∧ w.cell? ⟨b, off + 1, none⟩ = some (.int .i64 (xs[k].getD 1 0)) ∧ w.cell? ⟨b, off + 2, none⟩ = some (.int .i64 (xs[k].getD 2 0)) ∧ w.cell? ⟨b, off + 3, none⟩ = some (.int .i64 (xs[k].getD 3 0)) ∧
          ∃ B0 o0, a = some ⟨B0, o0, none⟩ ∧ B0 < w.heap.size ∧ w.cell? ⟨B0, o0 + k, none⟩ = some (U k) := by
        have key : ∀ k : Nat, ∃ u : Value, ∀ hk : k < xs.length, ∃ b off cap, u = .slice (some ⟨b, off, none⟩) 4 cap ∧ b < w.heap.size ∧ w.cell? ⟨b, off, none⟩ = some (.int .i64 (xs[k].getD 0 0)) ∧ w.cell? ⟨b, off + 1, none⟩ = some (.int .i64 (xs[k].getD 1 0)) ∧ w.cell? ⟨b, off + 2, none⟩ = some (.int .i64 (xs[k].getD 2 0)) ∧ w.cell? ⟨b, off + 3, none⟩ = some (.int .i64 (xs[k].getD 3 0)) ∧
            ∃ B0 o0, a = some ⟨B0, o0, none⟩ ∧ B0 < w.heap.size ∧ w.cell? ⟨B0, o0 + k, none⟩ = some u := fun k => by
          by_cases hk : k < xs.length
          · obtain ⟨B0, o0, u, h1, h2, h3, h4⟩ := H3.out k hk
            obtain ⟨b, off, cap, e1, e2, c0, c1, c2, c3⟩ := h4.at4 (A4.out k hk)
            exact ⟨u, fun _ => ⟨b, off, cap, e1, e2, c0, c1, c2, c3, B0, o0, h1, h2, h3⟩⟩
          · exact ⟨undef, fun h => absurd h hk⟩
        exact Classical.axiomOfChoice key
      have HU := Lib.hid hU
      subst hv
      clear hok hn h4 hU
      refine callsIn_wide.1 (callsIn_of_wp_marks (n := 3) Try.func43 rfl trivial (wpIn_wide.2 ?_) rfl)
      simp only [Try.ntmps43, List.size_toArray, List.length_cons, List.length_nil, Nat.reduceAdd, Nat.reduceSub, Array.replicate_succ, Array.replicate_zero, List.push_toArray, List.append_toArray, List.nil_append, List.cons_append]
      go_wp2_with (go_at_call 58; refine (CF.out).mono ?_)
      rintro e w1 ⟨rfl, b1⟩
      have B1 := Lib.hid b1
      clear b1
      go_wp2
      have bx0 := Lib.hid (Boxed.new w1 28 (.slice none 0 0))
      have B2 := Lib.hid (B1.out.alloc B1.out.size (.cells #[.slice none 0 0] 28))
      obtain ⟨Bo, hBo⟩ : ∃ Bo, Bo = w1.heap.size := ⟨_, rfl⟩
      rw [← hBo] at bx0 ⊢
      have HBo := Lib.hid (show w.heap.size ≤ Bo by rw [hBo]; exact B1.out.size)
      clear hBo
      go_loopw [17] (fun i wr => ∃ k : Nat, k ≤ n ∧ i = .int .i64 k ∧ Hid (∃ u, Boxed wr Bo 28 u ∧ wr.ownsRow w.heap.size 3 1 u (2 * k) ((foldF xs k).map (Value.int .i64))) ∧ Hid (Below w.heap.size w wr)) (fun i _ => n - (intOf i).toNat)
      case atStart => exact ⟨0, Nat.zero_le _, rfl, ⟨_, bx0.out, World.ownsRow_nil _ _ _ _⟩, B2.out⟩
      case round =>
        obtain ⟨k, hk, rfl, hbo, hb⟩ := hrel
        clear bx0 B2
        by_cases hlt : k < n
        · have hk' : k < xs.length := by rw [← HN.out]; exact hlt
          obtain ⟨b, off, cap, e1, l1, c0, c1, c2, c3, B0, o0, e2, l2, d0⟩ := HU.out k hk'
          subst e2
          rw [e1] at d0
          have d1 : wr.cell? ⟨B0, o0 + k, none⟩ = some (.slice (some ⟨b, off, none⟩) 4 cap) := (hb.out.cell (p := ⟨B0, o0 + k, none⟩) l2).trans d0
          have E0 : Hid (foldF xs (k + 1) = foldF xs k ++ fA xs[k]) := foldF_succ xs k hk'
          obtain ⟨v0, hv0, ho0⟩ := hbo.out
          have hws := hb.out.size
          obtain ⟨wS, hwS⟩ : ∃ wS, wS = wr.alloc (.cells #[.slice (some ⟨b, off, none⟩) 4 cap] 59) := ⟨_, rfl⟩
          have bw : Below w.heap.size w wS := by rw [hwS]; exact hb.out.alloc hws _
          have bxS : Boxed wS wr.heap.size 59 (.slice (some ⟨b, off, none⟩) 4 cap) := by rw [hwS]; exact Boxed.new _ _ _
          have bxB : Boxed wS Bo 28 v0 := by rw [hwS]; exact hv0.alloc _
          have ow : wS.ownsRow w.heap.size 3 1 v0 (2 * k) ((foldF xs k).map (Value.int .i64)) := by rw [hwS]; exact ho0.alloc _
          have hSB : wr.heap.size ≠ Bo := by have := hv0.lt; omega
          have q1 : wS.cell? ⟨b, off + 1, none⟩ = some (.int .i64 (xs[k].getD 1 0)) := (bw.cell (p := ⟨b, off + 1, none⟩) l1).trans c1
          have q2 : wS.cell? ⟨b, off + 2, none⟩ = some (.int .i64 (xs[k].getD 2 0)) := (bw.cell (p := ⟨b, off + 2, none⟩) l1).trans c2
          have BW := Lib.hid bw
          have BXS := Lib.hid bxS
          have BXB := Lib.hid bxB
          have OW := Lib.hid ow
          have Q1 := Lib.hid q1
          have Q2 := Lib.hid q2
          have HWS := Lib.hid hwS
          clear bw bxS bxB ow q1 q2 hv0 ho0 hbo d0 c0 c1 c2 c3 hwS
          go_wp2
          rw [← HWS.out]
          refine wp_region_any (by kernel_rfl) ?_
          refine fold_any _ "l28_sheets.go:44" 21 5 1 2 (by omega) (by omega) _ _ (by omega) (by omega) (by simp) rfl rfl (n₀ := w.heap.size) (B := Bo) (S := wr.heap.size) (by have := BW.out.size; exact this) HBo.out (k := 2 * k) (by omega) (v := v0) (xs := (foldF xs k).map (Value.int .i64)) (BXB.out.kept (grownBy_drewN (grownBy_refl _ none) 1) (by simp)) (OW.out.kept (grownBy_drewN (grownBy_refl _ none) 1) (by cases h : v0.ownBlock <;> simp)) hSB (BXS.out.not_row (by decide) OW.out) l1 BXS.out.cell Q1.out Q2.out ?_
          intro a' w9 hF hE
          obtain ⟨u0, u1, u2, u3, u4, u5, u6, u7, u8, u9, u10, rfl⟩ := framed_fill hF (by simp)
          obtain ⟨⟨uu, g1, g2⟩, g3, g4, _⟩ := hE
          have hnew : Hid (∃ u, Boxed w9 Bo 28 u ∧ w9.ownsRow w.heap.size 3 1 u (2 * (k + 1)) ((foldF xs (k + 1)).map (Value.int .i64))) := by
            refine ⟨uu, g1, ?_⟩
            rw [E0.out, List.map_append, show 2 * (k + 1) = 2 * k + 2 by omega]
            exact g2
          have hB9 : Hid (Below w.heap.size w w9) := BW.out.trans (((Below.refl w.heap.size wS).drew).trans g3)
          clear hF g1 g2 g3 g4 BW BXS BXB OW Q1 Q2 HWS E0
          simp only [fillR, List.setIfInBounds_toArray, List.set_cons_zero, List.set_cons_succ]
          go_wp2
          go_roundw
          case rel => exact ⟨k + 1, by omega, by go_num, hnew.out, hB9.out⟩
          case measure => simp [intOf]; omega
        · obtain rfl : k = n := by omega
          have hws := hb.out.size
          obtain ⟨v0, hv0, ho0⟩ := hbo.out
          have HV0 := Lib.hid hv0
          have HO0 := Lib.hid ho0
          clear hbo hv0 ho0
          go_wp2_with (go_at_call 60; refine (back_any _ _ _ _).mono ?_; rintro e w' ⟨rfl, rfl⟩)
          have bBs := Boxed.new wr 48 (.slice a k ca)
          have hcS := bBs.cell
          have hBo := HV0.out.lt
          have hB9 : Below w.heap.size w (wr.alloc (.cells #[.slice a k ca] 48)) := hb.out.alloc hws _
          obtain ⟨w9, hw9⟩ : ∃ w9, w9 = wr.alloc (.cells #[.slice a k ca] 48) := ⟨_, rfl⟩
          have hsz9 : w9.heap.size = wr.heap.size + 1 := by rw [hw9]; simp
          have hv9 : Boxed w9 Bo 28 v0 := by rw [hw9]; exact HV0.out.alloc _
          have ho9 : w9.ownsRow w.heap.size 3 1 v0 (2 * k) ((foldF xs k).map (Value.int .i64)) := by rw [hw9]; exact HO0.out.alloc _
          rw [← hw9] at bBs hcS hB9 ⊢
          clear hw9
          have hU2 : ∀ j, j < k → ∃ g c d, U j = .slice g c d := fun j hj => by
            obtain ⟨b, off, cap, e, _⟩ := HU.out j (by rw [← HN.out]; exact hj)
            exact ⟨_, _, _, e⟩
          have hI0 : (k = 0 ∧ ∃ a' c, Value.slice a k ca = .slice a' 0 c) ∨ ∃ b off cap, Value.slice a k ca = .slice (some ⟨b, off, none⟩) k cap ∧ b < w.heap.size ∧ ∀ j, j < k → w9.cell? ⟨b, off + j, none⟩ = some (U j) := by
            by_cases h0 : k = 0
            · exact .inl ⟨h0, a, ca, by rw [h0]⟩
            · obtain ⟨_, _, _, _, _, _, _, _, _, B0, o0, e2, l2, _⟩ := HU.out 0 (by rw [← HN.out]; omega)
              refine .inr ⟨B0, o0, ca, by rw [e2], l2, fun j hj => ?_⟩
              obtain ⟨_, _, _, _, _, _, _, _, _, B1, o1, e3, l3, d3⟩ := HU.out j (by rw [← HN.out]; exact hj)
              rw [e2] at e3
              cases e3
              exact (hB9.cell (p := ⟨B0, o0 + j, none⟩) l2).trans d3
          refine wpIn_wide.1 (wpIn_rangeFunc_ownH (n := 3) rfl (by omega) (gf := 64) (lb := #[.pointer (some ⟨wr.heap.size, 0, none⟩)]) rfl trivial (enters_of Try.func64 (by kernel_rfl) rfl)
            (back_stops 2 wr.heap.size w.heap.size (by omega) (.slice a k ca) k (by omega) U hU2 w9 (by omega) (by omega) hcS hI0) BK.t (BK.b (by omega) (by omega)) (Below.refl _ _) (fun _ => rfl)
            (fun pre W => ((∃ v, Boxed W Bo 28 v ∧ W.ownsRow w.heap.size 3 1 v (2 * k + 2 * pre.length) ((foldF xs k ++ bkF xs pre).map (Value.int .i64)) ∧ True) ∧ Boxed W wr.heap.size 48 (.slice a k ca)) ∧ Below w.heap.size w W)
            (fun _ _ _ => False)
            (OwnFrom.and (OwnFrom.and (Own.from (holdsRow_own w.heap.size Bo 28 3 1 (fun pre => 2 * k + 2 * pre.length) (fun pre => (foldF xs k ++ bkF xs pre).map (Value.int .i64)) (fun _ _ => True)) _) (Own.from (boxed_own wr.heap.size 48 (fun _ => .slice a k ca)) _)) (ownFrom_below (Nat.le_refl _) (by omega)))
            (fun _ _ _ _ _ hs _ _ => hs)
            ⟨⟨⟨v0, hv9, by rw [show bkF xs ([] : List { j : Nat // j < k }) = [] from rfl, List.append_nil]; exact ho9, trivial⟩, bBs⟩, hB9⟩
            (fun x a' W => ∃ S, Boxed W S 59 (U x.1) ∧ S ≠ Bo ∧ a'.tmps.getD 3 undef = .pointer (some ⟨Bo, 0, none⟩) ∧ a'.tmps.getD 7 undef = .pointer (some ⟨S, 0, none⟩) ∧ a'.tmps.size = 49)
            ?hAx ?assign ?body ?done ?stop)
          case hAx =>
            intro x a'
            rintro s A B row ⟨S, h1, h2⟩ hg hr
            exact ⟨S, h1.kept hg (fun e => by obtain ⟨_, o, ho, hc⟩ := hr S e.symm; rw [show A.heap[S]? = _ from h1] at ho; cases ho; cases hc), h2⟩
          case assign =>
            rintro l pre x W K ⟨⟨⟨v, hv, ho, _⟩, hc⟩, hB⟩ hK
            obtain ⟨b, off, cap, e, _⟩ := HU.out x.1 (by rw [← HN.out]; exact x.2)
            have hws2 := hB.size
            rw [e]
            refine lex_inRound (by simp) (by rintro ⟨a, w, h⟩; exact h) ?_
            go_wp2
            refine hK _ _ ((KeepsOthers.alloc W _).from _) ⟨(Below.refl w.heap.size W).alloc hws2 _, fun u e' => (World.grownBy_alloc W _ none).cell e' (by simp)⟩ ⟨⟨⟨v, hv.alloc _, ho.alloc _, trivial⟩, hc.alloc _⟩, hB.alloc hws2 _⟩ ⟨W.heap.size, ?_, ?_, rfl, rfl, rfl⟩
            · rw [e]; exact Boxed.new W _ _
            · have := hv.lt; omega
          case body =>
            rintro l pre x a' W hl hloop ⟨⟨⟨v, hv, ho, _⟩, hc⟩, hB⟩ ⟨S, hS, hSB, t3, t7, hsz⟩ hpre
            obtain ⟨b, off, cap, e1, l1, c0, c1, c2, c3, _⟩ := HU.out x.1 (by rw [← HN.out]; exact x.2)
            rw [e1] at hS
            refine wpIn_block ?_
            refine region_inRound (by kernel_rfl) (foldNd "l28_sheets.go:47" 37 7 3 0) (by rintro ⟨a, w, h⟩; exact h) ?_
            refine fold_any _ "l28_sheets.go:47" 37 7 3 0 (by omega) (by omega) _ _ (by omega) (by omega) (by rw [hsz]; omega) t3 t7 (n₀ := w.heap.size) (B := Bo) (S := S) hB.size HBo.out (k := 2 * k + 2 * pre.length) (by omega) (v := v) (xs := (foldF xs k ++ bkF xs pre).map (Value.int .i64)) (hv.kept (grownBy_drewN (grownBy_refl _ none) 1) (by simp)) (ho.kept (grownBy_drewN (grownBy_refl _ none) 1) (by cases h : v.ownBlock <;> simp)) hSB (hS.not_row (by decide) ho) l1 hS.cell ((hB.cell (p := ⟨b, off + 3, none⟩) l1).trans c3) ((hB.cell (p := ⟨b, off, none⟩) l1).trans c0) ?_
            intro a9 w10 hF hE
            obtain ⟨⟨uu, g1, g2⟩, g3, g4, g5⟩ := hE
            have hBsv : some wr.heap.size ≠ v.ownBlock := hc.not_row (by decide) ho
            have hBsB : wr.heap.size ≠ Bo := by omega
            have hsame : w10.heap[wr.heap.size]? = W.heap[wr.heap.size]? := g5 wr.heap.size hc.lt hBsB hBsv
            refine ⟨(KeepsOthers.drew W |>.trans g4).from _, ⟨((Below.refl w.heap.size W).drew).trans g3, ?_⟩, ⟨⟨uu, g1, ?_, trivial⟩, ?_⟩, hB.trans (((Below.refl w.heap.size W).drew).trans g3)⟩
            · intro u e
              exact (World.cell?_of_block hsame).trans e
            · rw [bkF_snoc, List.length_append, ← List.append_assoc, List.map_append, show 2 * k + 2 * (pre.length + [x].length) = 2 * k + 2 * pre.length + 2 by simp; omega]
              have hx : xs.getD x.1 [] = xs[x.1]'(by rw [← HN.out]; exact x.2) := by simp [List.getD, show x.1 < xs.length by rw [← HN.out]; exact x.2]
              rw [hx]
              exact g2
            · exact (hsame.trans hc : Boxed w10 wr.heap.size _ _)
          case done =>
            rintro D ys W hD rfl ⟨⟨⟨v, hv, ho, _⟩, hc⟩, hB⟩ hK
            have hvc := hv.cell
            have hR : Hid (foldR xs = foldF xs k ++ bkF xs (dn k k)) := by
              show _ = _
              have h1 := bkF_dn xs k (by rw [HN.out]; exact Nat.le_refl _)
              rw [← HN.out, Nat.sub_self] at h1
              rw [E.out, h1]
            have hlen : Hid ((foldR xs).length = 2 * k + 2 * k) := by
              show _ = _
              rw [hR.out, List.length_append, bkF_len, dn_len k k (Nat.le_refl _), foldF_len xs k (by rw [HN.out]; exact Nat.le_refl _)]
            rw [dn_len k k (Nat.le_refl _), ← hR.out] at ho
            go_wp2
            refine ⟨by simp, .inl ⟨_, _, rfl, run_takeDeferred hK, ?_⟩⟩
            exact ⟨_, results_tmp rfl _ _ _, v, rfl, by rw [hlen.out]; exact ownsRow_putObj ho _ hK rfl, hB.trans (belowK_b (w := w) (Nat.le_refl _) W D _ _ (by omega) hK rfl rfl)⟩
          case stop =>
            rintro D c pre W _ _ h _
            exact h.elim
    · have E : Hid (foldR xs = []) := by show _ = _; unfold foldR; rw [hok, h4, Bool.not_true, Bool.and_false]; rfl
      rw [E.out]
      rw [h4] at CF
      subst hv
      clear hok hn h4
      go_enter Try.func43, Try.ntmps43
      go_wp2_with (go_at_call 58; refine (CF.out).mono ?_)
      rintro e w1 ⟨rfl, b1⟩
      have B1 := Lib.hid b1
      clear b1
      go_wp2
      go_ret
      exact ⟨_, rfl, World.ownsRow_nil _ _ _ _, B1.out⟩
end Go.Proofs.Ytgbbodmggbeflaa

/-
  PROVED HERE: what ContentsOf of the reference and of the program return. Conditions: each theorem's own.
-/
import Derived.Test.YtfallcoehmmbeaaGreatDoorTitR
import Derived.Test.YtfallcoehmmbeaaGreatDoorLineI
import Derived.Deep.Onto
set_option linter.unusedVariables false
set_option linter.unusedSimpArgs false
namespace Go.Proofs.YtfallcoehmmbeaaGreatDoor
open Go.RowKit

def ctOk (xs : List DTitle) (wd : Int) : Bool := xs.all fun x => lnOk x.f0 x.f1 x.f2 wd
def ctTx (x : DTitle) (wd : Int) : ByteArray := bs (lnTxt x.f0 x.f1 x.f2 wd)
def ctR (xs : List DTitle) (wd : Int) : List ByteArray := if ctOk xs wd = true then xs.map fun x => ctTx x wd else []
theorem ctR_ok {xs : List DTitle} {wd : Int} (h : ∀ j (hj : j < xs.length), lnOk xs[j].f0 xs[j].f1 xs[j].f2 wd = true) : ctOk xs wd = true ∧ ctR xs wd = xs.map fun x => ctTx x wd := by
  have e : ctOk xs wd = true := by
    unfold ctOk
    rw [List.all_eq_true]
    intro x hx
    obtain ⟨j, hj, rfl⟩ := List.getElem_of_mem hx
    exact h j hj
  exact ⟨e, by unfold ctR; rw [if_pos e]⟩
theorem ctR_bad {xs : List DTitle} {wd : Int} (j : Nat) (hj : j < xs.length) (h : lnOk xs[j].f0 xs[j].f1 xs[j].f2 wd = false) : ctOk xs wd = false ∧ ctR xs wd = [] := by
  have e : ctOk xs wd = false := by
    unfold ctOk
    rw [List.all_eq_false]
    exact ⟨xs[j], List.getElem_mem hj, by rw [h]; decide⟩
  exact ⟨e, by unfold ctR; rw [e]; rfl⟩
theorem take_map_succ (xs : List DTitle) (wd : Int) (k : Nat) (h : k < xs.length) : ((xs.take (k + 1)).map fun x => ctTx x wd).flatMap encS = (((xs.take k).map fun x => ctTx x wd).flatMap encS) ++ [.string (ctTx xs[k] wd)] := by
  rw [List.take_succ_eq_append_getElem h, List.map_append, List.flatMap_append]
  rfl
/-- It returns a row of strings of its own, and whether there is one. -/
def OwnStrB (xs : List ByteArray) (b : Bool) (w : World) (e : Ending) (w' : World) : Prop := ∃ v, e = .returned (.tuple #[v, .bool b]) ∧ w'.ownsRow w.heap.size 9 1 v xs.length (xs.flatMap encS) ∧ Below w.heap.size w w'


set_option maxHeartbeats 4000000 in
theorem specCtOf_any (v : Value) (xs : List DTitle) (wd : Int) (w : World) (h : SRow 3 encTitle w v xs) (hx : ∀ x ∈ xs, x.f0.length ≤ 1048576) (hl : xs.length ≤ 1048576) : Calls Tryz.prog 6 #[v, .int .i64 wd] w (OwnStrB (ctR xs wd) (ctOk xs wd) w) := by
  obtain ⟨i0, hi, hz0, hz1, hz2⟩ := info_parts info_string
  obtain ⟨a, ca, rfl, _, h3⟩ := h
  obtain ⟨n, hn⟩ : ∃ n, n = xs.length := ⟨_, rfl⟩
  have H3 := Lib.hid h3
  have HX := Lib.hid hx
  rw [← hn] at hl ⊢
  have HN := Lib.hid hn
  have LN := Lib.hid (fun (x : DTitle) (hx : x.f0.length ≤ 1048576) w => specLine_any x.f0 x.f1 x.f2 wd (by omega) w)
  clear h3 hn hx
  go_enter Tryz.func6, Tryz.ntmps6
  go_wp2
  have B0 := Lib.hid ((Below.refl w.heap.size w).alloc (Nat.le_refl _) (.cells #[] 9))
  have O0 : Hid ((w.alloc (.cells #[] 9)).ownsRow w.heap.size 9 1 (.slice (some ⟨w.heap.size, 0, none⟩) 0 0) 0 (((xs.take 0).map fun x => ctTx x wd).flatMap encS)) := World.ownsRow_made w #[] 0 (Nat.le_refl _) (Nat.zero_le _) rfl
  go_loopw [6, 7] (fun o i wr => ∃ k : Nat, k ≤ n ∧ i = .int .i64 k ∧ Hid (∀ j (hj : j < xs.length), j < k → lnOk xs[j].f0 xs[j].f1 xs[j].f2 wd = true) ∧ Hid (wr.ownsRow w.heap.size 9 1 o k (((xs.take k).map fun x => ctTx x wd).flatMap encS)) ∧ Hid (Below w.heap.size w wr)) (fun _ i _ => n - (intOf i).toNat)
  case atStart => exact ⟨0, Nat.zero_le _, rfl, fun j _ h => absurd h (Nat.not_lt_zero _), O0.out, B0.out⟩
  case round =>
    obtain ⟨k, hk, rfl, hall, ho, hb⟩ := hrel
    clear O0 B0
    by_cases hlt : k < n
    · have hk' : k < xs.length := by rw [← HN.out]; exact hlt
      obtain ⟨b, off, rfl, hc⟩ := H3.out k hk'
      have hlx := HX.out xs[k] (List.getElem_mem hk')
      have ES := Lib.hid (take_map_succ xs wd k hk')
      have EB := Lib.hid (fun e => ctR_bad (wd := wd) k hk' e)
      have EA : Hid (lnOk xs[k].f0 xs[k].f1 xs[k].f2 wd = true → ∀ j (hj : j < xs.length), j < k + 1 → lnOk xs[j].f0 xs[j].f1 xs[j].f2 wd = true) := fun e j hj hjk => by
        by_cases hjk' : j < k
        · exact hall.out j hj hjk'
        · obtain rfl : j = k := by omega
          exact e
      obtain ⟨x, hx'⟩ : ∃ x, x = xs[k] := ⟨_, rfl⟩
      rw [← hx'] at hc hlx ES EB EA
      have hbl : b < w.heap.size := World.block_lt_of_cell? w _ (hc 0 _ rfl)
      have r : ∀ i u, (encTitle x)[i]? = some u → wr.cell? ⟨b, off + k * 3 + i, none⟩ = some u := fun i u hu => (hb.out.cell (p := ⟨b, off + k * 3 + i, none⟩) hbl).trans (hc i u hu)
      have c0 : wr.cell? ⟨b, off + k * 3, none⟩ = some (.string (bs x.f0)) := by simpa using r 0 _ rfl
      have c1 : wr.cell? ⟨b, off + k * 3 + 1, none⟩ = some (.int .i64 x.f1) := by simpa using r 1 _ rfl
      have c2 : wr.cell? ⟨b, off + k * 3 + 2, none⟩ = some (.int .i64 x.f2) := by simpa using r 2 _ rfl
      have CL := Lib.hid (LN.out x hlx wr)
      clear r hc hx' hall
      obtain ⟨V, hV⟩ : ∃ V, V = lnOk x.f0 x.f1 x.f2 wd := ⟨_, rfl⟩
      obtain ⟨T, hT⟩ : ∃ T, T = lnTxt x.f0 x.f1 x.f2 wd := ⟨_, rfl⟩
      have ET : Hid (ctTx x wd = bs T) := by show _ = _; rw [hT]; rfl
      rw [← hV, ← hT] at CL
      rw [← hV] at EB EA
      rw [ET.out] at ES
      clear hV hT ET
      cases V
      · obtain ⟨f1, f2⟩ := EB.out rfl
        rw [f1, f2]
        clear f1 f2 EB EA ES
        go_wp2_with (go_at_call 14; refine (CL.out).mono ?_)
        rintro e w1 ⟨rfl, b1⟩
        have B1 := Lib.hid (below_next hb.out b1 (Nat.le_refl _))
        have hws := B1.out.size
        clear b1 hb
        go_wp2
        go_ret2
        exact ⟨_, rfl, World.ownsRow_made w1 #[] 0 hws (Nat.zero_le _) rfl, B1.out.alloc hws _⟩
      · have EA' := Lib.hid (EA.out rfl)
        clear EB EA
        go_wp2_with (go_at_call 14; refine (CL.out).mono ?_)
        rintro e w1 ⟨rfl, b1⟩
        have B1 := Lib.hid (below_next hb.out b1 (Nat.le_refl _))
        have O1 := Lib.hid (owns_below ho.out b1)
        have hws := B1.out.size
        clear b1 hb ho c0 c1 c2
        go_wp2_with (at_builtin; refine wpList_append_own _ rfl _ _ 26 rfl w.heap.size 9 i0 (.string ByteArray.empty) 1 16 Tryz.underlying26 hi hz0 hz1 hz2 rfl (by decide) _ _ _ rfl (O1.out.alloc _) ⟨w1.heap.size, 0, none⟩ 1 1 [.string (bs T)] rfl rfl (by simpa using cells_new w1 [_] _) (by intro u hu; simp at hu; subst hu; rfl) (by unfold maxLen; omega) (by omega) (by simp; omega) ?_; intro v' w5 hown' hgrow _)
        have o2 : w5.ownsRow w.heap.size 9 1 v' (k + 1) (((xs.take (k + 1)).map fun x => ctTx x wd).flatMap encS) := by
          rw [ES.out]
          exact hown'
        have O2 := Lib.hid o2
        have bf := (B1.out.alloc hws (.cells #[.string (bs T)] 9)).grown hgrow (by simp; omega) (fun q hq => (O1.out.lt q hq).1)
        have BF := Lib.hid bf
        clear o2 bf hown' hgrow
        go_roundw
        case rel => exact ⟨k + 1, by omega, by go_num, EA'.out, O2.out, BF.out⟩
        case measure => simp [intOf]; omega
    · obtain rfl : k = n := by omega
      obtain ⟨f1, f2⟩ := ctR_ok (wd := wd) (xs := xs) (fun j hj => hall.out j hj (by rw [HN.out]; exact hj))
      have F1 := Lib.hid f1
      have F2 := Lib.hid f2
      have O := ho.out
      rw [List.take_of_length_le (by rw [← HN.out]; exact Nat.le_refl _)] at O
      have e : (xs.map fun x => ctTx x wd).length = k := by rw [List.length_map, ← HN.out]
      rw [← e] at O
      have OO := Lib.hid O
      clear f1 f2 O e ho hall
      go_wp2
      go_ret2
      exact ⟨u6, by rw [F1.out]; first | done | rfl, by rw [F2.out]; exact OO.out, hb.out⟩

set_option maxHeartbeats 4000000 in
theorem implCtOf_any (v : Value) (xs : List DTitle) (wd : Int) (w : World) (h : SRow 3 encTitle w v xs) (hx : ∀ x ∈ xs, x.f0.length ≤ 1048576) (hl : xs.length ≤ 1048576) (hm : CtTab w) : Calls Tryz.prog 5 #[v, .int .i64 wd] w (OwnStrB (ctR xs wd) (ctOk xs wd) w) := by
  obtain ⟨i0, hi, hz0, hz1, hz2⟩ := info_parts info_string
  obtain ⟨a, ca, rfl, _, h3⟩ := h
  obtain ⟨n, hn⟩ : ∃ n, n = xs.length := ⟨_, rfl⟩
  have H3 := Lib.hid h3
  have HX := Lib.hid hx
  rw [← hn] at hl ⊢
  have HN := Lib.hid hn
  have LN := Lib.hid (fun (x : DTitle) (hx : x.f0.length ≤ 1048576) w h => implLine_any x.f0 x.f1 x.f2 wd (by omega) w h)
  have HM := Lib.hid hm
  clear h3 hn hx hm
  go_enter Tryz.func5, Tryz.ntmps5
  go_wp2
  have B0 := Lib.hid (Below.refl w.heap.size w)
  have O0 : Hid (w.ownsRow w.heap.size 9 1 (.slice none 0 0) 0 (((xs.take 0).map fun x => ctTx x wd).flatMap encS)) := World.ownsRow_nil _ _ _ _
  go_loopw [6, 13] (fun o i wr => ∃ k : Nat, k ≤ n ∧ i = .int .i64 k ∧ Hid (∀ j (hj : j < xs.length), j < k → lnOk xs[j].f0 xs[j].f1 xs[j].f2 wd = true) ∧ Hid (wr.ownsRow w.heap.size 9 1 o k (((xs.take k).map fun x => ctTx x wd).flatMap encS)) ∧ Hid (Below w.heap.size w wr)) (fun _ i _ => n - (intOf i).toNat)
  case atStart => exact ⟨0, Nat.zero_le _, rfl, fun j _ h => absurd h (Nat.not_lt_zero _), O0.out, B0.out⟩
  case round =>
    obtain ⟨k, hk, rfl, hall, ho, hb⟩ := hrel
    clear O0 B0
    by_cases hlt : k < n
    · have hk' : k < xs.length := by rw [← HN.out]; exact hlt
      obtain ⟨b, off, rfl, hc⟩ := H3.out k hk'
      have hlx := HX.out xs[k] (List.getElem_mem hk')
      have ES := Lib.hid (take_map_succ xs wd k hk')
      have EB := Lib.hid (fun e => ctR_bad (wd := wd) k hk' e)
      have EA : Hid (lnOk xs[k].f0 xs[k].f1 xs[k].f2 wd = true → ∀ j (hj : j < xs.length), j < k + 1 → lnOk xs[j].f0 xs[j].f1 xs[j].f2 wd = true) := fun e j hj hjk => by
        by_cases hjk' : j < k
        · exact hall.out j hj hjk'
        · obtain rfl : j = k := by omega
          exact e
      obtain ⟨x, hx'⟩ : ∃ x, x = xs[k] := ⟨_, rfl⟩
      rw [← hx'] at hc hlx ES EB EA
      have hbl : b < w.heap.size := World.block_lt_of_cell? w _ (hc 0 _ rfl)
      have r : ∀ i u, (encTitle x)[i]? = some u → wr.cell? ⟨b, off + k * 3 + i, none⟩ = some u := fun i u hu => (hb.out.cell (p := ⟨b, off + k * 3 + i, none⟩) hbl).trans (hc i u hu)
      have c0 : wr.cell? ⟨b, off + k * 3, none⟩ = some (.string (bs x.f0)) := by simpa using r 0 _ rfl
      have c1 : wr.cell? ⟨b, off + k * 3 + 1, none⟩ = some (.int .i64 x.f1) := by simpa using r 1 _ rfl
      have c2 : wr.cell? ⟨b, off + k * 3 + 2, none⟩ = some (.int .i64 x.f2) := by simpa using r 2 _ rfl
      have CL := Lib.hid (LN.out x hlx (wr.alloc (.cells #[.string (bs x.f0), .int .i64 x.f1, .int .i64 x.f2] 32)) (HM.out.below (hb.out.alloc hb.out.size _) (Nat.le_refl _)))
      clear r hc hx' hall
      obtain ⟨V, hV⟩ : ∃ V, V = lnOk x.f0 x.f1 x.f2 wd := ⟨_, rfl⟩
      obtain ⟨T, hT⟩ : ∃ T, T = lnTxt x.f0 x.f1 x.f2 wd := ⟨_, rfl⟩
      have ET : Hid (ctTx x wd = bs T) := by show _ = _; rw [hT]; rfl
      rw [← hV, ← hT] at CL
      rw [← hV] at EB EA
      rw [ET.out] at ES
      clear hV hT ET
      cases V
      · obtain ⟨f1, f2⟩ := EB.out rfl
        rw [f1, f2]
        clear f1 f2 EB EA ES
        go_wp2_with (go_at_call 13; refine (CL.out).mono ?_)
        rintro e w1 ⟨rfl, b1⟩
        have B1 := Lib.hid (below_next (hb.out.alloc hb.out.size (.cells #[.string (bs x.f0), .int .i64 x.f1, .int .i64 x.f2] 32)) b1 (Nat.le_refl _))
        have hws := B1.out.size
        clear b1 hb
        go_wp2
        go_ret2
        exact ⟨_, rfl, World.ownsRow_nil _ _ _ _, B1.out⟩
      · have EA' := Lib.hid (EA.out rfl)
        clear EB EA
        go_wp2_with (go_at_call 13; refine (CL.out).mono ?_)
        rintro e w1 ⟨rfl, b1⟩
        have B1 := Lib.hid (below_next (hb.out.alloc hb.out.size (.cells #[.string (bs x.f0), .int .i64 x.f1, .int .i64 x.f2] 32)) b1 (Nat.le_refl _))
        have O1 := Lib.hid (owns_below (ho.out.alloc (.cells #[.string (bs x.f0), .int .i64 x.f1, .int .i64 x.f2] 32)) b1)
        have hws := B1.out.size
        clear b1 hb ho c0 c1 c2
        go_wp2_with (at_builtin; refine wpList_append_own _ rfl _ _ 26 rfl w.heap.size 9 i0 (.string ByteArray.empty) 1 16 Tryz.underlying26 hi hz0 hz1 hz2 rfl (by decide) _ _ _ rfl (O1.out.alloc _) ⟨w1.heap.size, 0, none⟩ 1 1 [.string (bs T)] rfl rfl (by simpa using cells_new w1 [_] _) (by intro u hu; simp at hu; subst hu; rfl) (by unfold maxLen; omega) (by omega) (by simp; omega) ?_; intro v' w5 hown' hgrow _)
        have o2 : w5.ownsRow w.heap.size 9 1 v' (k + 1) (((xs.take (k + 1)).map fun x => ctTx x wd).flatMap encS) := by
          rw [ES.out]
          exact hown'
        have O2 := Lib.hid o2
        have bf := (B1.out.alloc hws (.cells #[.string (bs T)] 9)).grown hgrow (by simp; omega) (fun q hq => (O1.out.lt q hq).1)
        have BF := Lib.hid bf
        clear o2 bf hown' hgrow
        go_roundw
        case rel => exact ⟨k + 1, by omega, by go_num, EA'.out, O2.out, BF.out⟩
        case measure => simp [intOf]; omega
    · obtain rfl : k = n := by omega
      obtain ⟨f1, f2⟩ := ctR_ok (wd := wd) (xs := xs) (fun j hj => hall.out j hj (by rw [HN.out]; exact hj))
      have F1 := Lib.hid f1
      have F2 := Lib.hid f2
      have O := ho.out
      rw [List.take_of_length_le (by rw [← HN.out]; exact Nat.le_refl _)] at O
      have e : (xs.map fun x => ctTx x wd).length = k := by rw [List.length_map, ← HN.out]
      rw [← e] at O
      have OO := Lib.hid O
      clear f1 f2 O e ho hall
      go_wp2
      go_ret2
      exact ⟨u6, by rw [F1.out]; first | done | rfl, by rw [F2.out]; exact OO.out, hb.out⟩

end Go.Proofs.YtfallcoehmmbeaaGreatDoor

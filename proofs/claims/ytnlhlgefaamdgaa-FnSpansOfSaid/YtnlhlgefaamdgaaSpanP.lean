/-
  PROVED HERE: the pages of ranges: what the program and the reference return. Conditions: each theorem's own.
-/
import Derived.Test.YtnlhlgefaamdgaaSpanV
import Derived.Test.YtnlhlgefaamdgaaCore
import Derived.Deep.Onto
import Derived.Test.YtnlhlgefaamdgaaMine
set_option linter.unusedVariables false
set_option linter.unusedSimpArgs false
namespace Go.Proofs.Ytnlhlgefaamdgaa
open Go.RowKit

theorem info_int : (Try.prog.info? 3).map (fun i => (i.zero, i.size, i.bytes)) = some (some (.int .i64 0), 1, 8) := by kernel_rfl
/-- How many pages of a range are at most many. -/
def spN (many : Int) (x : DSpan) : Nat := (min x.f1 many + 1 - x.f0).toNat
def spP (many : Int) (xs : List DSpan) : List Int := xs.flatMap fun x => iota x.f0 (spN many x)
def spPages (many : Int) (xs : List DSpan) : List Int := if spB xs = true then spP many xs else []

theorem spFrom_mem : ∀ (p : Int) (xs : List DSpan), spFrom p xs = true → ∀ x ∈ xs, 1 ≤ x.f0 ∧ x.f0 ≤ x.f1 ∧ x.f1 ≤ 999
  | _, [], _, x, hx => by cases hx
  | p, y :: t, h, x, hx => by
    rw [spFrom, Bool.and_eq_true, Bool.and_eq_true] at h
    rcases List.mem_cons.1 hx with rfl | hx
    · exact spOk_true h.1
    · exact spFrom_mem _ t h.2.2 x hx
theorem spB_true {xs : List DSpan} (h : spB xs = true) : xs.length ≤ 10 ∧ ∀ x ∈ xs, 1 ≤ x.f0 ∧ x.f0 ≤ x.f1 ∧ x.f1 ≤ 999 := by
  unfold spB at h
  rw [Bool.and_eq_true] at h
  exact ⟨of_decide_eq_true h.2, spFrom_mem _ _ h.1⟩
theorem spP_len (many : Int) : ∀ (xs : List DSpan), (∀ x ∈ xs, 1 ≤ x.f0 ∧ x.f0 ≤ x.f1 ∧ x.f1 ≤ 999) → (spP many xs).length ≤ 999 * xs.length
  | [], _ => by simp [spP]
  | x :: t, h => by
    have ih := spP_len many t (fun y hy => h y (List.mem_cons_of_mem _ hy))
    have := h x List.mem_cons_self
    unfold spP at ih ⊢
    have hN : spN many x ≤ 999 := by unfold spN; omega
    rw [List.flatMap_cons, List.length_append, iota_length, List.length_cons]
    omega
theorem spPages_len (many : Int) (xs : List DSpan) : (spPages many xs).length ≤ 9990 := by
  unfold spPages
  split
  · rename_i h
    have := spP_len many xs (spB_true h).2
    have := (spB_true h).1
    omega
  · simp
theorem spP_snoc (many : Int) (xs : List DSpan) (k : Nat) (h : k < xs.length) : spP many (xs.take (k + 1)) = spP many (xs.take k) ++ iota xs[k].f0 (spN many xs[k]) := by
  unfold spP
  rw [List.take_succ_eq_append_getElem h, List.flatMap_append]
  simp

/-- It returns a row of its own with these numbers. -/
def PagesPost (xs : List Int) (w : World) (e : Ending) (w' : World) : Prop := ∃ v, e = .returned v ∧ w'.ownsRow w.heap.size 3 1 v xs.length (xs.map (Value.int .i64)) ∧ Below w.heap.size w w'

set_option maxHeartbeats 4000000 in
theorem implSpanPages_any (v : Value) (xs : List DSpan) (many : Int) (w : World) (h : SRow 2 encSpan w v xs) : Calls Try.prog 16 #[v, .int .i64 many] w (PagesPost (spPages many xs) w) := by
  have H := Lib.hid h
  obtain ⟨i0, hi, hz0, hz1, hz2⟩ := info_parts info_int
  clear h
  go_enter Try.func16, Try.ntmps16
  go_wp2_with fail
  refine (implSpansValid_any v xs w H.out).mono ?_
  rintro e w1 ⟨rfl, b1⟩
  have B1 := Lib.hid b1
  have hs1 : SRow 2 encSpan w1 v xs := H.out.below b1
  have hws : w.heap.size ≤ w1.heap.size := b1.size
  clear b1
  cases hv : spB xs
  · have E : Hid (spPages many xs = []) := by show _ = _; unfold spPages; rw [hv]; rfl
    clear hv hs1 H
    go_wp2
    go_ret
    exact ⟨_, rfl, by rw [E.out]; exact World.ownsRow_nil _ _ _ _, B1.out⟩
  · have E : Hid (spPages many xs = spP many xs) := by show _ = _; unfold spPages; rw [hv]; rfl
    obtain ⟨hx10, hxb⟩ := spB_true hv
    clear hv
    by_cases h0 : xs.length = 0
    · obtain rfl : xs = [] := List.eq_nil_of_length_eq_zero h0
      obtain ⟨a, cap, rfl⟩ := hs1.empty
      have E2 : Hid (spPages many [] = []) := E.out
      clear h0 hs1 H hx10 hxb E
      go_wp2
      refine wp_loop_rounds 1 ?_
      rw [rounds_succ]
      go_wp2
      go_ret
      exact ⟨_, rfl, by rw [E2.out]; exact World.ownsRow_nil _ _ _ _, B1.out⟩
    · obtain ⟨b, off, cap, rfl, hbl1, hc⟩ := hs1.pos encSpan_pos (by omega)
      have hbl : b < w.heap.size := by
        obtain ⟨b', off', cap', e, hb', _⟩ := H.out.pos encSpan_pos (by omega)
        have e1 : b = b' := by injection e with e1 _ _; injection e1 with e1; injection e1
        rw [e1]; exact hb'
      have HC := Lib.hid hc
      have HXB := Lib.hid hxb
      obtain ⟨n, hn⟩ : ∃ n, n = xs.length := ⟨_, rfl⟩
      rw [← hn] at h0 hx10 ⊢
      have HN := Lib.hid hn
      clear hn hc hs1 H hxb
      go_wp2
      go_loopw [5, 14] (fun v i wr => ∃ k L : Nat, k ≤ n ∧ i = .int .i64 k ∧ L ≤ 999 * k ∧ Hid (wr.ownsRow w.heap.size 3 1 v L ((spP many (xs.take k)).map (Value.int .i64))) ∧ Hid (Below w.heap.size w wr)) (fun _ i _ => n - (intOf i).toNat)
      case atStart => exact ⟨0, 0, Nat.zero_le _, rfl, by omega, World.ownsRow_nil _ _ _ _, B1.out⟩
      case round =>
        obtain ⟨k, L, hk, rfl, hL, ho, hb⟩ := hrel
        by_cases hlt : k < n
        · have hk' : k < xs.length := by rw [← HN.out]; exact hlt
          have q := HC.out k hk'
          obtain ⟨z1, z2, z3⟩ := HXB.out xs[k] (List.getElem_mem hk')
          have sn := spP_snoc many xs k hk'
          obtain ⟨z, hx⟩ : ∃ x, x = xs[k] := ⟨_, rfl⟩
          rw [← hx] at q z1 z2 z3 sn
          have hbr : b < wr.heap.size := by have := hb.out.size; omega
          have r : ∀ i u, (encSpan z)[i]? = some u → wr.cell? ⟨b, off + k * 2 + i, none⟩ = some u := fun i u hu => by
            have e := q i u hu
            have h3 : w.cell? ⟨b, off + k * 2 + i, none⟩ = some u := (B1.out.cell (p := ⟨b, off + k * 2 + i, none⟩) hbl).symm.trans e
            exact (hb.out.cell (p := ⟨b, off + k * 2 + i, none⟩) hbl).trans h3
          obtain ⟨f, t⟩ := z
          simp only at z1 z2 z3 sn
          have c0 : wr.cell? ⟨b, off + k * 2, none⟩ = some (.int .i64 f) := by simpa using r 0 _ rfl
          have c1 : wr.cell? ⟨b, off + k * 2 + 1, none⟩ = some (.int .i64 t) := by simpa using r 1 _ rfl
          obtain ⟨c, hc⟩ : ∃ c, c = spN many ⟨f, t⟩ := ⟨_, rfl⟩
          rw [← hc] at sn
          have hcv : c = (min t many + 1 - f).toNat := by rw [hc]; rfl
          have SN := Lib.hid sn
          have HCV := Lib.hid hcv
          clear q r hx sn hc hcv
          go_wp2
          obtain ⟨wo, rfl⟩ : ∃ wo : World, wo = wr := ⟨_, rfl⟩
          obtain ⟨D, hD⟩ : ∃ D, D = wo.heap.size := ⟨_, rfl⟩
          have cD0 : (wo.alloc (.cells #[.int .i64 f, .int .i64 t] 40)).cell? ⟨D, 0, none⟩ = some (.int .i64 f) := by rw [hD, World.cell?_alloc_at _ _ _ _ rfl]; rfl
          have cD1 : (wo.alloc (.cells #[.int .i64 f, .int .i64 t] 40)).cell? ⟨D, 1, none⟩ = some (.int .i64 t) := by rw [hD, World.cell?_alloc_at _ _ _ _ rfl]; rfl
          have oW := ho.out.alloc (.cells #[.int .i64 f, .int .i64 t] 40)
          have bW := hb.out.alloc hb.out.size (.cells #[.int .i64 f, .int .i64 t] 40)
          have hapW : some D ≠ u5.ownBlock := by rw [hD]; exact fun e => by have := (ho.out.lt _ e.symm).2; omega
          have hDs : D < (wo.alloc (.cells #[.int .i64 f, .int .i64 t] 40)).heap.size := by rw [hD]; simp
          have CD0 := Lib.hid cD0
          have CD1 := Lib.hid cD1
          have OW := Lib.hid oW
          have BW := Lib.hid bW
          have APW := Lib.hid hapW
          rw [← hD]
          clear cD0 cD1 oW bW hapW ho hb hD c0 c1
          go_loopw [5, 8] (fun v m wi => ∃ j : Nat, j ≤ c ∧ m = .int .i64 (f + j) ∧ Hid (wi.ownsRow w.heap.size 3 1 v (L + j) ((spP many (xs.take k) ++ iota f j).map (Value.int .i64))) ∧ Hid (some D ≠ v.ownBlock) ∧ Hid (wi.cell? ⟨D, 0, none⟩ = some (.int .i64 f) ∧ wi.cell? ⟨D, 1, none⟩ = some (.int .i64 t)) ∧ Hid (Below w.heap.size w wi) ∧ D < wi.heap.size) (fun _ m _ => (1000 - intOf m).toNat)
          case atStart => exact ⟨0, Nat.zero_le _, by simp, by show World.ownsRow _ _ _ _ _ _ _; rw [iota_zero, List.append_nil]; exact OW.out, APW.out, ⟨CD0.out, CD1.out⟩, BW.out, hDs⟩
          case round =>
            obtain ⟨j, hj, rfl, ho, hap, hcd, hb, hDr⟩ := hrel
            have cd0 := hcd.out.1
            have cd1 := hcd.out.2
            have hws2 := hb.out.size
            have hcv := HCV.out
            have hc999 : c ≤ 999 := by omega
            by_cases hjc : j < c
            · by_cases hm : t < many
              all_goals
                go_wp2_with (at_builtin; refine append_mine _ rfl _ _ 22 rfl w.heap.size 3 i0 (.int .i64 0) 1 8 Try.underlying22 hi hz0 hz1 hz2 rfl (by decide) _ _ _ rfl (ho.out.alloc _) ⟨wr.heap.size, 0, none⟩ 1 1 [.int .i64 (f + j)] rfl rfl (by simpa using cells_new wr [_] _) (by intro u hu; simp at hu; subst hu; rfl) (by unfold maxLen; omega) (by omega) (by simp; omega) ?_; intro v' w5 hown' hgrow hmv)
                have bf := (hb.out.alloc hws2 (.cells #[.int .i64 (f + j)] 3)).grown hgrow (by simp; omega) (fun j hj => (ho.out.lt j hj).1)
                have k0 : w5.cell? ⟨D, 0, none⟩ = some (.int .i64 f) := hgrow.cell ((World.cell?_alloc_past _ _ _ (by simpa using hDr)).trans cd0) hap.out
                have k1 : w5.cell? ⟨D, 1, none⟩ = some (.int .i64 t) := hgrow.cell ((World.cell?_alloc_past _ _ _ (by simpa using hDr)).trans cd1) hap.out
                have hap2 : some D ≠ v'.ownBlock := hmv.apart hap.out (by simp; omega)
                have gs := hgrow.size
                simp at gs
                have K0 := Lib.hid k0
                have K1 := Lib.hid k1
                clear cd0 cd1 k0 k1 hcv hmv
                go_roundw
                case rel => exact ⟨j + 1, by omega, by go_num, by show World.ownsRow _ _ _ _ _ _ _; rw [iota_succ, ← List.append_assoc, List.map_append]; exact hown', hap2, ⟨K0.out, K1.out⟩, bf, by omega⟩
                case measure => simp [intOf]; omega
            · obtain rfl : j = c := by omega
              have fin : wr.ownsRow w.heap.size 3 1 u5 (L + j) ((spP many (xs.take (k + 1))).map (Value.int .i64)) := by rw [SN.out]; exact ho.out
              have FIN := Lib.hid fin
              by_cases hm : t < many
              all_goals
                clear fin ho
                go_wp2
                go_roundw
                case rel => exact ⟨k + 1, L + j, by omega, by go_num, by omega, FIN.out, hb.out⟩
                case measure => simp [intOf]; omega
        · have hkn : k = n := by omega
          have e : spPages many xs = spP many (xs.take k) := by rw [E.out, List.take_of_length_le (by have := HN.out; omega)]
          have hLe : (spP many (xs.take k)).length = L := by have := ho.out.1; simpa using this
          have E2 := Lib.hid e
          have HLE := Lib.hid hLe
          clear e hLe hkn HC HXB
          go_wp2
          go_ret
          exact ⟨_, rfl, by rw [E2.out, HLE.out]; exact ho.out, hb.out⟩
end Go.Proofs.Ytnlhlgefaamdgaa

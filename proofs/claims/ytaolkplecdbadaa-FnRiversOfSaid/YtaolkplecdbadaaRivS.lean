/-
  PROVED HERE: rivers: what the reference returns. Conditions: each theorem's own.
-/
import Derived.Test.YtaolkplecdbadaaRivL
import Derived.Test.YtaolkplecdbadaaIn
import Derived.Test.YtaolkplecdbadaaMine
namespace Go.Proofs.Ytaolkplecdbadaa
open Go.RowKit

theorem space_any (s : ByteArray) (c : Nat) (w : World) (hs : s.size ≤ 9223372036854775807) (hc : c ≤ 100) : Calls Try.prog 55 #[.string s, .int .i64 c] w fun e w' => e = .returned (.bool (decide (0 < c) && chrB s c)) ∧ w = w' := by
  by_cases h0 : 0 < c
  · by_cases h1 : c + 1 < s.size
    · have hlt : c < s.size := by omega
      have E : Hid ((decide (0 < c) && chrB s c) = ((s[c].toNat : Int) == 32)) := by
        show _ = _
        unfold chrB
        rw [decide_eq_true h0, dif_pos h1]
        rfl
      go_enter Try.func55, Try.ntmps55
      go_wp2
      go_ret
      exact ⟨by rw [E.out]; rfl, rfl⟩
    · have E : Hid (chrB s c = false) := by
        show _ = _
        unfold chrB
        rw [dif_neg h1]
      go_enter Try.func55, Try.ntmps55
      go_wp2
      go_ret
      exact ⟨by rw [E.out]; rfl, rfl⟩
  · obtain rfl : c = 0 := by omega
    go_enter Try.func55, Try.ntmps55
    go_wp2
    go_ret
    exact ⟨rfl, rfl⟩

/-- It returns a row of its own with these rivers. -/
def RivPost (xs : List DRiver) (w : World) (e : Ending) (w' : World) : Prop := ∃ v, e = .returned v ∧ w'.ownsRow w.heap.size 50 3 v xs.length (xs.flatMap encRiver) ∧ Below w.heap.size w w'

def flS (xs : List ByteArray) (c k : Nat) : Bool := decide (0 < c) && flowB xs c k
def colS (xs : List ByteArray) (least : Int) (c : Nat) : List DRiver := rv (flS xs c) c least xs.length (xs.length + 1) 0 0
theorem colS_next (xs : List ByteArray) (least : Int) (hl : 2 ≤ least) (c : Nat) : rvTo xs least (c - 1) ++ colS xs least c = rvTo xs least (c + 1 - 1) := by
  cases c with
  | zero =>
    have e : colS xs least 0 = [] := by
      have : flS xs 0 = fun _ => false := by funext k; rfl
      unfold colS
      rw [this, rv_zero _ _ _ hl]
    rw [e]
    simp [rvTo]
  | succ c =>
    have e : colS xs least (c + 1) = rvCol xs least (c + 1) := by
      have : flS xs (c + 1) = flowB xs (c + 1) := by funext k; unfold flS; simp
      unfold colS rvCol
      rw [this]
    rw [e]
    show rvTo xs least c ++ _ = rvTo xs least (c + 1)
    rw [rvTo_succ]
theorem flS_in (xs : List ByteArray) (c k : Nat) (h : k < xs.length) : flS xs c k = (decide (0 < c) && chrB xs[k] c) := by
  unfold flS flowB
  rw [dif_pos h]
theorem flS_out (xs : List ByteArray) (c k : Nat) (h : xs.length ≤ k) : flS xs c k = false := by
  unfold flS
  rw [flow_out xs c k h, Bool.and_false]
theorem rvAll_no {xs : List ByteArray} {least : Int} (h : rvOk xs least = false) : rvAll xs least = [] := by unfold rvAll; rw [h]; rfl
theorem rvOk_no {xs : List ByteArray} {least : Int} (h : 60 < xs.length ∨ least < 2 ∨ ∃ k, ∃ h : k < xs.length, 60 < xs[k].size) : rvOk xs least = false := by
  cases e : rvOk xs least with
  | false => rfl
  | true =>
    obtain ⟨h1, h2, h3⟩ := rvOk_true e
    rcases h with h | h | ⟨k, hk, h⟩
    · omega
    · omega
    · have := h3 xs[k] (List.getElem_mem hk)
      omega

set_option maxRecDepth 100000 in
set_option maxHeartbeats 8000000 in
theorem specRivers_any (v : Value) (xs : List ByteArray) (least : Int) (w : World) (h : SRow 1 encS w v xs) (hx : Short xs) (hl1 : -9223372036854775808 ≤ least) (hl2 : least ≤ 9223372036854775807) :
    Calls Try.prog 33 #[v, .int .i64 least] w (RivPost (rvAll xs least) w) := by
  have B0 := Lib.hid ((Below.refl w.heap.size w).alloc (Nat.le_refl _) (.cells #[] 50))
  have O0 := Lib.hid (World.ownsRow_made (base := w.heap.size) (e := 50) (size := 3) w #[] 0 (Nat.le_refl _) (Nat.zero_le _) rfl)
  obtain ⟨i0, hi, hz0, hz1, hz2⟩ := info_parts info_River
  have hsz := h.len
  obtain ⟨va, vc, rfl⟩ : ∃ va vc, v = .slice va xs.length vc := by obtain ⟨a, c, e, _⟩ := h; exact ⟨a, c, e⟩
  have hidx : ∀ j (hj : j < xs.length), ∃ b off, va = some ⟨b, off, none⟩ ∧ b < w.heap.size ∧ w.cell? ⟨b, off + j, none⟩ = some (.string xs[j]) := by
    obtain ⟨a, c, e, _, hc⟩ := h
    injection e with e1
    subst e1
    intro j hj
    obtain ⟨b, off, e1, e2⟩ := hc j hj
    have e3 := e2 0 _ rfl
    rw [Nat.mul_one, Nat.add_zero] at e3
    exact ⟨b, off, e1, World.block_lt_of_cell? w _ e3, e3⟩
  obtain ⟨n, hn⟩ : ∃ n, n = xs.length := ⟨_, rfl⟩
  have HI := Lib.hid hidx
  have HX := Lib.hid hx
  rw [← hn] at hsz ⊢
  have HN := Lib.hid hn
  clear hn hidx h hx
  go_enter Try.func33, Try.ntmps33
  go_wp2
  go_loopw [6] (fun i wr => ∃ k : Nat, k ≤ n ∧ i = .int .i64 k ∧ (0 < k → n ≤ 60) ∧ Hid (∀ j (hj : j < xs.length), j < k → xs[j].size ≤ 60) ∧ Hid (wr = w.alloc (.cells #[] 50))) (fun i _ => n - (intOf i).toNat)
  case atStart => exact ⟨0, Nat.zero_le _, rfl, fun h => absurd h (Nat.lt_irrefl _), fun j _ h => absurd h (Nat.not_lt_zero _), rfl⟩
  case round =>
    obtain ⟨k, hk, rfl, hk60, hall, hwr⟩ := hrel
    have hb : Hid (Below w.heap.size w wr) := by show Below _ _ _; rw [hwr.out]; exact B0.out
    have hown : Hid (wr.ownsRow w.heap.size 50 3 (.slice (some ⟨w.heap.size, 0, none⟩) 0 0) 0 []) := by show World.ownsRow _ _ _ _ _ _ _; rw [hwr.out]; exact O0.out
    by_cases hlt : k < n
    · have hk' : k < xs.length := by rw [← HN.out]; exact hlt
      obtain ⟨b, off, rfl, hbl, hc⟩ := HI.out k hk'
      have hsx := HX.out xs[k] (List.getElem_mem hk')
      obtain ⟨s, hs⟩ : ∃ s, s = xs[k] := ⟨_, rfl⟩
      rw [← hs] at hc hsx
      have c0 : wr.cell? ⟨b, off + k, none⟩ = some (.string s) := (hb.out.cell (p := ⟨b, off + k, none⟩) hbl).trans hc
      have HS := Lib.hid hs
      clear hs hc
      by_cases h60 : s.size ≤ 60
      · by_cases hn60 : n ≤ 60
        · have hall2 : Hid (∀ j (hj : j < xs.length), j < k + 1 → xs[j].size ≤ 60) := by
            intro j hj hjk
            by_cases hj2 : j < k
            · exact hall.out j hj hj2
            · obtain rfl : j = k := by omega
              rw [← HS.out]; exact h60
          clear hall
          go_wp2
          go_roundw
          case rel => exact ⟨k + 1, by omega, by go_num, fun _ => hn60, hall2, hwr.out⟩
          case measure => simp [intOf]; omega
        · have E := Lib.hid (rvAll_no (rvOk_no (xs := xs) (least := least) (.inl (by have := HN.out; omega))))
          have hn60' : 60 < n := by omega
          clear hall hk60
          go_wp2
          go_ret
          exact ⟨_, rfl, by rw [E.out]; exact hown.out, hb.out⟩
      · have E := Lib.hid (rvAll_no (rvOk_no (xs := xs) (least := least) (.inr (.inr ⟨k, hk', by rw [← HS.out]; omega⟩))))
        have h60' : 60 < s.size := by omega
        clear hall hk60
        go_wp2
        go_ret
        exact ⟨_, rfl, by rw [E.out]; exact hown.out, hb.out⟩
    · have hkn : k = n := by omega
      have hall3 : Hid (∀ j (hj : j < xs.length), xs[j].size ≤ 60) := fun j hj => hall.out j hj (by have := HN.out; omega)
      have hn60 : n ≤ 60 := by
        by_cases h0 : 0 < k
        · exact hk60 h0
        · omega
      obtain ⟨wx, rfl⟩ : ∃ wx : World, wx = wr := ⟨_, rfl⟩
      have hge : n ≤ k := by omega
      clear hall hk60 hwr hkn hlt hk
      by_cases hle : 2 ≤ least
      · have hok : rvOk xs least = true := by
          unfold rvOk
          rw [Bool.and_eq_true, Bool.and_eq_true]
          refine ⟨decide_eq_true (by have := HN.out; omega), decide_eq_true hle, List.all_eq_true.2 fun s hs => ?_⟩
          obtain ⟨j, hj, rfl⟩ := List.getElem_of_mem hs
          exact decide_eq_true (hall3.out j hj)
        have E : Hid (rvAll xs least = rvTo xs least 59) := by show _ = _; unfold rvAll; rw [hok]; rfl
        have NEXT := Lib.hid (colS_next xs least hle)
        clear hok
        go_wp2
        rw [show decide (k < n) = false from decide_eq_false (by omega)]
        go_loopw [5, 7] (fun v ci wr => ∃ c L : Nat, c ≤ 60 ∧ ci = .int .i64 c ∧ L ≤ 61 * c ∧ Hid (wr.ownsRow w.heap.size 50 3 v L ((rvTo xs least (c - 1)).flatMap encRiver)) ∧ Hid (Below w.heap.size w wr)) (fun _ ci _ => 60 - (intOf ci).toNat)
        case atStart => exact ⟨0, 0, by omega, rfl, by omega, hown.out, hb.out⟩
        case round =>
          obtain ⟨c, L, hc, rfl, hL, ho, hbw⟩ := hrel
          by_cases hc60 : c < 60
          · have nx := NEXT.out c
            obtain ⟨TC, hTC⟩ : ∃ TC, TC = rvTo xs least (c - 1) := ⟨_, rfl⟩
            rw [← hTC] at nx ho
            have NX := Lib.hid nx
            clear nx hTC
            go_wp2
            obtain ⟨wo, rfl⟩ : ∃ wo : World, wo = wr := ⟨_, rfl⟩
            go_loopw [5, 8, 9] (fun v lg ki wr => ∃ (k g P : Nat) (PL : List DRiver), k ≤ n + 1 ∧ g ≤ k ∧ ki = .int .i64 k ∧ lg = .int .i64 g ∧ P ≤ k ∧ Hid (colS xs least c = PL ++ rv (flS xs c) c least n (n + 1 - k) k (k - g)) ∧ Hid (wr.ownsRow w.heap.size 50 3 v (L + P) ((TC ++ PL).flatMap encRiver)) ∧ Hid (Below w.heap.size w wr)) (fun _ _ ki _ => n + 1 - (intOf ki).toNat)
            case atStart => exact ⟨0, 0, 0, [], by omega, by omega, rfl, rfl, by omega, by show _ = _; unfold colS; rw [← HN.out]; rfl, by show World.ownsRow _ _ _ _ _ _ _; rw [List.append_nil]; exact ho.out, hbw.out⟩
            case round =>
              obtain ⟨k, g, P, PL, hk, hg, rfl, rfl, hP, hcol, how, hbi⟩ := hrel
              have hws := hbi.out.size
              by_cases hkn : k ≤ n
              · have hf1 : n + 1 - k = (n - k) + 1 := by omega
                obtain ⟨fl, hfl⟩ : ∃ fl, fl = flS xs c := ⟨_, rfl⟩
                have col := hcol.out
                rw [hf1, ← hfl] at col
                have HFL := Lib.hid hfl
                clear hfl hcol
                by_cases hkl : k < n
                · have hk' : k < xs.length := by rw [← HN.out]; exact hkl
                  obtain ⟨b, off, rfl, hbl, hc⟩ := HI.out k hk'
                  have hsx := hall3.out k hk'
                  have hfi : fl k = (decide (0 < c) && chrB xs[k] c) := by rw [HFL.out]; exact flS_in xs c k hk'
                  obtain ⟨s, hs⟩ : ∃ s, s = xs[k] := ⟨_, rfl⟩
                  rw [← hs] at hc hsx hfi
                  have c0 : wr.cell? ⟨b, off + k, none⟩ = some (.string s) := (hbi.out.cell (p := ⟨b, off + k, none⟩) hbl).trans hc
                  cases hq : fl k
                  · have hq2 : (decide (0 < c) && chrB s c) = false := by rw [← hfi]; exact hq
                    rw [rv_stop _ _ _ _ _ _ _ hkn hq] at col
                    have e1 : (k : Int) - ((k - g : Nat) : Int) = g := by omega
                    rw [e1] at col
                    have HQ := Lib.hid hq2
                    by_cases hg2 : least ≤ (g : Int)
                    · rw [if_pos hg2] at col
                      have COL := Lib.hid col
                      clear hs hc hfi hq hq2 col hf1
                      go_wp2_with (first | (go_at_call 55; refine (space_any s c _ (by omega) (by omega)).mono ?_; rintro e w' ⟨rfl, rfl⟩; rw [HQ.out]) | (at_builtin; refine append_mine _ rfl _ _ 47 rfl w.heap.size 50 i0 (.agg #[.int .i64 0, .int .i64 0, .int .i64 0]) 3 24 Try.underlying47 hi hz0 hz1 hz2 rfl (by decide) _ _ _ rfl (how.out.alloc _) ⟨wr.heap.size, 0, none⟩ 1 1 [.int .i64 c, .int .i64 (k - g), .int .i64 g] rfl rfl (by simpa using cells_new wr [_, _, _] _) (by intro u hu; simp at hu; rcases hu with rfl | rfl | rfl <;> rfl) (by unfold maxLen; omega) (by omega) (by simp; omega) ?_; intro v' w5 hown' hgrow hmv))
                      have bf := (hbi.out.alloc hws (.cells #[.int .i64 c, .int .i64 (k - g), .int .i64 g] 50)).grown hgrow (by simp; omega) (fun j hj => (how.out.lt j hj).1)
                      have own2 : w5.ownsRow w.heap.size 50 3 v' (L + (P + 1)) ((TC ++ (PL ++ [(⟨c, ((k - g : Nat) : Int), g⟩ : DRiver)])).flatMap encRiver) := by
                        rw [← List.append_assoc, List.flatMap_append, show ((k - g : Nat) : Int) = (k : Int) - g by omega]
                        exact hown'
                      have OWN2 := Lib.hid own2
                      clear hmv hown' own2
                      go_roundw
                      case rel => exact ⟨k + 1, 0, P + 1, PL ++ [(⟨c, ((k - g : Nat) : Int), g⟩ : DRiver)], by omega, by omega, by go_num, rfl, by omega, by show _ = _; rw [COL.out, ← HFL.out, show n + 1 - (k + 1) = n - k by omega, List.append_assoc]; rfl, OWN2.out, bf⟩
                      case measure => simp [intOf]; omega
                    · rw [if_neg hg2, List.nil_append] at col
                      have COL := Lib.hid col
                      have hg3 : (g : Int) < least := by omega
                      clear hs hc hfi hq hq2 col hf1 hg2
                      go_wp2_with (go_at_call 55; refine (space_any s c _ (by omega) (by omega)).mono ?_; rintro e w' ⟨rfl, rfl⟩; rw [HQ.out])
                      go_roundw
                      case rel => exact ⟨k + 1, 0, P, PL, by omega, by omega, by go_num, rfl, by omega, by show _ = _; rw [COL.out, ← HFL.out, show n + 1 - (k + 1) = n - k by omega]; rfl, how.out, hbi.out⟩
                      case measure => simp [intOf]; omega
                  · have hq2 : (decide (0 < c) && chrB s c) = true := by rw [← hfi]; exact hq
                    rw [rv_flow _ _ _ _ _ _ _ hkn hq] at col
                    have COL := Lib.hid col
                    have HQ := Lib.hid hq2
                    clear hs hc hfi hq hq2 col hf1
                    go_wp2_with (go_at_call 55; refine (space_any s c _ (by omega) (by omega)).mono ?_; rintro e w' ⟨rfl, rfl⟩; rw [HQ.out])
                    go_roundw
                    case rel => exact ⟨k + 1, g + 1, P, PL, by omega, by omega, by go_num, by go_num, by omega, by show _ = _; rw [COL.out, ← HFL.out, show n + 1 - (k + 1) = n - k by omega, show k + 1 - (g + 1) = k - g by omega], how.out, hbi.out⟩
                    case measure => simp [intOf]; omega
                · have hq : fl k = false := by rw [HFL.out]; exact flS_out xs c k (by have := HN.out; omega)
                  rw [rv_stop _ _ _ _ _ _ _ hkn hq] at col
                  have e1 : (k : Int) - ((k - g : Nat) : Int) = g := by omega
                  rw [e1] at col
                  by_cases hg2 : least ≤ (g : Int)
                  · rw [if_pos hg2] at col
                    have COL := Lib.hid col
                    clear hq col hf1
                    go_wp2_with (at_builtin; refine append_mine _ rfl _ _ 47 rfl w.heap.size 50 i0 (.agg #[.int .i64 0, .int .i64 0, .int .i64 0]) 3 24 Try.underlying47 hi hz0 hz1 hz2 rfl (by decide) _ _ _ rfl (how.out.alloc _) ⟨wr.heap.size, 0, none⟩ 1 1 [.int .i64 c, .int .i64 (k - g), .int .i64 g] rfl rfl (by simpa using cells_new wr [_, _, _] _) (by intro u hu; simp at hu; rcases hu with rfl | rfl | rfl <;> rfl) (by unfold maxLen; omega) (by omega) (by simp; omega) ?_; intro v' w5 hown' hgrow hmv)
                    have bf := (hbi.out.alloc hws (.cells #[.int .i64 c, .int .i64 (k - g), .int .i64 g] 50)).grown hgrow (by simp; omega) (fun j hj => (how.out.lt j hj).1)
                    have own2 : w5.ownsRow w.heap.size 50 3 v' (L + (P + 1)) ((TC ++ (PL ++ [(⟨c, ((k - g : Nat) : Int), g⟩ : DRiver)])).flatMap encRiver) := by
                      rw [← List.append_assoc, List.flatMap_append, show ((k - g : Nat) : Int) = (k : Int) - g by omega]
                      exact hown'
                    have OWN2 := Lib.hid own2
                    clear hmv hown' own2
                    go_roundw
                    case rel => exact ⟨k + 1, 0, P + 1, PL ++ [(⟨c, ((k - g : Nat) : Int), g⟩ : DRiver)], by omega, by omega, by go_num, rfl, by omega, by show _ = _; rw [COL.out, ← HFL.out, show n + 1 - (k + 1) = n - k by omega, List.append_assoc]; rfl, OWN2.out, bf⟩
                    case measure => simp [intOf]; omega
                  · rw [if_neg hg2, List.nil_append] at col
                    have COL := Lib.hid col
                    have hg3 : (g : Int) < least := by omega
                    clear hq col hf1 hg2
                    go_wp2
                    go_roundw
                    case rel => exact ⟨k + 1, 0, P, PL, by omega, by omega, by go_num, rfl, by omega, by show _ = _; rw [COL.out, ← HFL.out, show n + 1 - (k + 1) = n - k by omega]; rfl, how.out, hbi.out⟩
                    case measure => simp [intOf]; omega
              · have hkn2 : n < k := by omega
                have e := hcol.out
                rw [rv_out _ _ _ _ _ _ _ hkn2, List.append_nil] at e
                have HE := Lib.hid e
                clear e hcol
                go_wp2
                go_roundw
                case rel => exact ⟨c + 1, L + P, by omega, by go_num, by omega, by show World.ownsRow _ _ _ _ _ _ _; rw [← NX.out, HE.out]; exact how.out, hbi.out⟩
                case measure => simp [intOf]; omega
          · have hcc : c = 60 := by omega
            have e : rvAll xs least = rvTo xs least (c - 1) := by rw [E.out, hcc]
            have hLe : (rvTo xs least (c - 1)).length = L := by
              have := ho.out.1
              rw [flatMap_len encRiver 3 _ (fun x _ => encRiver_len x)] at this
              omega
            have E2 := Lib.hid e
            have HLE := Lib.hid hLe
            clear e hLe hcc
            go_wp2
            go_ret
            exact ⟨_, rfl, by rw [E2.out, HLE.out]; exact ho.out, hbw.out⟩
      · have E := Lib.hid (rvAll_no (rvOk_no (xs := xs) (least := least) (.inr (.inl (by omega)))))
        have hl : least < 2 := by omega
        clear hle
        go_wp2
        refine wp_loop_rounds 1 ?_
        rw [rounds_succ]
        go_wp2
        go_ret
        exact ⟨_, rfl, by rw [E.out]; exact hown.out, hb.out⟩
end Go.Proofs.Ytaolkplecdbadaa

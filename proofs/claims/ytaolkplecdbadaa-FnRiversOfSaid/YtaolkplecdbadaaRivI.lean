/-
  PROVED HERE: rivers: what the program returns. Conditions: each theorem's own.
-/
import Derived.Test.YtaolkplecdbadaaRivS
import Derived.Deep.Onto
namespace Go.Proofs.Ytaolkplecdbadaa
open Go.RowKit

set_option maxHeartbeats 2000000 in
theorem flows_any (b : Nat) (line c : Nat) (va : Option Addr) (vc : Nat) (xs : List ByteArray) (w : World) (hb : w.cell? ⟨b, 0, none⟩ = some (.slice va xs.length vc)) (h : SRow 1 encS w (.slice va xs.length vc) xs) (hx : ∀ j (hj : j < xs.length), xs[j].size ≤ 60) (hl : line ≤ 100) (hc : c ≤ 100) : Calls Try.prog 54 #[.int .i64 line, .int .i64 c, .pointer (some ⟨b, 0, none⟩)] w fun e w' => e = .returned (.bool (flowB xs c line)) ∧ w = w' := by
  have hsz := h.len
  have hidx : ∀ j (hj : j < xs.length), ∃ b off, va = some ⟨b, off, none⟩ ∧ w.cell? ⟨b, off + j, none⟩ = some (.string xs[j]) := by
    obtain ⟨a, c, e, _, hc⟩ := h
    injection e with e1
    subst e1
    intro j hj
    obtain ⟨b, off, e1, e2⟩ := hc j hj
    have e3 := e2 0 _ rfl
    rw [Nat.mul_one, Nat.add_zero] at e3
    exact ⟨b, off, e1, e3⟩
  clear h
  by_cases hlt : line < xs.length
  · obtain ⟨b2, off, rfl, c0⟩ := hidx line hlt
    have hs60 := hx line hlt
    have e : flowB xs c line = chrB xs[line] c := by unfold flowB; rw [dif_pos hlt]
    obtain ⟨s, hs⟩ : ∃ s, s = xs[line] := ⟨_, rfl⟩
    rw [← hs] at c0 hs60 e
    obtain ⟨n, hn⟩ : ∃ n, n = xs.length := ⟨_, rfl⟩
    rw [← hn] at hsz hlt hb
    clear hs hn hidx hx
    by_cases h1 : c + 1 < s.size
    · have hlt2 : c < s.size := by omega
      have E : Hid (flowB xs c line = ((s[c].toNat : Int) == 32)) := by
        show _ = _
        rw [e]
        unfold chrB
        rw [dif_pos h1]
      clear e
      go_enter Try.func54, Try.ntmps54
      go_wp2
      go_ret
      exact ⟨by rw [E.out]; rfl, rfl⟩
    · have E : Hid (flowB xs c line = false) := by
        show _ = _
        rw [e]
        unfold chrB
        rw [dif_neg h1]
      clear e
      go_enter Try.func54, Try.ntmps54
      go_wp2
      go_ret
      exact ⟨by rw [E.out]; rfl, rfl⟩
  · have E := Lib.hid (flow_out xs c line (by omega))
    obtain ⟨n, hn⟩ : ∃ n, n = xs.length := ⟨_, rfl⟩
    rw [← hn] at hsz hlt hb
    clear hn hidx hx
    go_enter Try.func54, Try.ntmps54
    go_wp2
    go_ret
    exact ⟨by rw [E.out]; rfl, rfl⟩

theorem col_next (xs : List ByteArray) (least : Int) (c : Nat) (h : 1 ≤ c) : rvTo xs least (c - 1) ++ rvCol xs least c = rvTo xs least (c + 1 - 1) := by
  obtain ⟨d, rfl⟩ : ∃ d, c = d + 1 := ⟨c - 1, by omega⟩
  show rvTo xs least d ++ _ = rvTo xs least (d + 1)
  rw [rvTo_succ]

set_option maxRecDepth 100000 in
set_option maxHeartbeats 8000000 in
theorem implRivers_any (v : Value) (xs : List ByteArray) (least : Int) (w : World) (h : SRow 1 encS w v xs) (hx : Short xs) (hl1 : -9223372036854775808 ≤ least) (hl2 : least ≤ 9223372036854775807) :
    Calls Try.prog 32 #[v, .int .i64 least] w (RivPost (rvAll xs least) w) := by
  have H := Lib.hid h
  obtain ⟨i0, hi, hz0, hz1, hz2⟩ := info_parts info_River
  have hsz := h.len
  obtain ⟨va, vc, rfl⟩ : ∃ va vc, v = .slice va xs.length vc := by obtain ⟨a, c, e, _⟩ := h; exact ⟨a, c, e⟩
  have hidx : ∀ j (hj : j < xs.length), ∃ b off, va = some ⟨b, off, none⟩ ∧ b < w.heap.size ∧ w.cell? ⟨b, off + j, none⟩ = some (.string xs[j]) := by
    obtain ⟨a, c, e, _, hc⟩ := h
    injection e with e1
    subst e1
    intro j hj
    obtain ⟨b, off, e1, e2⟩ := hc j hj
    have e3 := e2 0 _ rfl
    rw [Nat.mul_one, Nat.add_zero] at e3
    exact ⟨b, off, e1, World.block_lt_of_cell? w _ e3, e3⟩
  obtain ⟨n, hn⟩ : ∃ n, n = xs.length := ⟨_, rfl⟩
  have HI := Lib.hid hidx
  have HX := Lib.hid hx
  rw [← hn] at hsz H ⊢
  have HN := Lib.hid hn
  have BW0 := Lib.hid ((Below.refl w.heap.size w).alloc (Nat.le_refl _) (.cells #[.slice va n vc] 22))
  have cb : (w.alloc (.cells #[.slice va n vc] 22)).cell? ⟨w.heap.size, 0, none⟩ = some (.slice va n vc) := by rw [World.cell?_alloc_at _ _ _ _ rfl]; rfl
  have CB := Lib.hid cb
  have HWS : Hid ((w.alloc (.cells #[.slice va n vc] 22)).heap.size = w.heap.size + 1) := by show _ = _; simp
  clear hn hidx h hx cb
  by_cases hn60 : n ≤ 60
  · by_cases hle : 2 ≤ least
    · go_enter Try.func32, Try.ntmps32
      go_wp2
      obtain ⟨WB, hWB⟩ : ∃ WB, WB = w.alloc (.cells #[.slice va n vc] 22) := ⟨_, rfl⟩
      rw [← hWB] at BW0 CB HWS ⊢
      clear hWB
      go_loopw [21] (fun i wr => ∃ k : Nat, k ≤ n ∧ i = .int .i64 k ∧ Hid (∀ j (hj : j < xs.length), j < k → xs[j].size ≤ 60) ∧ Hid (wr = WB)) (fun i _ => n - (intOf i).toNat)
      case atStart => exact ⟨0, Nat.zero_le _, rfl, fun j _ h => absurd h (Nat.not_lt_zero _), rfl⟩
      case round =>
        obtain ⟨k, hk, rfl, hall, hwr⟩ := hrel
        have hwr2 := hwr.out
        subst hwr2
        by_cases hlt : k < n
        · have hk' : k < xs.length := by rw [← HN.out]; exact hlt
          obtain ⟨b, off, rfl, hbl, hc⟩ := HI.out k hk'
          have hsx := HX.out xs[k] (List.getElem_mem hk')
          obtain ⟨s, hs⟩ : ∃ s, s = xs[k] := ⟨_, rfl⟩
          rw [← hs] at hc hsx
          have c0 : wr.cell? ⟨b, off + k, none⟩ = some (.string s) := (BW0.out.cell (p := ⟨b, off + k, none⟩) hbl).trans hc
          have HS := Lib.hid hs
          clear hs hc hwr
          by_cases h60 : s.size ≤ 60
          · have hall2 : Hid (∀ j (hj : j < xs.length), j < k + 1 → xs[j].size ≤ 60) := by
              intro j hj hjk
              by_cases hj2 : j < k
              · exact hall.out j hj hj2
              · obtain rfl : j = k := by omega
                rw [← HS.out]; exact h60
            clear hall
            go_wp2
            go_roundw
            case rel => exact ⟨k + 1, by omega, by go_num, hall2, by first | exact rfl | exact Lib.hid trivial⟩
            case measure => simp [intOf]; omega
          · have E := Lib.hid (rvAll_no (rvOk_no (xs := xs) (least := least) (.inr (.inr ⟨k, hk', by rw [← HS.out]; omega⟩))))
            have h60' : 60 < s.size := by omega
            clear hall
            go_wp2
            go_ret
            exact ⟨_, rfl, by rw [E.out]; exact World.ownsRow_nil _ _ _ _, BW0.out⟩
        · have hkn : k = n := by omega
          have hall3 : Hid (∀ j (hj : j < xs.length), xs[j].size ≤ 60) := fun j hj => hall.out j hj (by have := HN.out; omega)
          have hge : n ≤ k := by omega
          have E : Hid (rvAll xs least = rvTo xs least 59) := by
            show _ = _
            have hok : rvOk xs least = true := by
              unfold rvOk
              rw [Bool.and_eq_true, Bool.and_eq_true]
              refine ⟨decide_eq_true (by have := HN.out; omega), decide_eq_true hle, List.all_eq_true.2 fun s hs => ?_⟩
              obtain ⟨j, hj, rfl⟩ := List.getElem_of_mem hs
              exact decide_eq_true (hall3.out j hj)
            unfold rvAll; rw [hok]; rfl
          obtain ⟨WX, rfl⟩ : ∃ WX : World, WX = wr := ⟨_, rfl⟩
          clear hall hwr hkn hlt hk
          go_wp2
          try rw [show decide (k < n) = false from decide_eq_false (by omega)]
          go_loopw [8, 9] (fun v ci wr => ∃ c L : Nat, 1 ≤ c ∧ c ≤ 60 ∧ ci = .int .i64 c ∧ L ≤ 61 * c ∧ Hid (wr.ownsRow (w.heap.size + 1) 50 3 v L ((rvTo xs least (c - 1)).flatMap encRiver)) ∧ Hid (Below (w.heap.size + 1) WX wr)) (fun _ ci _ => 60 - (intOf ci).toNat)
          case atStart => exact ⟨1, 0, by omega, by omega, rfl, by omega, World.ownsRow_nil _ _ _ _, Below.refl _ _⟩
          case round =>
            obtain ⟨c, L, hc1, hc, rfl, hL, ho, hb⟩ := hrel
            by_cases hc60 : c < 60
            · have nx := col_next xs least c hc1
              obtain ⟨TC, hTC⟩ : ∃ TC, TC = rvTo xs least (c - 1) := ⟨_, rfl⟩
              rw [← hTC] at nx ho
              have NX := Lib.hid nx
              clear nx hTC
              have cbx : wr.cell? ⟨w.heap.size, 0, none⟩ = some (.slice va n vc) := (hb.out.cell (p := ⟨w.heap.size, 0, none⟩) (Nat.lt_succ_self _)).trans CB.out
              go_wp2
              try rw [show decide ((c : Int) < 60) = true from decide_eq_true (by omega)]
              clear cbx
              go_loopw [8, 10] (fun v ki wr => ∃ (k P : Nat) (PL : List DRiver), k ≤ n + 1 ∧ ki = .int .i64 k ∧ P ≤ k ∧ Hid (rvCol xs least c = PL ++ rv (flowB xs c) c least n (n + 1 - k) k k) ∧ Hid (wr.ownsRow (w.heap.size + 1) 50 3 v (L + P) ((TC ++ PL).flatMap encRiver)) ∧ Hid (Below (w.heap.size + 1) WX wr)) (fun _ ki _ => n + 1 - (intOf ki).toNat)
              case atStart => exact ⟨0, 0, [], by omega, rfl, by omega, by show _ = _; unfold rvCol; rw [← HN.out]; rfl, by show World.ownsRow _ _ _ _ _ _ _; rw [List.append_nil]; exact ho.out, hb.out⟩
              case round =>
                obtain ⟨k, P, PL, hk, rfl, hP, hcol, how, hbi⟩ := hrel
                have cbx : wr.cell? ⟨w.heap.size, 0, none⟩ = some (.slice va n vc) := (hbi.out.cell (p := ⟨w.heap.size, 0, none⟩) (Nat.lt_succ_self _)).trans CB.out
                have hws := hbi.out.size
                have hwx := HWS.out
                have HSR : Hid (SRow 1 encS wr (.slice va n vc) xs) := (H.out.below BW0.out).below (hbi.out.mono (by have := HWS.out; omega))
                by_cases hkl : k < n
                · obtain ⟨wy, rfl⟩ : ∃ wy : World, wy = wr := ⟨_, rfl⟩
                  go_wp2
                  go_loop [11] (fun ei => ∃ j : Nat, k ≤ j ∧ j ≤ n ∧ ei = .int .i64 j ∧ Hid (rvCol xs least c = PL ++ rv (flowB xs c) c least n (n + 1 - j) j k)) (fun ei => n + 1 - (intOf ei).toNat)
                  case atStart => exact ⟨k, by omega, by omega, rfl, hcol.out⟩
                  case round =>
                    obtain ⟨j, hj1, hj2, rfl, hcj⟩ := hrel
                    cases hq : flowB xs c j
                    · have col := hcj.out
                      rw [show n + 1 - j = (n - j) + 1 by omega, rv_stop _ _ _ _ _ _ _ hj2 hq] at col
                      have HQ := Lib.hid hq
                      clear hq hcj hcol
                      by_cases hg : least ≤ (j : Int) - k
                      · rw [if_pos hg] at col
                        have COL := Lib.hid col
                        have hmx : max (k : Int) j = j := by omega
                        clear col
                        go_wp2_with (first | (go_at_call 54; refine (flows_any w.heap.size j c va vc xs _ (by rw [← HN.out]; exact cbx) (by rw [← HN.out]; exact HSR.out) hall3.out (by omega) (by omega)).mono ?_; rintro e w' ⟨rfl, rfl⟩; rw [HQ.out]) | (at_builtin; refine append_mine _ rfl _ _ 47 rfl (w.heap.size + 1) 50 i0 (.agg #[.int .i64 0, .int .i64 0, .int .i64 0]) 3 24 Try.underlying47 hi hz0 hz1 hz2 rfl (by decide) _ _ _ rfl (how.out.alloc _) ⟨wy.heap.size, 0, none⟩ 1 1 [.int .i64 c, .int .i64 k, .int .i64 (j - k)] rfl rfl (by simpa using cells_new wy [_, _, _] _) (by intro u hu; simp at hu; rcases hu with rfl | rfl | rfl <;> rfl) (by unfold maxLen; omega) (by omega) (by simp; omega) ?_; intro v' w5 hown' hgrow hmv))
                        have bf := (hbi.out.alloc (by omega) (.cells #[.int .i64 c, .int .i64 k, .int .i64 (j - k)] 50)).grown hgrow (by simp; omega) (fun j hj => (how.out.lt j hj).1)
                        have own2 : w5.ownsRow (w.heap.size + 1) 50 3 v' (L + (P + 1)) ((TC ++ (PL ++ [(⟨c, k, (j : Int) - k⟩ : DRiver)])).flatMap encRiver) := by
                          rw [← List.append_assoc, List.flatMap_append]
                          exact hown'
                        have OWN2 := Lib.hid own2
                        clear hmv hown' own2
                        go_roundw
                        case rel => exact ⟨j + 1, P + 1, PL ++ [(⟨c, k, (j : Int) - k⟩ : DRiver)], by omega, by go_num, by omega, by show _ = _; rw [COL.out, show n + 1 - (j + 1) = n - j by omega, List.append_assoc], OWN2.out, bf⟩
                        case measure => simp [intOf]; omega
                      · rw [if_neg hg, List.nil_append] at col
                        have COL := Lib.hid col
                        have hmx : max (k : Int) j = j := by omega
                        have hg3 : (j : Int) - k < least := by omega
                        clear col hg
                        go_wp2_with (go_at_call 54; refine (flows_any w.heap.size j c va vc xs _ (by rw [← HN.out]; exact cbx) (by rw [← HN.out]; exact HSR.out) hall3.out (by omega) (by omega)).mono ?_; rintro e w' ⟨rfl, rfl⟩; rw [HQ.out])
                        rw [show (if k < j then (j : Int) else (k : Int)) = j by split <;> omega]
                        exact ⟨⟨j + 1, P, PL, by omega, by go_num, by omega, by show _ = _; rw [COL.out, show n + 1 - (j + 1) = n - j by omega], how.out, hbi.out⟩, by simp [intOf]; omega⟩
                    · have hjn : j < n := by
                        by_cases h : j < n
                        · exact h
                        · have := flow_out xs c j (by have := HN.out; omega)
                          rw [hq] at this
                          cases this
                      have col := hcj.out
                      rw [show n + 1 - j = (n - j) + 1 by omega, rv_flow _ _ _ _ _ _ _ hj2 hq] at col
                      have HQ := Lib.hid hq
                      have COL := Lib.hid col
                      clear hq hcj hcol col
                      go_wp2_with (go_at_call 54; refine (flows_any w.heap.size j c va vc xs _ (by rw [← HN.out]; exact cbx) (by rw [← HN.out]; exact HSR.out) hall3.out (by omega) (by omega)).mono ?_; rintro e w' ⟨rfl, rfl⟩; rw [HQ.out])
                      exact ⟨⟨j + 1, by omega, by omega, by go_num, by show _ = _; rw [COL.out, show n + 1 - (j + 1) = n - j by omega]⟩, by simp [intOf]; omega⟩
                · have e := hcol.out
                  rw [HN.out, rv_last xs c least _ k (by have := HN.out; omega) hle, List.append_nil] at e
                  have HE := Lib.hid e
                  clear e hcol
                  go_wp2
                  go_roundw
                  case rel => exact ⟨c + 1, L + P, by omega, by omega, by go_num, by omega, by show World.ownsRow _ _ _ _ _ _ _; rw [← NX.out, HE.out]; exact how.out, hbi.out⟩
                  case measure => simp [intOf]; omega
            · have hcc : c = 60 := by omega
              have e : rvAll xs least = rvTo xs least (c - 1) := by rw [E.out, hcc]
              have hLe : (rvTo xs least (c - 1)).length = L := by
                have := ho.out.1
                rw [flatMap_len encRiver 3 _ (fun x _ => encRiver_len x)] at this
                omega
              have E2 := Lib.hid e
              have HLE := Lib.hid hLe
              clear e hLe hcc
              go_wp2
              go_ret
              exact ⟨_, rfl, by rw [E2.out, HLE.out]; exact ho.out.mono (Nat.le_succ _), BW0.out.trans (hb.out.mono (Nat.le_succ _))⟩
    · have E := Lib.hid (rvAll_no (rvOk_no (xs := xs) (least := least) (.inr (.inl (by omega)))))
      have hl : least < 2 := by omega
      clear hle
      go_enter Try.func32, Try.ntmps32
      go_wp2
      go_ret
      exact ⟨_, rfl, by rw [E.out]; exact World.ownsRow_nil _ _ _ _, BW0.out⟩
  · have E := Lib.hid (rvAll_no (rvOk_no (xs := xs) (least := least) (.inl (by have := HN.out; omega))))
    have hl : 60 < n := by omega
    clear hn60
    go_enter Try.func32, Try.ntmps32
    go_wp2
    go_ret
    exact ⟨_, rfl, by rw [E.out]; exact World.ownsRow_nil _ _ _ _, BW0.out⟩
end Go.Proofs.Ytaolkplecdbadaa

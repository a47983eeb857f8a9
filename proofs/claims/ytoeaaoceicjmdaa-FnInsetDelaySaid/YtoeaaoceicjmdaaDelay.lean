/-
  PROVED HERE: what InsetDelay returns. Conditions: each theorem's own.
-/
import Derived.Test.YtoeaaoceicjmdaaPlaceP
namespace Go.Proofs.Ytoeaaoceicjmdaa
open Go.RowKit

def dsum : List Int → List DInset → Int
  | y :: ys, x :: xs => (y - x.f1) + dsum ys xs
  | [], _ => 0
  | _ :: _, [] => 0
def delayOf (xs : List DInset) (rs : List Int) : Int := if placeB xs rs = true then dsum (placeXs xs rs) xs else -1

theorem insGo_bd : ∀ (xs : List DInset) (p : Nat) (L O R : List Int), insGo xs p L O = some R → (∀ y ∈ O, 0 ≤ y ∧ y < L.length) → ∀ y ∈ R, 0 ≤ y ∧ y < L.length
  | [], _, _, O, R, h, hO => by rw [insGo] at h; cases h; exact hO
  | x :: t, p, L, O, R, h, hO => by
    rw [insGo] at h
    split at h
    · rename_i hq
      have := insGo_bd t _ _ _ _ h (fun y hy => by
        rw [List.length_set]
        rcases List.mem_append.1 hy with hy | hy
        · exact hO y hy
        · rw [List.mem_singleton.1 hy]; omega)
      rwa [List.length_set] at this
    · cases h
theorem place_some {xs : List DInset} {rs : List Int} (h : placeB xs rs = true) : (placeXs xs rs).length = xs.length ∧ xs.length ≤ 20 ∧ (∀ x ∈ xs, 1 ≤ x.f0 ∧ x.f0 ≤ 1000 ∧ 0 ≤ x.f1 ∧ x.f1 ≤ 19) ∧ ∀ y ∈ placeXs xs rs, 0 ≤ y ∧ y < 20 := by
  unfold placeB placeO at h
  unfold placeXs placeO
  split at h
  · rename_i hc
    rw [if_pos hc]
    cases hR : insGo xs 0 rs [] with
    | none => rw [hR] at h; cases h
    | some R =>
      have h1 := insGo_len _ _ _ _ _ hR
      have h2 := insB_true hc.1
      have h3 := (roomsB_true hc.2).1
      have h4 := insGo_bd _ _ _ _ _ hR (fun y hy => by cases hy)
      refine ⟨by simpa using h1, h2.1, h2.2, fun y hy => ?_⟩
      have := h4 y hy
      omega
  · cases h

set_option maxHeartbeats 4000000 in
theorem implDelay_any (v u : Value) (xs : List DInset) (rs : List Int) (w : World) (h : SRow 2 encInset w v xs) (hr : IRow w u rs) :
    Calls Try.prog 27 #[v, u] w (Ret (.int .i64 (delayOf xs rs)) w) := by
  have H := Lib.hid h
  have C := Lib.hid (implPlace_any v u xs rs w h hr)
  obtain ⟨bt, hbt⟩ : ∃ b, b = placeB xs rs := ⟨_, rfl⟩
  have C2 : Hid (Calls Try.prog 19 #[v, u] w (PlacePost (placeXs xs rs) bt w)) := by rw [hbt]; exact C.out
  clear C hr h
  go_enter Try.func27, Try.ntmps27
  go_wp2_with fail
  refine C2.out.mono ?_
  rintro e w1 ⟨v1, rfl, o1, b1⟩
  cases bt with
  | false =>
    have E : Hid (delayOf xs rs = -1) := by
      show _ = _
      unfold delayOf
      rw [← hbt]
      rfl
    clear hbt o1
    go_wp2
    go_ret
    exact ⟨by rw [E.out]; rfl, b1⟩
  | true =>
    obtain ⟨hl, hxl, hxb, hyb⟩ := place_some hbt.symm
    have E : Hid (delayOf xs rs = dsum (placeXs xs rs) xs) := by
      show _ = _
      unfold delayOf
      rw [← hbt]
      rfl
    have hs1 : SRow 2 encInset w1 v xs := H.out.below b1
    have hi1 : IRow w1 v1 (placeXs xs rs) := IRow.of_owns o1
    obtain ⟨ys, hys⟩ : ∃ ys, ys = placeXs xs rs := ⟨_, rfl⟩
    rw [← hys] at hi1 hl hyb E
    have B1 := Lib.hid b1
    clear hbt o1 b1 hys C2 H
    by_cases h0 : xs.length = 0
    · obtain rfl : xs = [] := List.eq_nil_of_length_eq_zero h0
      obtain rfl : ys = [] := List.eq_nil_of_length_eq_zero hl
      obtain ⟨a, cap, rfl⟩ := hi1.empty
      have E2 : Hid (delayOf [] rs = 0) := E.out
      clear h0 hs1 hi1 hl hxl hxb hyb
      go_wp2
      refine wp_loop_rounds 1 ?_
      rw [rounds_succ]
      go_wp2
      go_ret
      exact ⟨by rw [E2.out]; rfl, B1.out⟩
    · obtain ⟨b, off, cap, rfl, hbl, hc⟩ := hs1.pos encInset_pos (by omega)
      obtain ⟨b', off', cap', rfl, hc'⟩ := hi1.pos (by omega)
      have hbl' : b' < w1.heap.size := World.block_lt_of_cell? w1 _ (hc' 0 (by omega))
      have HC := Lib.hid hc
      have HC' := Lib.hid hc'
      have HXB := Lib.hid hxb
      have HYB := Lib.hid hyb
      obtain ⟨n, hn⟩ : ∃ n, n = xs.length := ⟨_, rfl⟩
      rw [hl]
      rw [← hn] at h0 hxl hl ⊢
      have HN := Lib.hid hn
      have HL := Lib.hid hl
      clear hn hl hc hc' hxb hyb hs1 hi1
      go_wp2
      go_loopw [7, 20] (fun t i wr => ∃ (k : Nat) (s : Int), k ≤ n ∧ i = .int .i64 k ∧ t = .int .i64 s ∧ -(20 * (k : Int)) ≤ s ∧ s ≤ 20 * k ∧ Hid (dsum ys xs = s + dsum (ys.drop k) (xs.drop k)) ∧ Hid (Below w1.heap.size w1 wr)) (fun _ i _ => n - (intOf i).toNat)
      case atStart => exact ⟨0, 0, Nat.zero_le _, rfl, rfl, by omega, by omega, by show _ = _; simp, Below.refl _ _⟩
      case round =>
        obtain ⟨k, s, hk, rfl, rfl, hs1, hs2, hd, hb⟩ := hrel
        by_cases hlt : k < n
        · have hk' : k < xs.length := by rw [← HN.out]; exact hlt
          have hky : k < ys.length := by rw [HL.out]; exact hlt
          have q := HC.out k hk'
          obtain ⟨_, _, x3, x4⟩ := HXB.out xs[k] (List.getElem_mem hk')
          obtain ⟨y1, y2⟩ := HYB.out ys[k] (List.getElem_mem hky)
          have q' := HC'.out k (by rw [HL.out]; exact hlt)
          have e1 : ys.getD k 0 = ys[k] := by simp [List.getD, hky]
          have hdx : xs.drop k = xs[k] :: xs.drop (k + 1) := List.drop_eq_getElem_cons hk'
          have hdy : ys.drop k = ys[k] :: ys.drop (k + 1) := List.drop_eq_getElem_cons hky
          rw [e1] at q'
          have nx : dsum ys xs = s + (ys[k] - xs[k].f1) + dsum (ys.drop (k + 1)) (xs.drop (k + 1)) := by
            rw [hd.out, hdx, hdy, dsum]
            omega
          obtain ⟨z, hz⟩ : ∃ z, z = xs[k] := ⟨_, rfl⟩
          obtain ⟨y, hy⟩ : ∃ y, y = ys[k] := ⟨_, rfl⟩
          rw [← hz] at x3 x4 q nx
          rw [← hy] at y1 y2 q' nx
          obtain ⟨z0, f⟩ := z
          simp only at x3 x4 nx
          have c1 : wr.cell? ⟨b, off + k * 2 + 1, none⟩ = some (.int .i64 f) := (hb.out.cell (p := ⟨b, off + k * 2 + 1, none⟩) hbl).trans (q 1 _ rfl)
          have c2 : wr.cell? ⟨b', off' + k, none⟩ = some (.int .i64 y) := (hb.out.cell (p := ⟨b', off' + k, none⟩) hbl').trans q'
          have NX := Lib.hid nx
          clear q q' e1 hdx hdy nx hz hy hd
          have m1 : -(20 * ((k : Int) + 1)) ≤ s + (y - f) := by omega
          have m2 : s + (y - f) ≤ 20 * ((k : Int) + 1) := by omega
          have nx2 : Hid (dsum ys xs = s + (y - f) + dsum (ys.drop (k + 1)) (xs.drop (k + 1))) := by
            show _ = _
            rw [NX.out]
            try omega
          go_wp2
          go_roundw
          case rel => exact ⟨k + 1, _, by omega, by go_num, rfl, by omega, by omega, nx2.out, hb.out⟩
          case measure => simp [intOf]; omega
        · have e : delayOf xs rs = s := by
            rw [E.out, hd.out, List.drop_of_length_le (by have := HN.out; omega : xs.length ≤ k), List.drop_of_length_le (by have := HL.out; omega : ys.length ≤ k), dsum]
            omega
          have E3 := Lib.hid e
          clear e hd
          go_wp2
          go_ret
          exact ⟨by rw [E3.out]; rfl, below_next B1.out hb.out (Nat.le_refl _)⟩

set_option maxHeartbeats 4000000 in
theorem specDelay_any (v u : Value) (xs : List DInset) (rs : List Int) (w : World) (h : SRow 2 encInset w v xs) (hr : IRow w u rs) (hn : NilOk u) (hx : rs.length ≤ 1048576) :
    Calls Try.prog 26 #[v, u] w (Ret (.int .i64 (delayOf xs rs)) w) := by
  have H := Lib.hid h
  have C := Lib.hid (specPlace_any v u xs rs w h hr hn hx)
  obtain ⟨bt, hbt⟩ : ∃ b, b = placeB xs rs := ⟨_, rfl⟩
  have C2 : Hid (Calls Try.prog 17 #[v, u] w (PlacePost (placeXs xs rs) bt w)) := by rw [hbt]; exact C.out
  clear C hr h
  go_enter Try.func26, Try.ntmps26
  go_wp2_with fail
  refine C2.out.mono ?_
  rintro e w1 ⟨v1, rfl, o1, b1⟩
  cases bt with
  | false =>
    have E : Hid (delayOf xs rs = -1) := by
      show _ = _
      unfold delayOf
      rw [← hbt]
      rfl
    clear hbt o1
    go_wp2
    go_ret
    exact ⟨by rw [E.out]; rfl, b1⟩
  | true =>
    obtain ⟨hl, hxl, hxb, hyb⟩ := place_some hbt.symm
    have E : Hid (delayOf xs rs = dsum (placeXs xs rs) xs) := by
      show _ = _
      unfold delayOf
      rw [← hbt]
      rfl
    have hs1 : SRow 2 encInset w1 v xs := H.out.below b1
    have hi1 : IRow w1 v1 (placeXs xs rs) := IRow.of_owns o1
    obtain ⟨ys, hys⟩ : ∃ ys, ys = placeXs xs rs := ⟨_, rfl⟩
    rw [← hys] at hi1 hl hyb E
    have B1 := Lib.hid b1
    clear hbt o1 b1 hys C2 H
    by_cases h0 : xs.length = 0
    · obtain rfl : xs = [] := List.eq_nil_of_length_eq_zero h0
      obtain rfl : ys = [] := List.eq_nil_of_length_eq_zero hl
      obtain ⟨a, cap, rfl⟩ := hi1.empty
      have E2 : Hid (delayOf [] rs = 0) := E.out
      clear h0 hs1 hi1 hl hxl hxb hyb
      go_wp2
      refine wp_loop_rounds 1 ?_
      rw [rounds_succ]
      go_wp2
      go_ret
      exact ⟨by rw [E2.out]; rfl, B1.out⟩
    · obtain ⟨b, off, cap, rfl, hbl, hc⟩ := hs1.pos encInset_pos (by omega)
      obtain ⟨b', off', cap', rfl, hc'⟩ := hi1.pos (by omega)
      have hbl' : b' < w1.heap.size := World.block_lt_of_cell? w1 _ (hc' 0 (by omega))
      have HC := Lib.hid hc
      have HC' := Lib.hid hc'
      have HXB := Lib.hid hxb
      have HYB := Lib.hid hyb
      obtain ⟨n, hn⟩ : ∃ n, n = xs.length := ⟨_, rfl⟩
      rw [hl]
      rw [← hn] at h0 hxl hl ⊢
      have HN := Lib.hid hn
      have HL := Lib.hid hl
      clear hn hl hc hc' hxb hyb hs1 hi1
      go_wp2
      go_loopw [7, 8] (fun t i wr => ∃ (k : Nat) (s : Int), k ≤ n ∧ i = .int .i64 k ∧ t = .int .i64 s ∧ -(20 * (k : Int)) ≤ s ∧ s ≤ 20 * k ∧ Hid (dsum ys xs = s + dsum (ys.drop k) (xs.drop k)) ∧ Hid (Below w1.heap.size w1 wr)) (fun _ i _ => n - (intOf i).toNat)
      case atStart => exact ⟨0, 0, Nat.zero_le _, rfl, rfl, by omega, by omega, by show _ = _; simp, Below.refl _ _⟩
      case round =>
        obtain ⟨k, s, hk, rfl, rfl, hs1, hs2, hd, hb⟩ := hrel
        by_cases hlt : k < n
        · have hk' : k < xs.length := by rw [← HN.out]; exact hlt
          have hky : k < ys.length := by rw [HL.out]; exact hlt
          have q := HC.out k hk'
          obtain ⟨_, _, x3, x4⟩ := HXB.out xs[k] (List.getElem_mem hk')
          obtain ⟨y1, y2⟩ := HYB.out ys[k] (List.getElem_mem hky)
          have q' := HC'.out k (by rw [HL.out]; exact hlt)
          have e1 : ys.getD k 0 = ys[k] := by simp [List.getD, hky]
          have hdx : xs.drop k = xs[k] :: xs.drop (k + 1) := List.drop_eq_getElem_cons hk'
          have hdy : ys.drop k = ys[k] :: ys.drop (k + 1) := List.drop_eq_getElem_cons hky
          rw [e1] at q'
          have nx : dsum ys xs = s + (ys[k] - xs[k].f1) + dsum (ys.drop (k + 1)) (xs.drop (k + 1)) := by
            rw [hd.out, hdx, hdy, dsum]
            omega
          obtain ⟨z, hz⟩ : ∃ z, z = xs[k] := ⟨_, rfl⟩
          obtain ⟨y, hy⟩ : ∃ y, y = ys[k] := ⟨_, rfl⟩
          rw [← hz] at x3 x4 q nx
          rw [← hy] at y1 y2 q' nx
          obtain ⟨z0, f⟩ := z
          simp only at x3 x4 nx
          have c1 : wr.cell? ⟨b, off + k * 2 + 1, none⟩ = some (.int .i64 f) := (hb.out.cell (p := ⟨b, off + k * 2 + 1, none⟩) hbl).trans (q 1 _ rfl)
          have c2 : wr.cell? ⟨b', off' + k, none⟩ = some (.int .i64 y) := (hb.out.cell (p := ⟨b', off' + k, none⟩) hbl').trans q'
          have NX := Lib.hid nx
          clear q q' e1 hdx hdy nx hz hy hd
          have m1 : -(20 * ((k : Int) + 1)) ≤ s + (y - f) := by omega
          have m2 : s + (y - f) ≤ 20 * ((k : Int) + 1) := by omega
          have nx2 : Hid (dsum ys xs = (s + y - f) + dsum (ys.drop (k + 1)) (xs.drop (k + 1))) := by
            show _ = _
            rw [NX.out]
            try omega
          have w1' : IntKind.i64.wrap (s + y) = s + y := IntWalk.i64_in _ (by omega)
          have w2' : IntKind.i64.wrap (s + y - f) = s + y - f := IntWalk.i64_in _ (by omega)
          go_wp2_with fail
          go_quiet (fail)
          clear w1' w2'
          go_wp2
          go_roundw
          case rel => exact ⟨k + 1, _, by omega, by go_num, rfl, by omega, by omega, nx2.out, below_drewN hb.out _⟩
          case measure => simp [intOf]; omega
        · have e : delayOf xs rs = s := by
            rw [E.out, hd.out, List.drop_of_length_le (by have := HN.out; omega : xs.length ≤ k), List.drop_of_length_le (by have := HL.out; omega : ys.length ≤ k), dsum]
            omega
          have E3 := Lib.hid e
          clear e hd
          go_wp2
          go_ret
          exact ⟨by rw [E3.out]; rfl, below_next B1.out hb.out (Nat.le_refl _)⟩
end Go.Proofs.Ytoeaaoceicjmdaa

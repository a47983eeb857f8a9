/-
  PROVED HERE: the sum of the heights of rows, and what SnapLoss of both returns. Conditions: each theorem's own.
-/
import Derived.Test.YtkbpmpndfcdpkaaSnapA
namespace Go.Proofs.Ytkbpmpndfcdpkaa
open Go.RowKit

theorem sum_snoc (l : List Int) (z : Int) : (l ++ [z]).sum = l.sum + z := by simp
theorem sum_bd : ∀ (l : List Int), (∀ z ∈ l, 1 ≤ z ∧ z ≤ 1000) → 0 ≤ l.sum ∧ l.sum ≤ 1000 * l.length
  | [], _ => by simp
  | x :: t, h => by
    have h2 := h x List.mem_cons_self
    have ih := sum_bd t (fun z hz => h z (List.mem_cons_of_mem _ hz))
    simp only [List.sum_cons, List.length_cons]
    omega

set_option maxHeartbeats 4000000 in
theorem heightOf_any (v : Value) (xs : List DRow) (w : World) (h : SRow 4 encRow w v xs) (hv : rowsB xs = true) :
    Calls Try.prog 40 #[v] w (Ret (.int .i64 ((xs.map (·.f0)).sum)) w) := by
  obtain ⟨hall, hlen⟩ := rowsB_true hv
  by_cases h0 : xs.length = 0
  · obtain rfl : xs = [] := List.eq_nil_of_length_eq_zero h0
    obtain ⟨a, cap, rfl⟩ := h.empty
    clear h h0 hall hlen
    go_enter Try.func40, Try.ntmps40
    go_wp2
    refine wp_loop_rounds 1 ?_
    rw [rounds_succ]
    go_wp2
    go_ret
    exact ⟨rfl, Below.refl _ _⟩
  · obtain ⟨b, off, cap, rfl, hbl, hc⟩ := h.pos encRow_pos (by omega)
    obtain ⟨n, hn⟩ : ∃ n, n = xs.length := ⟨_, rfl⟩
    rw [← hn] at hlen h0 ⊢
    have HC := Lib.hid hc
    have HN := Lib.hid hn
    have HALL := Lib.hid hall
    clear hn hc h hall hv
    go_enter Try.func40, Try.ntmps40
    go_wp2
    go_loopw [3, 8] (fun s i wr => ∃ k : Nat, k ≤ n ∧ i = .int .i64 k ∧ s = .int .i64 (((xs.map (·.f0)).take k).sum) ∧ Below w.heap.size w wr) (fun _ i _ => n - (intOf i).toNat)
    case atStart => exact ⟨0, Nat.zero_le _, rfl, rfl, Below.refl _ _⟩
    case round =>
      obtain ⟨k, hk, rfl, rfl, hb⟩ := hrel
      have bd := sum_bd ((xs.map (·.f0)).take k) (by intro z hz; obtain ⟨y, hy, rfl⟩ := List.mem_map.1 (List.mem_of_mem_take hz); exact HALL.out y hy)
      have tl : ((xs.map (·.f0)).take k).length = k := by rw [List.length_take, List.length_map]; have := HN.out; omega
      rw [tl] at bd
      obtain ⟨B, hB⟩ : ∃ B, B = ((xs.map (·.f0)).take k).sum := ⟨_, rfl⟩
      rw [← hB] at bd ⊢
      obtain ⟨bd1, bd2⟩ := bd
      by_cases hlt : k < n
      · have hk' : k < xs.length := by rw [← HN.out]; exact hlt
        have q := HC.out k hk'
        have hx1 := HALL.out xs[k] (List.getElem_mem hk')
        obtain ⟨x, hx⟩ : ∃ x, x = xs[k] := ⟨_, rfl⟩
        rw [← hx] at q hx1
        have r : ∀ i u, (encRow x)[i]? = some u → wr.cell? ⟨b, off + k * 4 + i, none⟩ = some u := fun i u hu => (hb.cell (p := ⟨b, off + k * 4 + i, none⟩) hbl).trans (q i u hu)
        have c0 : wr.cell? ⟨b, off + k * 4, none⟩ = some (.int .i64 x.f0) := by simpa using r 0 _ rfl
        have c1 : wr.cell? ⟨b, off + k * 4 + 1, none⟩ = some (.bool x.f1) := by simpa using r 1 _ rfl
        have c2 : wr.cell? ⟨b, off + k * 4 + 2, none⟩ = some (.int .i64 x.f2) := by simpa using r 2 _ rfl
        have c3 : wr.cell? ⟨b, off + k * 4 + 3, none⟩ = some (.int .i64 x.f3) := by simpa using r 3 _ rfl
        have hsum : ((xs.map (·.f0)).take (k + 1)).sum = B + x.f0 := by
          rw [List.take_succ_eq_append_getElem (by simpa using hk'), List.getElem_map, ← hx, sum_snoc, ← hB]
        have HS := Lib.hid hsum
        obtain ⟨x1, x2⟩ := hx1
        have HB2 := Lib.hid hb
        clear q r hx hb hB tl hsum
        go_wp2
        go_roundw
        case rel => exact ⟨k + 1, by omega, by go_num, by rw [HS.out], HB2.out.alloc (by have := HB2.out.size; omega) _⟩
        case measure => simp [intOf]; omega
      · obtain rfl : k = n := by omega
        have tn : (xs.map (·.f0)).take k = xs.map (·.f0) := List.take_of_length_le (by simp; have := HN.out; omega)
        have HB2 := Lib.hid (hB.trans (by rw [tn]) : B = (xs.map (·.f0)).sum)
        clear tn HC hB tl
        go_wp2
        go_ret
        exact ⟨by rw [← HB2.out]; rfl, hb⟩

set_option maxHeartbeats 4000000 in
theorem specHeightOf_any (v : Value) (xs : List DRow) (w : World) (h : SRow 4 encRow w v xs) (hv : rowsB xs = true) :
    Calls Try.prog 39 #[v] w (Ret (.int .i64 ((xs.map (·.f0)).sum)) w) := by
  obtain ⟨hall, hlen⟩ := rowsB_true hv
  have H := Lib.hid h
  by_cases h0 : xs.length = 0
  · obtain rfl : xs = [] := List.eq_nil_of_length_eq_zero h0
    obtain ⟨a, cap, rfl⟩ := h.empty
    clear h h0 hall hlen
    go_enter Try.func39, Try.ntmps39
    go_wp2
    refine wp_loop_rounds 1 ?_
    rw [rounds_succ]
    go_wp2_with fail
    refine (specRowsValid_any _ [] _ H.out).mono ?_
    rintro e w1 ⟨rfl, b1⟩
    rw [hv]
    go_wp2
    go_ret
    exact ⟨rfl, b1⟩
  · obtain ⟨b, off, cap, rfl, hbl, hc⟩ := h.pos encRow_pos (by omega)
    obtain ⟨n, hn⟩ : ∃ n, n = xs.length := ⟨_, rfl⟩
    rw [← hn] at hlen h0 ⊢
    have HC := Lib.hid hc
    have HN := Lib.hid hn
    have HALL := Lib.hid hall
    have HV := Lib.hid hv
    clear hn hc h hall hv
    go_enter Try.func39, Try.ntmps39
    go_wp2
    go_loop [3, 4] (fun s i => ∃ k : Nat, k ≤ n ∧ i = .int .i64 k ∧ s = .int .i64 (((xs.map (·.f0)).take k).sum)) (fun _ i => n - (intOf i).toNat)
    case atStart => exact ⟨0, Nat.zero_le _, rfl, rfl⟩
    case round =>
      obtain ⟨k, hk, rfl, rfl⟩ := hrel
      have bd := sum_bd ((xs.map (·.f0)).take k) (by intro z hz; obtain ⟨y, hy, rfl⟩ := List.mem_map.1 (List.mem_of_mem_take hz); exact HALL.out y hy)
      have tl : ((xs.map (·.f0)).take k).length = k := by rw [List.length_take, List.length_map]; have := HN.out; omega
      rw [tl] at bd
      obtain ⟨B, hB⟩ : ∃ B, B = ((xs.map (·.f0)).take k).sum := ⟨_, rfl⟩
      rw [← hB] at bd ⊢
      obtain ⟨bd1, bd2⟩ := bd
      by_cases hlt : k < n
      · have hk' : k < xs.length := by rw [← HN.out]; exact hlt
        have q := HC.out k hk'
        have hx1 := HALL.out xs[k] (List.getElem_mem hk')
        obtain ⟨x, hx⟩ : ∃ x, x = xs[k] := ⟨_, rfl⟩
        rw [← hx] at q hx1
        have c0 : w.cell? ⟨b, off + k * 4, none⟩ = some (.int .i64 x.f0) := by simpa using q 0 _ rfl
        have hsum : ((xs.map (·.f0)).take (k + 1)).sum = B + x.f0 := by
          rw [List.take_succ_eq_append_getElem (by simpa using hk'), List.getElem_map, ← hx, sum_snoc, ← hB]
        have HS := Lib.hid hsum
        obtain ⟨x1, x2⟩ := hx1
        clear q hx hB tl hsum
        go_wp2
        go_round
        case rel => exact ⟨k + 1, by omega, by go_num, by rw [HS.out]⟩
        case measure => simp [intOf]; omega
      · obtain rfl : k = n := by omega
        have tn : (xs.map (·.f0)).take k = xs.map (·.f0) := List.take_of_length_le (by simp; have := HN.out; omega)
        have HB2 := Lib.hid (hB.trans (by rw [tn]) : B = (xs.map (·.f0)).sum)
        clear tn HC hB tl
        go_wp2_with fail
        have H2 : SRow 4 encRow w (.slice (some ⟨b, off, none⟩) k cap) xs := by
          have h := H.out
          rw [← HN.out] at h
          exact h
        refine (specRowsValid_any _ xs _ H2).mono ?_
        rintro e w1 ⟨rfl, b1⟩
        rw [HV.out]
        go_wp2
        go_ret
        exact ⟨by rw [← HB2.out]; rfl, b1⟩

def lossOf (s : Int) (xs : List DRow) : Int := if (rowsB xs && inB s 1 1000) = true then snapBot s 0 (xs.map (·.f0)) - (xs.map (·.f0)).sum else -1
theorem snapBot_lo (s : Int) (s1 : 1 ≤ s) : ∀ (l : List Int) (a : Int), a + l.sum ≤ snapBot s a l
  | [], a => by simp [snapBot]
  | x :: t, a => by
    have h1 := snapI_bd a s s1
    have ih := snapBot_lo s s1 t (snapI a s + x)
    simp only [snapBot, List.sum_cons]
    omega

theorem loss_any_parts {s : Int} {xs : List DRow} (h : (rowsB xs && inB s 1 1000) = true) : 0 ≤ snapBot s 0 (xs.map (·.f0)) ∧ snapBot s 0 (xs.map (·.f0)) ≤ 60000 ∧ 0 ≤ (xs.map (·.f0)).sum ∧ (xs.map (·.f0)).sum ≤ 30000 := by
  rw [Bool.and_eq_true] at h
  obtain ⟨hall, hlen⟩ := rowsB_true h.1
  have hs := inB_true h.2
  have hm : ∀ z ∈ xs.map (·.f0), 1 ≤ z ∧ z ≤ 1000 := by intro z hz; obtain ⟨y, hy, rfl⟩ := List.mem_map.1 hz; exact hall y hy
  have b1 := snapBot_bd s (xs.map (·.f0)) hs.1 hs.2 hm
  have b2 := sum_bd (xs.map (·.f0)) hm
  rw [List.length_map] at b1 b2
  omega

theorem implLoss_any (v : Value) (xs : List DRow) (s : Int) (w : World) (h : SRow 4 encRow w v xs) : Calls Try.prog 25 #[v, .int .i64 s] w (Ret (.int .i64 (lossOf s xs)) w) := by
  have e1 : snapB s xs = if (rowsB xs && inB s 1 1000) = true then snapBot s 0 (xs.map (·.f0)) else -1 := rfl
  have e2 : lossOf s xs = if (rowsB xs && inB s 1 1000) = true then snapBot s 0 (xs.map (·.f0)) - (xs.map (·.f0)).sum else -1 := rfl
  cases hb : (rowsB xs && inB s 1 1000)
  · rw [hb, if_neg (by decide)] at e1 e2
    rw [e2]
    have E1 := Lib.hid e1
    clear e1 e2
    go_enter Try.func25, Try.ntmps25
    go_wp2_with fail
    refine (implSnapRows_any v xs s w h).mono ?_
    rintro e w1 ⟨v1, rfl, _, b1⟩
    rw [E1.out]
    go_wp2
    go_ret
    exact ⟨rfl, b1⟩
  · obtain ⟨p1, p2, p3, p4⟩ := loss_any_parts hb
    rw [hb, if_pos rfl] at e1 e2
    rw [e2]
    rw [Bool.and_eq_true] at hb
    have hv := hb.1
    obtain ⟨T, hT⟩ : ∃ T, T = snapBot s 0 (xs.map (·.f0)) := ⟨_, rfl⟩
    obtain ⟨U, hU⟩ : ∃ T, T = (xs.map (·.f0)).sum := ⟨_, rfl⟩
    rw [← hT] at p1 p2 e1
    rw [← hU] at p3 p4
    rw [← hT, ← hU]
    have E1 := Lib.hid e1
    have HU := Lib.hid hU
    have HV := Lib.hid hv
    clear e1 e2 hT hU hb hv
    go_enter Try.func25, Try.ntmps25
    go_wp2_with fail
    refine (implSnapRows_any v xs s w h).mono ?_
    rintro e w1 ⟨v1, rfl, _, b1⟩
    rw [E1.out]
    go_wp2_with fail
    refine (heightOf_any v xs w1 (h.below b1) HV.out).mono ?_
    rintro e w2 ⟨rfl, b2⟩
    rw [← HU.out]
    go_wp2
    go_ret
    exact ⟨rfl, below_next b1 b2 (Nat.le_refl _)⟩


theorem specLoss_any (v : Value) (xs : List DRow) (s : Int) (w : World) (h : SRow 4 encRow w v xs) : Calls Try.prog 24 #[v, .int .i64 s] w (Ret (.int .i64 (lossOf s xs)) w) := by
  have e1 : snapB s xs = if (rowsB xs && inB s 1 1000) = true then snapBot s 0 (xs.map (·.f0)) else -1 := rfl
  have e2 : lossOf s xs = if (rowsB xs && inB s 1 1000) = true then snapBot s 0 (xs.map (·.f0)) - (xs.map (·.f0)).sum else -1 := rfl
  cases hb : (rowsB xs && inB s 1 1000)
  · rw [hb, if_neg (by decide)] at e1 e2
    rw [e2]
    have E1 := Lib.hid e1
    clear e1 e2
    go_enter Try.func24, Try.ntmps24
    go_wp2_with fail
    refine (specSnapRows_any v xs s w h).mono ?_
    rintro e w1 ⟨v1, rfl, _, b1⟩
    rw [E1.out]
    go_wp2
    go_ret
    exact ⟨rfl, b1⟩
  · obtain ⟨p1, p2, p3, p4⟩ := loss_any_parts hb
    rw [hb, if_pos rfl] at e1 e2
    rw [e2]
    rw [Bool.and_eq_true] at hb
    have hv := hb.1
    obtain ⟨T, hT⟩ : ∃ T, T = snapBot s 0 (xs.map (·.f0)) := ⟨_, rfl⟩
    obtain ⟨U, hU⟩ : ∃ T, T = (xs.map (·.f0)).sum := ⟨_, rfl⟩
    rw [← hT] at p1 p2 e1
    rw [← hU] at p3 p4
    rw [← hT, ← hU]
    have E1 := Lib.hid e1
    have HU := Lib.hid hU
    have HV := Lib.hid hv
    clear e1 e2 hT hU hb hv
    go_enter Try.func24, Try.ntmps24
    go_wp2_with fail
    refine (specSnapRows_any v xs s w h).mono ?_
    rintro e w1 ⟨v1, rfl, _, b1⟩
    rw [E1.out]
    go_wp2_with fail
    refine (specHeightOf_any v xs w1 (h.below b1) HV.out).mono ?_
    rintro e w2 ⟨rfl, b2⟩
    rw [← HU.out]
    go_wp2
    go_ret
    exact ⟨rfl, below_next b1 b2 (Nat.le_refl _)⟩

end Go.Proofs.Ytkbpmpndfcdpkaa

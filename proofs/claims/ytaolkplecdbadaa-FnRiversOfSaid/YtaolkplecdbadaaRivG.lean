/-
  PROVED HERE: the longest river: what the program and the reference return. Conditions: each theorem's own.
-/
import Derived.Test.YtaolkplecdbadaaRivI
namespace Go.Proofs.Ytaolkplecdbadaa
open Go.RowKit

def lgst (rs : List DRiver) : Int := rs.foldl (fun m r => max m r.f2) 0
theorem lgst_step (rs : List DRiver) (k : Nat) (h : k < rs.length) : lgst (rs.take (k + 1)) = max (lgst (rs.take k)) rs[k].f2 := by
  unfold lgst
  rw [List.take_succ_eq_append_getElem h, List.foldl_append]
  rfl

set_option maxHeartbeats 4000000 in
theorem specLongest_any (v : Value) (xs : List ByteArray) (w : World) (h : SRow 1 encS w v xs) (hx : Short xs) : Calls Try.prog 40 #[v] w (Ret (.int .i64 (lgst (rvAll xs 2))) w) := by
  have H := Lib.hid h
  have HX := Lib.hid hx
  have hlen := rvAll_len xs 2
  obtain ⟨rs, hrs⟩ : ∃ rs, rs = rvAll xs 2 := ⟨_, rfl⟩
  have SP := Lib.hid (hrs ▸ specRivers_any v xs 2 w h hx (by omega) (by omega) : Calls Try.prog 33 #[v, .int .i64 2] w (RivPost rs w))
  rw [← hrs] at hlen ⊢
  clear hrs h hx H HX
  go_enter Try.func40, Try.ntmps40
  go_wp2_with fail
  refine SP.out.mono ?_
  rintro e w1 ⟨u, rfl, ho, hb⟩
  have hs : SRow 3 encRiver w1 u rs := SRow.of_owns encRiver_len rfl ho
  have HB := Lib.hid hb
  clear ho hb SP
  by_cases h0 : rs.length = 0
  · obtain rfl : rs = [] := List.eq_nil_of_length_eq_zero h0
    obtain ⟨a, cap, rfl⟩ := hs.empty
    clear h0 hs hlen
    go_wp2
    refine wp_loop_rounds 1 ?_
    rw [rounds_succ]
    go_wp2
    go_ret
    exact ⟨rfl, HB.out⟩
  · obtain ⟨b, off, cap, rfl, hbl, hc⟩ := hs.pos encRiver_pos (by omega)
    have HC := Lib.hid hc
    obtain ⟨n, hn⟩ : ∃ n, n = rs.length := ⟨_, rfl⟩
    rw [← hn] at h0 hlen ⊢
    have HN := Lib.hid hn
    clear hn hc hs
    go_wp2
    go_loop [3, 5] (fun mi i => ∃ (k : Nat) (m : Int), k ≤ n ∧ i = .int .i64 k ∧ mi = .int .i64 m ∧ Hid (m = lgst (rs.take k))) (fun _ i => n - (intOf i).toNat)
    case atStart => exact ⟨0, 0, Nat.zero_le _, rfl, rfl, rfl⟩
    case round =>
      obtain ⟨k, m, hk, rfl, rfl, hm⟩ := hrel
      by_cases hlt : k < n
      · have hk' : k < rs.length := by rw [← HN.out]; exact hlt
        have q := HC.out k hk' 2 _ rfl
        have st := lgst_step rs k hk'
        rw [← hm.out] at st
        obtain ⟨z, hz⟩ : ∃ z, z = rs[k].f2 := ⟨_, rfl⟩
        rw [← hz] at q st
        have c2 : w1.cell? ⟨b, off + k * 3 + 2, none⟩ = some (.int .i64 z) := q
        clear q hz hm
        by_cases hmz : m < z
        · have ST : Hid (z = lgst (rs.take (k + 1))) := by show _ = _; rw [st]; omega
          clear st
          go_wp2
          go_round
          case rel => exact ⟨k + 1, z, by omega, by go_num, rfl, ST.out⟩
          case measure => simp [intOf]; omega
        · have ST : Hid (m = lgst (rs.take (k + 1))) := by show _ = _; rw [st]; omega
          clear st
          go_wp2
          go_round
          case rel => exact ⟨k + 1, m, by omega, by go_num, rfl, ST.out⟩
          case measure => simp [intOf]; omega
      · have e : lgst rs = m := by rw [hm.out, List.take_of_length_le (by have := HN.out; omega)]
        have E := Lib.hid e
        clear e hm HC
        go_wp2
        go_ret
        exact ⟨by rw [E.out]; rfl, HB.out⟩

set_option maxHeartbeats 4000000 in
theorem implLongest_any (v : Value) (xs : List ByteArray) (w : World) (h : SRow 1 encS w v xs) (hx : Short xs) : Calls Try.prog 39 #[v] w (Ret (.int .i64 (lgst (rvAll xs 2))) w) := by
  have H := Lib.hid h
  have HX := Lib.hid hx
  have hlen := rvAll_len xs 2
  obtain ⟨rs, hrs⟩ : ∃ rs, rs = rvAll xs 2 := ⟨_, rfl⟩
  have SP := Lib.hid (hrs ▸ implRivers_any v xs 2 w h hx (by omega) (by omega) : Calls Try.prog 32 #[v, .int .i64 2] w (RivPost rs w))
  rw [← hrs] at hlen ⊢
  clear hrs h hx H HX
  go_enter Try.func39, Try.ntmps39
  go_wp2_with fail
  refine SP.out.mono ?_
  rintro e w1 ⟨u, rfl, ho, hb⟩
  have hs : SRow 3 encRiver w1 u rs := SRow.of_owns encRiver_len rfl ho
  have HB := Lib.hid hb
  clear ho hb SP
  by_cases h0 : rs.length = 0
  · obtain rfl : rs = [] := List.eq_nil_of_length_eq_zero h0
    obtain ⟨a, cap, rfl⟩ := hs.empty
    clear h0 hs hlen
    go_wp2
    refine wp_loop_rounds 1 ?_
    rw [rounds_succ]
    go_wp2
    go_ret
    exact ⟨rfl, HB.out⟩
  · obtain ⟨b, off, cap, rfl, hbl, hc⟩ := hs.pos encRiver_pos (by omega)
    have HC := Lib.hid hc
    obtain ⟨n, hn⟩ : ∃ n, n = rs.length := ⟨_, rfl⟩
    rw [← hn] at h0 hlen ⊢
    have HN := Lib.hid hn
    clear hn hc hs
    go_wp2
    go_loopw [3, 9] (fun mi i wr => ∃ (k : Nat) (m : Int), k ≤ n ∧ i = .int .i64 k ∧ mi = .int .i64 m ∧ Hid (m = lgst (rs.take k)) ∧ Hid (Below w1.heap.size w1 wr)) (fun _ i _ => n - (intOf i).toNat)
    case atStart => exact ⟨0, 0, Nat.zero_le _, rfl, rfl, rfl, Below.refl _ _⟩
    case round =>
      obtain ⟨k, m, hk, rfl, rfl, hm, hbw⟩ := hrel
      by_cases hlt : k < n
      · have hk' : k < rs.length := by rw [← HN.out]; exact hlt
        have q := HC.out k hk'
        have st := lgst_step rs k hk'
        rw [← hm.out] at st
        obtain ⟨z, hz⟩ : ∃ z, z = rs[k] := ⟨_, rfl⟩
        rw [← hz] at q st
        have r : ∀ i u, (encRiver z)[i]? = some u → wr.cell? ⟨b, off + k * 3 + i, none⟩ = some u := fun i u hu => (hbw.out.cell (p := ⟨b, off + k * 3 + i, none⟩) hbl).trans (q i u hu)
        obtain ⟨z0, z1, z2⟩ := z
        simp only at st
        have c0 : wr.cell? ⟨b, off + k * 3, none⟩ = some (.int .i64 z0) := by simpa using r 0 _ rfl
        have c1 : wr.cell? ⟨b, off + k * 3 + 1, none⟩ = some (.int .i64 z1) := by simpa using r 1 _ rfl
        have c2 : wr.cell? ⟨b, off + k * 3 + 2, none⟩ = some (.int .i64 z2) := by simpa using r 2 _ rfl
        have bf := hbw.out.alloc hbw.out.size (.cells #[.int .i64 z0, .int .i64 z1, .int .i64 z2] 50)
        have BF := Lib.hid bf
        clear q r hz hm bf
        by_cases hmz : m < z2
        · have ST : Hid (z2 = lgst (rs.take (k + 1))) := by show _ = _; rw [st]; omega
          clear st
          go_wp2
          go_roundw
          case rel => exact ⟨k + 1, z2, by omega, by go_num, rfl, ST.out, BF.out⟩
          case measure => simp [intOf]; omega
        · have ST : Hid (m = lgst (rs.take (k + 1))) := by show _ = _; rw [st]; omega
          clear st
          go_wp2
          go_roundw
          case rel => exact ⟨k + 1, m, by omega, by go_num, rfl, ST.out, BF.out⟩
          case measure => simp [intOf]; omega
      · have e : lgst rs = m := by rw [hm.out, List.take_of_length_le (by have := HN.out; omega)]
        have E := Lib.hid e
        clear e hm HC
        go_wp2
        go_ret
        exact ⟨by rw [E.out]; rfl, below_next HB.out hbw.out (Nat.le_refl _)⟩
end Go.Proofs.Ytaolkplecdbadaa

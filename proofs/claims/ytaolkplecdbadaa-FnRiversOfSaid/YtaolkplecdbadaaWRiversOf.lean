/-
  PROVED HERE: what the text of the law FnRiversOf does: it returns true and turns nothing that was there. Conditions: the walk's own.
-/
import Derived.Test.YtaolkplecdbadaaDrawRiv
import Derived.Test.YtaolkplecdbadaaRivM
namespace Go.Proofs.Ytaolkplecdbadaa
open Go.RowKit

theorem sh_short {xs : List ByteArray} (h : Sh100 xs) : Short xs := fun s hs => by have := h s hs; omega

set_option maxRecDepth 100000 in
set_option maxHeartbeats 8000000 in
theorem fnRiversOf_walk (a : Option Addr) (n cap : Nat) (w : World) (h : Code8 w a n cap) : Calls Try.prog 9 #[.slice a n cap] w (Ret (.bool true) w) := by
  have hn : n ≤ 9223372036854775807 := by have := h.2.1; unfold maxLen at this; omega
  by_cases hbig : 1048576 < n
  · go_enter Try.func9, Try.ntmps9
    go_wp2
    go_ret
    exact ⟨rfl, Below.refl _ _⟩
  · have H := Lib.hid h
    clear h
    go_enter Try.func9, Try.ntmps9
    go_wp2_with fail
    refine (drawRivers_any a n cap w H.out).mono ?_
    rintro e w1 ⟨xs, V, l, hxl, hsh, hl1, hl2, rfl, ov, b1⟩
    have hs1 : SRow 1 encS w1 V xs := SRow.of_owns encS_len rfl ov
    have hsx := sh_short hsh
    have hrl := rvAll_len xs l
    have hlaw := fun r hr => (river_law xs l r hr).2.2
    obtain ⟨rs, hrs⟩ : ∃ rs, rs = rvAll xs l := ⟨_, rfl⟩
    have C1 := Lib.hid (fun w (h : SRow 1 encS w V xs) => (hrs ▸ implRivers_any V xs l w h hsx (by omega) (by omega) : Calls Try.prog 32 #[V, .int .i64 l] w (RivPost rs w)))
    have C2 := Lib.hid (fun w (h : SRow 1 encS w V xs) => (hrs ▸ specRivers_any V xs l w h hsx (by omega) (by omega) : Calls Try.prog 33 #[V, .int .i64 l] w (RivPost rs w)))
    rw [← hrs] at hlaw hrl
    have LAW := Lib.hid hlaw
    have HSH := Lib.hid hsh
    clear hrs H ov hlaw hsh hsx
    go_wp2_with fail
    refine (C1.out w1 hs1).mono ?_
    rintro e w2 ⟨X, rfl, ox, b2⟩
    go_wp2_with fail
    refine (C2.out w2 (hs1.below b2)).mono ?_
    rintro e w3 ⟨Y, rfl, oy, b3⟩
    have B3 := Lib.hid (below_next (below_next b1 b2 (Nat.le_refl _)) b3 (Nat.le_refl _))
    have IX := (SRow.of_owns encRiver_len rfl ox).below b3
    have IY := SRow.of_owns encRiver_len rfl oy
    have SV := (hs1.below b2).below b3
    clear C1 C2 hs1 ox oy b1 b2 b3
    obtain ⟨xa, xc, e1, _, hix⟩ := IX
    obtain ⟨ya, yc, e3, _, hiy⟩ := IY
    obtain ⟨va, vc, e2, hvl, hiv⟩ := SV
    subst e1 e2 e3
    obtain ⟨m, hm⟩ : ∃ m, m = rs.length := ⟨_, rfl⟩
    obtain ⟨nv, hnv⟩ : ∃ nv, nv = xs.length := ⟨_, rfl⟩
    rw [← hm] at hrl ⊢
    rw [← hnv] at hxl hvl ⊢
    have HIX := Lib.hid hix
    have HIY := Lib.hid hiy
    have HIV := Lib.hid hiv
    have HM := Lib.hid hm
    have HNV := Lib.hid hnv
    clear hm hnv hix hiv hiy
    go_wp2
    go_loopw [7] (fun i wr => ∃ k : Nat, k ≤ m ∧ i = .int .i64 k ∧ Hid (Below w3.heap.size w3 wr)) (fun i _ => m - (intOf i).toNat)
    case atStart => exact ⟨0, Nat.zero_le _, rfl, Below.refl _ _⟩
    case round =>
      obtain ⟨k, hk, rfl, hb⟩ := hrel
      by_cases hlt : k < m
      · have hk' : k < rs.length := by rw [← HM.out]; exact hlt
        obtain ⟨bx, ox, rfl, hcx⟩ := HIX.out k hk'
        obtain ⟨by', oy, rfl, hcy⟩ := HIY.out k hk'
        obtain ⟨c, p, q, hz, hc59, hpq, hlq, hfl⟩ := LAW.out rs[k] (List.getElem_mem hk')
        rw [← HNV.out] at hpq
        rw [hz] at hcx hcy
        have x0 : w3.cell? ⟨bx, ox + k * 3, none⟩ = some (.int .i64 c) := by simpa using hcx 0 _ rfl
        have x1 : w3.cell? ⟨bx, ox + k * 3 + 1, none⟩ = some (.int .i64 p) := by simpa using hcx 1 _ rfl
        have x2 : w3.cell? ⟨bx, ox + k * 3 + 2, none⟩ = some (.int .i64 q) := by simpa using hcx 2 _ rfl
        have y0 : w3.cell? ⟨by', oy + k * 3, none⟩ = some (.int .i64 c) := by simpa using hcy 0 _ rfl
        have y1 : w3.cell? ⟨by', oy + k * 3 + 1, none⟩ = some (.int .i64 p) := by simpa using hcy 1 _ rfl
        have y2 : w3.cell? ⟨by', oy + k * 3 + 2, none⟩ = some (.int .i64 q) := by simpa using hcy 2 _ rfl
        have lx : bx < w3.heap.size := World.block_lt_of_cell? w3 _ x0
        have ly : by' < w3.heap.size := World.block_lt_of_cell? w3 _ y0
        have X0 := Lib.hid x0
        have X1 := Lib.hid x1
        have X2 := Lib.hid x2
        have cx0 : wr.cell? ⟨bx, ox + k * 3, none⟩ = some (.int .i64 c) := (hb.out.cell (p := ⟨bx, ox + k * 3, none⟩) lx).trans x0
        have cx1 : wr.cell? ⟨bx, ox + k * 3 + 1, none⟩ = some (.int .i64 p) := (hb.out.cell (p := ⟨bx, ox + k * 3 + 1, none⟩) lx).trans x1
        have cx2 : wr.cell? ⟨bx, ox + k * 3 + 2, none⟩ = some (.int .i64 q) := (hb.out.cell (p := ⟨bx, ox + k * 3 + 2, none⟩) lx).trans x2
        have cy0 : wr.cell? ⟨by', oy + k * 3, none⟩ = some (.int .i64 c) := (hb.out.cell (p := ⟨by', oy + k * 3, none⟩) ly).trans y0
        have cy1 : wr.cell? ⟨by', oy + k * 3 + 1, none⟩ = some (.int .i64 p) := (hb.out.cell (p := ⟨by', oy + k * 3 + 1, none⟩) ly).trans y1
        have cy2 : wr.cell? ⟨by', oy + k * 3 + 2, none⟩ = some (.int .i64 q) := (hb.out.cell (p := ⟨by', oy + k * 3 + 2, none⟩) ly).trans y2
        have HFL := Lib.hid hfl
        have hw : IntKind.i64.wrap ((p : Int) + (q : Int)) = (p : Int) + (q : Int) := IntWalk.i64_in _ (by omega)
        clear x0 x1 x2 y0 y1 y2 hcx hcy hz hfl
        go_wp2_with fail
        go_quiet (fail)
        go_wp2
        clear cx0 cx1 cx2 cy0 cy1 cy2
        go_loopw [8] (fun i wi => ∃ j : Nat, j ≤ q ∧ i = .int .i64 j ∧ Hid (Below w3.heap.size w3 wi)) (fun i _ => q - (intOf i).toNat)
        case atStart => exact ⟨0, Nat.zero_le _, rfl, below_drewN hb.out _⟩
        case round =>
          obtain ⟨j, hj, rfl, hbi⟩ := hrel
          have cx0 : wr.cell? ⟨bx, ox + k * 3, none⟩ = some (.int .i64 c) := (hbi.out.cell (p := ⟨bx, ox + k * 3, none⟩) lx).trans X0.out
          have cx1 : wr.cell? ⟨bx, ox + k * 3 + 1, none⟩ = some (.int .i64 p) := (hbi.out.cell (p := ⟨bx, ox + k * 3 + 1, none⟩) lx).trans X1.out
          have cx2 : wr.cell? ⟨bx, ox + k * 3 + 2, none⟩ = some (.int .i64 q) := (hbi.out.cell (p := ⟨bx, ox + k * 3 + 2, none⟩) lx).trans X2.out
          by_cases hjq : j < q
          · obtain ⟨h1, h2, h3⟩ := flow_true (HFL.out (p + j) (by omega) (by omega))
            have hsz := HSH.out xs[p + j] (List.getElem_mem h1)
            obtain ⟨bv, ofv, rfl, hcv⟩ := HIV.out (p + j) h1
            have v0 : w3.cell? ⟨bv, ofv + (p + j), none⟩ = some (.string xs[p + j]) := by simpa using hcv 0 _ rfl
            obtain ⟨s, hs⟩ : ∃ s, s = xs[p + j] := ⟨_, rfl⟩
            rw [← hs] at v0 hsz
            have h2' : c + 1 < s.size := by rw [hs]; exact h2
            have h4 : c < s.size := by omega
            have h3' : (s[c].toNat : Int) = 32 := by subst hs; exact h3
            have lv : bv < w3.heap.size := World.block_lt_of_cell? w3 _ v0
            have cv : wr.cell? ⟨bv, ofv + (p + j), none⟩ = some (.string s) := (hbi.out.cell (p := ⟨bv, ofv + (p + j), none⟩) lv).trans v0
            have hpj : p + j < nv := by omega
            clear v0 hcv hs h2 h3
            go_wp2
            go_roundw
            case rel => exact ⟨j + 1, by omega, by go_num, hbi.out⟩
            case measure => simp [intOf]; omega
          · go_wp2
            go_roundw
            case rel => exact ⟨k + 1, by omega, by go_num, hbi.out⟩
            case measure => simp [intOf]; omega
      · clear HIX HIY HIV LAW
        go_wp2_with fail
        refine (alive_any _).mono ?_
        rintro e w6 ⟨rfl, b6⟩
        have B6 := Lib.hid (below_next (below_next B3.out hb.out (Nat.le_refl _)) b6 (Nat.le_refl _))
        clear b6
        go_wp2
        go_ret
        exact ⟨rfl, B6.out⟩
end Go.Proofs.Ytaolkplecdbadaa

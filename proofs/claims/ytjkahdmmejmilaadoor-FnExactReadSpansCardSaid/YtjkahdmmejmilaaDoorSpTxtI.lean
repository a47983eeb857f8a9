/-
  PROVED HERE: what SpansText of the program returns. Conditions: each theorem's own.
-/
import Derived.Test.YtjkahdmmejmilaaDoorSpTxt
set_option linter.unusedVariables false
set_option linter.unusedSimpArgs false
namespace Go.Proofs.YtjkahdmmejmilaaDoor
open Go.RowKit
set_option maxRecDepth 100000

theorem info_str : (Tryd.prog.info? 9).map (fun i => (i.zero, i.size, i.bytes)) = some (some (.string ⟨#[]⟩), 1, 16) := by kernel_rfl
theorem accT_xs (xs : List DSpan) : accT xs xs.length = Lib.join (xs.map runT) [44] := by unfold accT; rw [List.take_length]

set_option maxHeartbeats 4000000 in
theorem implTxt_any (v : Value) (xs : List DSpan) (w : World) (h : SRow 2 encSpan w v xs) (htab : PwTab w) : Calls Tryd.prog 10 #[v] w (RetT (spTxt xs) w) := by
  have SV := Lib.hid (fun w h => implSpansValid_any v xs w h)
  have SR0 := Lib.hid h
  have TAB := Lib.hid htab
  have hlen := h.len
  obtain ⟨a, cap, hv, _⟩ := h
  clear htab
  cases hval : spB xs
  · have et : spTxt xs = [] := by unfold spTxt; rw [hval]; rfl
    rw [hval] at SV
    rw [et]
    subst hv
    clear et hval
    go_enter Tryd.func10, Tryd.ntmps10
    go_wp2_with (go_at_call 23; refine (SV.out _ SR0.out).mono ?_)
    rintro e w1 ⟨rfl, b1⟩
    have B1 := Lib.hid b1
    clear b1
    go_wp2
    go_ret
    exact ⟨rfl, B1.out⟩
  · obtain ⟨h10, hall⟩ := spB_all hval
    have et : Hid (spTxt xs = Lib.join (xs.map runT) [44]) := by show _ = _; unfold spTxt; rw [hval, if_pos rfl, accT_xs]
    have AL : Hid ((Lib.join (xs.map runT) [44]).length ≤ 62 * 10) := by
      have := accT_len xs hall xs.length (Nat.le_refl _)
      rw [accT_xs] at this
      show _ ≤ _
      omega
    rw [hval] at SV
    have HA := Lib.hid hall
    obtain ⟨T, hT⟩ : ∃ T, T = spTxt xs := ⟨_, rfl⟩
    rw [← hT] at et ⊢
    obtain ⟨n, hn⟩ : ∃ n, n = xs.length := ⟨_, rfl⟩
    rw [← hn] at hv hlen h10
    have HN := Lib.hid hn
    have HC : Hid (∀ k (hk : k < xs.length), ∃ b off, a = some ⟨b, off, none⟩ ∧ b < w.heap.size ∧ w.cell? ⟨b, off + k * 2, none⟩ = some (.int .i64 xs[k].f0) ∧ w.cell? ⟨b, off + k * 2 + 1, none⟩ = some (.int .i64 xs[k].f1)) := by
      intro k hk
      obtain ⟨b, off, cap', e, hbl, hc⟩ := SR0.out.pos encSpan_pos (by omega)
      have q := hc k hk
      rw [e] at hv
      have ea : a = some ⟨b, off, none⟩ := by cases hv; rfl
      exact ⟨b, off, ea, hbl, by simpa using q 0 _ rfl, q 1 _ rfl⟩
    obtain ⟨i0, hi0, hz0, hz1, hz2⟩ : ∃ i, Tryd.prog.info? 9 = some i ∧ i.zero = some (.string ⟨#[]⟩) ∧ i.size = 1 ∧ i.bytes = 16 := by
      obtain ⟨i, h1, h2⟩ := Option.map_eq_some_iff.1 info_str
      simp only [Prod.mk.injEq] at h2
      exact ⟨i, h1, h2.1, h2.2.1, h2.2.2⟩
    subst hv
    clear hval hT hn hall
    go_enter Tryd.func10, Tryd.ntmps10
    go_wp2_with (go_at_call 23; refine (SV.out _ SR0.out).mono ?_)
    rintro e w1 ⟨rfl, b1⟩
    have B1 := Lib.hid b1
    clear b1
    go_wp2
    go_loopw [3, 11] (fun o kk wr => ∃ k : Nat, k ≤ n ∧ kk = .int .i64 k ∧ Hid (wr.ownsRow w.heap.size 9 1 o k ((xs.take k).map fun x => Value.string (bs (runT x)))) ∧ Hid (Below w.heap.size w wr)) (fun _ kk _ => n - (intOf kk).toNat)
    case atStart => exact ⟨0, Nat.zero_le _, rfl, World.ownsRow_nil _ _ _ _, B1.out⟩
    case round =>
      obtain ⟨k, hk, rfl, ho, hb⟩ := hrel
      by_cases hlt : k < n
      · have hk' : k < xs.length := by rw [← HN.out]; exact hlt
        obtain ⟨b, off, ea, hbl, d0, d1⟩ := HC.out k hk'
        have c0 : wr.cell? ⟨b, off + k * 2, none⟩ = some (.int .i64 xs[k].f0) := (hb.out.cell (p := ⟨b, off + k * 2, none⟩) hbl).trans d0
        have c1 : wr.cell? ⟨b, off + k * 2 + 1, none⟩ = some (.int .i64 xs[k].f1) := (hb.out.cell (p := ⟨b, off + k * 2 + 1, none⟩) hbl).trans d1
        obtain ⟨x1, x2, x3⟩ := HA.out _ (List.getElem_mem hk')
        have tk : Hid (xs.take (k + 1) = xs.take k ++ [xs[k]]) := List.take_succ_eq_append_getElem hk'
        obtain ⟨z, hz⟩ : ∃ z, z = xs[k] := ⟨_, rfl⟩
        rw [← hz] at c0 c1 x1 x2 x3 tk
        have RT := Lib.hid (fun w h => runText_any z x1 x2 x3 w h)
        obtain ⟨R, hR⟩ : ∃ R, R = runT z := ⟨_, rfl⟩
        rw [← hR] at RT
        have HR := Lib.hid hR
        clear hR
        have hb1 : Hid (Below w.heap.size w (wr.alloc (.cells #[.int .i64 z.f0, .int .i64 z.f1] 41))) := hb.out.alloc (by have := hb.out.size; omega) _
        have ho1 := Lib.hid (ho.out.alloc (.cells #[.int .i64 z.f0, .int .i64 z.f1] 41))
        clear hz d0 d1 hb
        subst ea
        have hbr : b < wr.heap.size := World.block_lt_of_cell? wr ⟨b, off + k * 2, none⟩ c0
        go_wp2_with (go_at_call 24; refine (RT.out _ (TAB.out.below hb1.out (Nat.le_refl _))).mono ?_)
        rintro e w5 ⟨rfl, b5⟩
        have hb5 := Lib.hid (below_next hb1.out b5 (Nat.le_refl _))
        have ho5 := Lib.hid (owns_below ho1.out b5)
        have hs5 := hb5.out.size
        clear b5 hb1 ho1 ho c0 c1 RT
        go_wp2_with (at_builtin; refine append_mine _ rfl _ _ 44 rfl w.heap.size 9 i0 (.string ⟨#[]⟩) 1 16 Tryd.underlying44 hi0 hz0 hz1 hz2 rfl (by decide) _ _ _ rfl (ho5.out.alloc _) ⟨w5.heap.size, 0, none⟩ 1 1 [.string (bs R)] rfl rfl (by simpa using cells_new w5 [_] _) (by intro u hu; simp at hu; subst hu; rfl) (by unfold maxLen; omega) (by omega) (by simp; omega) ?_; intro v' w6 hown' hgrow hmv)
        have bf := (hb5.out.alloc hs5 (.cells #[.string (bs R)] 9)).grown hgrow (by simp; omega) (fun j hj => (ho5.out.lt j hj).1)
        have own2 : Hid (w6.ownsRow w.heap.size 9 1 v' (k + 1) ((xs.take (k + 1)).map fun x => Value.string (bs (runT x)))) := by
          show World.ownsRow _ _ _ _ _ _ _
          rw [tk.out, List.map_append, List.map_cons, List.map_nil, ← HR.out]
          exact hown'
        clear hown' hmv hgrow tk
        go_roundw
        case rel => exact ⟨k + 1, by omega, by go_num, own2.out, bf⟩
        case measure => simp [intOf]; omega
      · obtain rfl : k = n := by omega
        have ho2 : wr.ownsRow w.heap.size 9 1 u3 k ((xs.map fun x => bs (runT x)).map Value.string) := by
          have := ho.out
          rw [HN.out, List.take_length] at this
          rw [HN.out, List.map_map]
          exact this
        have E1 : Hid ((xs.map fun x => bs (runT x)).length = k) := by show _ = _; rw [List.length_map, HN.out]
        have E2 : Hid ((xs.map fun x => bs (runT x)).map (·.data.toList) = xs.map runT) := by
          show _ = _
          rw [List.map_map]
          exact List.map_congr_left fun x _ => rfl
        obtain ⟨XS, hXS⟩ : ∃ XS, XS = xs.map fun x => bs (runT x) := ⟨_, rfl⟩
        rw [← hXS] at ho2 E1 E2
        have HO := Lib.hid ho2
        have hb2 := Lib.hid hb.out
        clear ho ho2 hXS hb
        rcases HO.out.2 with ⟨rfl, hk0⟩ | ⟨g, cap', cur, rfl, h1, h2, h3, h4, h5, h6⟩
        · have E : Hid (T = []) := by
            show _ = _
            have : xs = [] := List.eq_nil_of_length_eq_zero (by rw [← HN.out, hk0])
            rw [et.out, this]
            rfl
          go_wp2_with (go_at_call 25; refine (Tryd.strings_Join_none _ _ _ _).mono ?_)
          rintro e w5 ⟨rfl, rfl⟩
          go_wp2
          go_ret
          exact ⟨by rw [E.out]; rfl, hb2.out⟩
        · have J := Lib.hid (Tryd.strings_Join g 0 cap' XS ⟨#[44]⟩ wr (fun j x hx => by
            have hj : j < k := by have := (List.getElem?_eq_some_iff.1 hx).1; rw [E1.out] at this; exact this
            rw [cell_of_row wr g (0 + j) cur 9 (0, 0) h2]
            have h7 : (cur.toList.take (k * 1))[j]? = some (Value.string x) := by rw [h6, List.getElem?_map, hx]; rfl
            rw [List.getElem?_take] at h7
            simp only [Nat.mul_one, hj, if_true] at h7
            simpa using h7) (HO.out.lt g rfl).2 (by rw [E1.out]; omega) (by rw [E1.out]; omega) (by
              rw [E2.out]
              have := AL.out
              show (Lib.join (xs.map runT) [44]).length ≤ _
              omega))
          have E : Hid (Lib.join (XS.map (·.data.toList)) (⟨#[44]⟩ : ByteArray).data.toList = T) := by show _ = _; rw [E2.out, et.out]
          rw [E.out, E1.out] at J
          clear h1 h2 h3 h4 h5 h6
          go_wp2_with (go_at_call 25; refine (J.out).mono ?_; rintro e w5 ⟨rfl, b5⟩)
          have B5 := Lib.hid (below_next hb2.out b5 (Nat.le_refl _))
          clear b5
          go_wp2
          go_ret
          exact ⟨rfl, B5.out⟩
end Go.Proofs.YtjkahdmmejmilaaDoor

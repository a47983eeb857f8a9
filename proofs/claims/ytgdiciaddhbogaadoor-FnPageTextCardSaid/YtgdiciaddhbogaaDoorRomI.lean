/-
  PROVED HERE: what the program's RomanText returns, where its table is laid. Conditions: each theorem's own.
-/
import Derived.Test.YtgdiciaddhbogaaDoorRomS
import Derived.Test.YtgdiciaddhbogaaDoorBuild
import Derived.Test.YtgdiciaddhbogaaDoorShelf
namespace Go.Proofs.YtgdiciaddhbogaaDoor
open Go.RowKit

/-- The program's table lies in memory. -/
def RomTab (w : World) : Prop := 0 < w.heap.size ∧ ∃ b off cap, w.cell? ⟨0, 0, none⟩ = some (.slice (some ⟨b, off, none⟩) 13 cap) ∧ b < w.heap.size ∧
  ∀ k, k < 13 → w.cell? ⟨b, off + k * 2, none⟩ = some (.int .i64 (rV k)) ∧ w.cell? ⟨b, off + k * 2 + 1, none⟩ = some (.string (bs (rS k)))
theorem RomTab.below {w w' : World} (h : RomTab w) (hb : Below w.heap.size w w') : RomTab w' := by
  obtain ⟨h0, b, off, cap, h1, h2, h3⟩ := h
  exact ⟨Nat.lt_of_lt_of_le h0 hb.size, b, off, cap, (hb.cell (p := ⟨0, 0, none⟩) h0).trans h1, Nat.lt_of_lt_of_le h2 hb.size, fun k hk =>
    ⟨(hb.cell (p := ⟨b, off + k * 2, none⟩) h2).trans (h3 k hk).1, (hb.cell (p := ⟨b, off + k * 2 + 1, none⟩) h2).trans (h3 k hk).2⟩⟩

set_option maxHeartbeats 4000000 in
theorem implRoman_any (n : Int) (w : World) (ht : RomTab w) : Calls Tryd.prog 9 #[.int .i64 n] w (RetT (romZ n) w) := by
  cases hin : inB n 1 3999
  · have e : romZ n = [] := by unfold romZ; rw [hin]; rfl
    have E := Lib.hid e
    clear e ht
    go_enter Tryd.func9, Tryd.ntmps9
    go_wp2_with (go_at_call 19; refine (in_any _ _ _ _).mono ?_; rintro e w' ⟨rfl, rfl⟩; rw [hin])
    go_ret
    exact ⟨by rw [E.out]; rfl, Below.refl _ _⟩
  · obtain ⟨n1, n2⟩ := inB_true hin
    obtain ⟨N, rfl⟩ := Int.eq_ofNat_of_zero_le (show 0 ≤ n by omega)
    have e : romZ (N : Int) = rom N := by unfold romZ; rw [if_pos hin]; rfl
    have hr := romF_ok N (by omega)
    rw [← e] at hr
    obtain ⟨T, hT⟩ : ∃ T, T = romZ (N : Int) := ⟨_, rfl⟩
    rw [← hT] at hr
    have HT := Lib.hid hT
    have hTl : T.length ≤ 15 := by rw [hT, e]; exact rom_len N (by omega)
    have HTL := Lib.hid hTl
    have HR : Hid (∃ f r, romF f 0 N = some r ∧ [] ++ r = T) := ⟨40, T, hr, rfl⟩
    have HI := Lib.hid hin
    obtain ⟨h0, b, off, cap, t1, t2, t3⟩ := ht
    have t1' : (w.alloc (.cells #[.pointer none, .slice none 0 0] 42)).cell? ⟨0, 0, none⟩ = some (.slice (some ⟨b, off, none⟩) 13 cap) := by
      rw [World.cell?_alloc_past _ _ _ h0]; exact t1
    have T3 := Lib.hid t3
    obtain ⟨B, hB⟩ : ∃ B, B = w.heap.size := ⟨_, rfl⟩
    have F0 := Lib.hid (Lib.IsBuilderF.of (Lib.fresh_isBuilder 42 5 w))
    have B0 := Lib.hid ((Below.refl w.heap.size w).alloc (Nat.le_refl _) (.cells #[.pointer none, .slice none 0 0] 42))
    rw [← hB] at F0 B0 t2 h0
    have HB := Lib.hid hB
    clear hT e hr hTl t1 t3
    go_enter Tryd.func9, Tryd.ntmps9
    go_wp2_with (go_at_call 19; refine (in_any _ _ _ _).mono ?_; rintro e w' ⟨rfl, rfl⟩; rw [HI.out])
    rw [← hB]
    clear hB t1'
    go_loopw [0, 11] (fun nn kk wr => ∃ (k m : Nat) (out : List UInt8), k ≤ 13 ∧ m ≤ 3999 ∧ kk = .int .i64 k ∧ nn = .int .i64 m ∧ Hid (out.length ≤ 15) ∧ Hid (∃ f r, romF f k m = some r ∧ out ++ r = T) ∧ Hid (Lib.IsBuilderF 42 5 B B (Lib.byteCells out) wr) ∧ Hid (Below B w wr)) (fun _ kk _ => 13 - (intOf kk).toNat)
    case atStart => exact ⟨0, N, [], by omega, by omega, rfl, rfl, by show (0 : Nat) ≤ 15; omega, HR.out, F0.out, B0.out⟩
    case round =>
      obtain ⟨k, m, out, hk, hm, rfl, rfl, hol, hfr, hF, hBl⟩ := hrel
      clear F0 B0 HR
      by_cases hlt : k < 13
      · have s1 := (hBl.out.cell (p := ⟨b, off + k * 2, none⟩) t2).trans (T3.out k hlt).1
        have s2 := (hBl.out.cell (p := ⟨b, off + k * 2 + 1, none⟩) t2).trans (T3.out k hlt).2
        obtain ⟨v1, v2, v3, _⟩ := rV_bd k hlt
        obtain ⟨q, hq⟩ : ∃ q, q = wr.heap.size := ⟨_, rfl⟩
        have hqB : B < q := by
          rw [hq]
          rcases hF.out with h | h <;> exact h.lt
        have G0 : Hid ((wr.alloc (.cells #[.int .i64 (rV k), .string (bs (rS k))] 44)).heap[q]? = some (.cells #[.int .i64 (rV k), .string (bs (rS k))] 44 (0, 0))) := by
          show _ = _
          rw [hq]; exact heap_alloc_new wr _
        have F1 := Lib.hid (hF.out.alloc (.cells #[.int .i64 (rV k), .string (bs (rS k))] 44))
        have B1 := Lib.hid (hBl.out.alloc (by have := hBl.out.size; rw [← HB.out] at this; exact this) (.cells #[.int .i64 (rV k), .string (bs (rS k))] 44))
        go_wp2
        rw [← hq, show decide ((k : Int) < 13) = true from decide_eq_true (by omega)]
        clear hq hF hBl s1 s2
        go_loopw [0] (fun nn wi => ∃ (m' : Nat) (out' : List UInt8), m' ≤ 3999 ∧ nn = .int .i64 m' ∧ Hid (out'.length ≤ 15) ∧ Hid (∃ f r, romF f k m' = some r ∧ out' ++ r = T) ∧ Hid (Lib.IsBuilderF 42 5 B B (Lib.byteCells out') wi) ∧ Hid (Below B w wi) ∧ Hid (wi.heap[q]? = some (.cells #[.int .i64 (rV k), .string (bs (rS k))] 44 (0, 0)))) (fun nn _ => (intOf nn).toNat)
        case atStart => exact ⟨m, out, hm, rfl, hol.out, hfr.out, F1.out, B1.out, G0.out⟩
        case round =>
          obtain ⟨m', out', hm', rfl, hol', hfr', hF', hB', hG⟩ := hrel
          clear hol hfr F1 B1 G0
          have c0 : wr.cell? ⟨q, 0, none⟩ = some (.int .i64 (rV k)) := by rw [Lib.cell_of_heap hG.out]; rfl
          have c1 : wr.cell? ⟨q, 1, none⟩ = some (.string (bs (rS k))) := by rw [Lib.cell_of_heap hG.out]; rfl
          by_cases hge : rV k ≤ m'
          · have hfr2 : ∃ f r, romF f k (m' - rV k) = some r ∧ (out' ++ rS k) ++ r = T := by
              obtain ⟨f, r, h1, h2⟩ := hfr'.out
              obtain ⟨f', r', h3, h4⟩ := romF_take h1 hlt hge
              exact ⟨f', r', h3, by rw [List.append_assoc, ← h4]; exact h2⟩
            have hl2 : (out' ++ rS k).length ≤ 15 := by
              obtain ⟨f, r, h1, h2⟩ := hfr2
              have := congrArg List.length h2
              rw [List.length_append] at this
              have h15 : T.length ≤ 15 := HTL.out
              omega
            have F2 := Lib.hid hfr2
            have L2 := Lib.hid hl2
            have hge' : (rV k : Int) ≤ (m' : Int) := by omega
            have hwB : B ≤ wr.heap.size := by have := hB'.out.size; rw [← HB.out] at this; exact this
            have hbl : (Lib.byteCells out').length + (bs (rS k)).size ≤ 140737488355328 := by
              rw [Lib.byteCells_length]
              have h15 : out'.length ≤ 15 := hol'.out
              have : (bs (rS k)).size = (rS k).length := by simp [bs, ByteArray.size]
              omega
            have HBL := Lib.hid hbl
            clear hfr2 hl2 hfr' hol' hbl
            go_wp2_with (go_at_call 20; refine (writeString_k B B (Lib.byteCells out') (bs (rS k)) wr hF'.out HBL.out hwB).mono ?_; rintro e w5 ⟨rfl, h5, b5, k5⟩; have c0' : w5.cell? ⟨q, 0, none⟩ = some (.int .i64 (rV k)) := by rw [Lib.cell_of_heap (k5 q _ hG.out (by intro e; have := Option.some.inj e; omega) (by intro c fz e; cases e))]; rfl)
            have G5 := k5 q _ hG.out (by intro e; have := Option.some.inj e; omega) (by intro c fz e; cases e)
            have F5 : Lib.IsBuilderF 42 5 B B (Lib.byteCells (out' ++ rS k)) w5 := by
              rw [Lib.byteCells_append]
              exact .inr h5
            have B5 := hB'.out.trans b5
            have G5 := Lib.hid G5
            have F5 := Lib.hid F5
            have B5 := Lib.hid B5
            clear h5 b5 k5 hG hF' hB'
            go_wp2
            go_roundw
            case rel => exact ⟨m' - rV k, out' ++ rS k, by omega, by congr 1; omega, L2.out, F2.out, F5.out, B5.out, G5.out⟩
            case measure => simp [intOf]; omega
          · have F2 : Hid (∃ f r, romF f (k + 1) m' = some r ∧ out' ++ r = T) := by
              obtain ⟨f, r, h1, h2⟩ := hfr'.out
              obtain ⟨f', h3⟩ := romF_skip h1 hlt hge
              exact ⟨f', r, h3, h2⟩
            have hge' : ¬ (rV k : Int) ≤ (m' : Int) := by omega
            clear hfr'
            go_wp2
            go_roundw
            case rel => exact ⟨k + 1, m', out', by omega, hm', by go_num, rfl, hol'.out, F2.out, hF'.out, hB'.out⟩
            case measure => simp [intOf]; omega
      · obtain rfl : k = 13 := by omega
        have e : out = T := by
          obtain ⟨f, r, h1, h2⟩ := hfr.out
          rw [romF_end h1 (Nat.le_refl _), List.append_nil] at h2
          exact h2
        have E := Lib.hid e
        have hwB : B ≤ wr.heap.size := by have := hBl.out.size; rw [← HB.out] at this; exact this
        clear e hfr
        go_wp2_with (go_at_call 21; refine (Tryd.Builder_String_any_k B B out wr hF.out hwB).mono ?_; rintro e w5 ⟨rfl, h5, b5, k5⟩)
        have B5 := Lib.hid (hBl.out.trans b5)
        clear h5 b5 k5
        go_ret
        refine ⟨by rw [← HT.out, ← E.out]; rfl, ?_⟩
        have := B5.out
        rw [HB.out] at this
        exact this
end Go.Proofs.YtgdiciaddhbogaaDoor

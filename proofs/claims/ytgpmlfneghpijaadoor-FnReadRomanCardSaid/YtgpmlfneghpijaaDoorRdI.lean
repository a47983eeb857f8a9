/-
  PROVED HERE: what the program's ReadRoman returns, where its table is laid. Conditions: each theorem's own.
-/
import Derived.Test.YtgpmlfneghpijaaDoorRdP
import Derived.Test.YtgpmlfneghpijaaDoorRomI
namespace Go.Proofs.YtgpmlfneghpijaaDoor
open Go.RowKit

/-- The number that a text is read as. -/
def readR (l : List UInt8) : Nat := if l = [] ∨ romZ (rd l).1 ≠ l then 0 else (rd l).1
theorem bs_extract (l : List UInt8) (a : Nat) : (bs l).extract a l.length = bs (l.drop a) := by
  apply ByteArray.ext
  simp [bs, ByteArray.data_extract]
  rw [List.take_of_length_le (by simp)]
theorem hasPrefix_any (l p : List UInt8) (w : World) : Calls Tryd.prog 22 #[.string (bs l), .string (bs p)] w fun e w' => e = .returned (.bool (p.isPrefixOf l)) ∧ w = w' := by
  refine (Tryd.strings_HasPrefix (bs l) (bs p) w).mono ?_
  rintro e w' ⟨rfl, rfl⟩
  exact ⟨rfl, rfl⟩

set_option maxHeartbeats 4000000 in
theorem implRead_any (l : List UInt8) (hl : l.length ≤ 1048600) (w : World) (ht : RomTab w) : Calls Tryd.prog 11 #[.string (bs l)] w fun e w' => e = .returned (.int .i64 (readR l)) ∧ Below w.heap.size w w' := by
  have HR : Hid (∃ f, rdF f 0 0 l = some (rd l)) := ⟨_, rd_ok l⟩
  have HE : Hid (readR l = if l = [] ∨ romZ (rd l).1 ≠ l then 0 else (rd l).1) := rfl
  obtain ⟨X, hX⟩ : ∃ X, X = rd l := ⟨_, rfl⟩
  rw [← hX] at HR HE
  obtain ⟨V, hV⟩ : ∃ V, V = readR l := ⟨_, rfl⟩
  rw [← hV] at HE ⊢
  have IR := Lib.hid (fun n w h => implRoman_any n w h)
  have TAB := Lib.hid ht
  obtain ⟨h0, b, off, cap, t1, t2, t3⟩ := ht
  have T3 := Lib.hid t3
  clear hX hV t3
  go_enter Tryd.func11, Tryd.ntmps11
  go_wp2
  go_loopw [3, 4, 10] (fun nn rr kk wr => ∃ (k n : Nat) (r : List UInt8), k ≤ 13 ∧ n ≤ 5000 ∧ kk = .int .i64 k ∧ nn = .int .i64 n ∧ rr = .string (bs r) ∧ r.length ≤ 1048600 ∧ Hid (∃ f, rdF f k n r = some X) ∧ Hid (Below w.heap.size w wr)) (fun _ _ kk _ => 13 - (intOf kk).toNat)
  case atStart => exact ⟨0, 0, l, by omega, by omega, rfl, rfl, rfl, hl, HR.out, Below.refl _ _⟩
  case round =>
    obtain ⟨k, n, r, hk, hn, rfl, rfl, rfl, hrl, hF, hBl⟩ := hrel
    clear HR
    by_cases hlt : k < 13
    · have s1 := (hBl.out.cell (p := ⟨b, off + k * 2, none⟩) t2).trans (T3.out k hlt).1
      have s2 := (hBl.out.cell (p := ⟨b, off + k * 2 + 1, none⟩) t2).trans (T3.out k hlt).2
      obtain ⟨v1, v2, v3, v4⟩ := rV_bd k hlt
      obtain ⟨q, hq⟩ : ∃ q, q = wr.heap.size := ⟨_, rfl⟩
      have G0 : Hid ((wr.alloc (.cells #[.int .i64 (rV k), .string (bs (rS k))] 40)).heap[q]? = some (.cells #[.int .i64 (rV k), .string (bs (rS k))] 40 (0, 0))) := by
        show _ = _
        rw [hq]; exact heap_alloc_new wr _
      have B1 := Lib.hid (hBl.out.alloc hBl.out.size (.cells #[.int .i64 (rV k), .string (bs (rS k))] 40))
      go_wp2
      rw [← hq, show decide ((k : Int) < 13) = true from decide_eq_true (by omega)]
      clear hq hBl s1 s2
      go_loopw [3, 4] (fun nn rr wi => ∃ (n' : Nat) (r' : List UInt8), n' ≤ 5000 ∧ nn = .int .i64 n' ∧ rr = .string (bs r') ∧ r'.length ≤ 1048600 ∧ Hid (∃ f, rdF f k n' r' = some X) ∧ Hid (Below w.heap.size w wi) ∧ Hid (wi.heap[q]? = some (.cells #[.int .i64 (rV k), .string (bs (rS k))] 40 (0, 0)))) (fun nn _ _ => 5001 - (intOf nn).toNat)
      case atStart => exact ⟨n, r, hn, rfl, rfl, hrl, hF.out, B1.out, G0.out⟩
      case round =>
        obtain ⟨n', r', hn', rfl, rfl, hrl', hF', hB', hG⟩ := hrel
        clear hF B1 G0
        have c0 : wr.cell? ⟨q, 0, none⟩ = some (.int .i64 (rV k)) := by rw [Lib.cell_of_heap hG.out]; rfl
        have c1 : wr.cell? ⟨q, 1, none⟩ = some (.string (bs (rS k))) := by rw [Lib.cell_of_heap hG.out]; rfl
        cases hp : (rS k).isPrefixOf r'
        · have F2 : Hid (∃ f, rdF f (k + 1) n' r' = some X) := by
            obtain ⟨f, h1⟩ := hF'.out
            exact rdF_skip h1 hlt (fun e => by rw [hp] at e; exact absurd e.1 (by decide))
          have HP := Lib.hid hp
          clear hF' hp
          go_wp2_with (go_at_call 22; refine (hasPrefix_any _ _ _).mono ?_; rintro e w' ⟨rfl, rfl⟩; rw [HP.out])
          go_roundw
          case rel => exact ⟨k + 1, n', r', by omega, hn', by go_num, rfl, rfl, hrl', F2.out, hB'.out⟩
          case measure => simp [intOf]; omega
        · by_cases hn3 : n' ≤ 3999
          · have hpl : (rS k).length ≤ r'.length := (List.isPrefixOf_iff_prefix.1 hp).length_le
            have F2 : Hid (∃ f, rdF f k (n' + rV k) (r'.drop (rS k).length) = some X) := by
              obtain ⟨f, h1⟩ := hF'.out
              exact rdF_take h1 hlt hp hn3
            have HP := Lib.hid hp
            clear hF' hp
            go_wp2_with (go_at_call 22; refine (hasPrefix_any _ _ _).mono ?_; rintro e w' ⟨rfl, rfl⟩; rw [HP.out])
            exact ⟨⟨n' + rV k, r'.drop (rS k).length, by omega, by congr 1, by rw [bs_extract], by rw [List.length_drop]; omega, F2.out, hB'.out, hG.out⟩, by simp [intOf]; omega⟩
          · have F2 : Hid (∃ f, rdF f (k + 1) n' r' = some X) := by
              obtain ⟨f, h1⟩ := hF'.out
              exact rdF_skip h1 hlt (fun e => hn3 e.2)
            have HP := Lib.hid hp
            clear hF' hp
            go_wp2_with (go_at_call 22; refine (hasPrefix_any _ _ _).mono ?_; rintro e w' ⟨rfl, rfl⟩; rw [HP.out])
            go_roundw
            case rel => exact ⟨k + 1, n', r', by omega, hn', by go_num, rfl, rfl, hrl', F2.out, hB'.out⟩
            case measure => simp [intOf]; omega
    · obtain rfl : k = 13 := by omega
      have e : X = (n, r) := by
        obtain ⟨f, h1⟩ := hF.out
        exact rdF_end h1 (Nat.le_refl _)
      have E := Lib.hid e
      clear e hF
      by_cases hl0 : l = []
      · have hV : V = 0 := by rw [HE.out, if_pos (.inl hl0)]
        subst hl0
        have HV := Lib.hid hV
        clear hV
        go_wp2
        go_ret
        exact ⟨by rw [HV.out]; rfl, hBl.out⟩
      · have hie : l.isEmpty = false := by cases l with
          | nil => exact absurd rfl hl0
          | cons x t => rfl
        have HTB := Lib.hid (TAB.out.below hBl.out)
        cases hz : romZ (n : Int) == l
        · have hV : V = 0 := by
            rw [HE.out, if_pos]
            right
            rw [E.out]
            intro e
            rw [e] at hz
            simp at hz
          have HV := Lib.hid hV
          clear hV hl0
          go_wp2_with (go_at_call 8; refine (IR.out _ _ HTB.out).mono ?_; rintro e w5 ⟨rfl, b5⟩)
          go_ret
          exact ⟨by rw [HV.out]; rfl, below_next hBl.out b5 (Nat.le_refl _)⟩
        · have hV : V = n := by
            rw [HE.out, E.out, if_neg]
            rintro (e | e)
            · exact hl0 e
            · exact e (by simpa using hz)
          have HV := Lib.hid hV
          clear hV hl0
          go_wp2_with (go_at_call 8; refine (IR.out _ _ HTB.out).mono ?_; rintro e w5 ⟨rfl, b5⟩)
          go_ret
          exact ⟨by rw [HV.out]; rfl, below_next hBl.out b5 (Nat.le_refl _)⟩
end Go.Proofs.YtgpmlfneghpijaaDoor

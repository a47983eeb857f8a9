/-
  PROVED HERE: what the reference's ReadRoman returns. Conditions: each theorem's own.
-/
import Derived.Test.YtgpmlfneghpijaaDoorRdI
import Derived.Deep.QuietTactic
import Derived.BigQuiet
namespace Go.Proofs.YtgpmlfneghpijaaDoor
open Go.RowKit

theorem rd_rom (n : Nat) (h : n < 4000) : rd (rom n) = (n, []) := by
  have := List.all_eq_true.1 rd_all n (List.mem_range.2 h)
  simpa using this
/-- The reference's own test says the same. -/
theorem readR_spec (l : List UInt8) : readR l = if (rd l).2 ≠ [] ∨ romZ (rd l).1 ≠ l then 0 else (rd l).1 := by
  unfold readR
  by_cases h0 : l = []
  · subst h0
    rfl
  · by_cases h1 : romZ (rd l).1 = l
    · have hz : inB ((rd l).1 : Int) 1 3999 = true := by
        cases hh : inB ((rd l).1 : Int) 1 3999
        · unfold romZ at h1
          rw [hh] at h1
          exact absurd h1.symm h0
        · rfl
      have hb := inB_true hz
      have e : l = rom (rd l).1 := by
        conv => lhs; rw [← h1]
        unfold romZ
        rw [if_pos hz]
        rfl
      have h2 : (rd l).2 = [] := by
        have := rd_rom (rd l).1 (by omega)
        rw [← e] at this
        rw [this]
      rw [if_neg (by rintro (e | e); exact h0 e; exact e h1), if_neg (by rintro (e | e); exact e h2; exact e h1)]
    · rw [if_pos (.inr h1), if_pos (.inr h1)]
theorem isPrefix_iff (p l : List UInt8) : p.isPrefixOf l = true ↔ p.length ≤ l.length ∧ l.take p.length = p := by
  rw [List.isPrefixOf_iff_prefix, List.prefix_iff_eq_take]
  constructor
  · intro h
    refine ⟨?_, h.symm⟩
    have := congrArg List.length h
    rw [List.length_take] at this
    omega
  · intro h
    exact h.2.symm

set_option maxHeartbeats 4000000 in
theorem specRead_any (l : List UInt8) (hl : l.length ≤ 1048600) (w : World) : Calls Tryd.prog 12 #[.string (bs l)] w fun e w' => e = .returned (.int .i64 (readR l)) ∧ Below w.heap.size w w' := by
  have HR : Hid (∃ f, rdF f 0 0 (l.drop 0) = some (rd l)) := ⟨_, rd_ok l⟩
  have HE := Lib.hid (readR_spec l)
  obtain ⟨X, hX⟩ : ∃ X, X = rd l := ⟨_, rfl⟩
  rw [← hX] at HR HE
  obtain ⟨V, hV⟩ : ∃ V, V = readR l := ⟨_, rfl⟩
  rw [← hV] at HE ⊢
  have SR := Lib.hid (fun n w => specRoman_any n w)
  clear hX hV
  go_enter Tryd.func12, Tryd.ntmps12
  go_wp2_with (go_at_call 15; refine (signs_any _).mono ?_; rintro e w1 ⟨g1, g2, rfl, h1, b1⟩)
  have H1 := Lib.hid h1
  have B1 := Lib.hid b1
  clear h1 b1
  go_loopw [3, 4, 7] (fun nn aa kk wr => ∃ (k n at' : Nat), k ≤ 13 ∧ n ≤ 5000 ∧ at' ≤ l.length ∧ kk = .int .i64 k ∧ nn = .int .i64 n ∧ aa = .int .i64 at' ∧ Hid (∃ f, rdF f k n (l.drop at') = some X) ∧ Hid (Below w1.heap.size w1 wr)) (fun _ _ kk _ => 13 - (intOf kk).toNat)
  case atStart => exact ⟨0, 0, 0, by omega, by omega, by omega, rfl, rfl, rfl, HR.out, Below.refl _ _⟩
  case round =>
    obtain ⟨k, n, at', hk, hn, hat, rfl, rfl, rfl, hF, hBl⟩ := hrel
    clear HR
    by_cases hlt : k < 13
    · obtain ⟨v1, v2, v3, v4⟩ := rV_bd k hlt
      go_wp2
      go_loopw [3, 4] (fun nn aa wi => ∃ (n' a' : Nat), n' ≤ 5000 ∧ a' ≤ l.length ∧ nn = .int .i64 n' ∧ aa = .int .i64 a' ∧ Hid (∃ f, rdF f k n' (l.drop a') = some X) ∧ Hid (Below w1.heap.size w1 wi)) (fun nn _ _ => 5001 - (intOf nn).toNat)
      case atStart => exact ⟨n, at', hn, hat, rfl, rfl, hF.out, hBl.out⟩
      case round =>
        obtain ⟨n', a', hn', ha', rfl, rfl, hF', hB'⟩ := hrel
        clear hF hBl
        have s1 := (hB'.out.cell (p := ⟨g1, k, none⟩) H1.out.1).trans (H1.out.2.2 k hlt).1
        have s2 := (hB'.out.cell (p := ⟨g2, k, none⟩) H1.out.2.1).trans (H1.out.2.2 k hlt).2
        by_cases hle : a' + (rS k).length ≤ l.length
        · have hw : IntKind.i64.wrap ((a' : Int) + ((rS k).length : Int)) = (a' : Int) + ((rS k).length : Int) := IntWalk.i64_in _ (by omega)
          have hd : decide ((a' : Int) + ((rS k).length : Int) ≤ (l.length : Int)) = true := decide_eq_true (by omega)
          have hle' : (a' : Int) + ((rS k).length : Int) ≤ (l.length : Int) := by omega
          have hsl : ∀ w : World, (Instr.slice 9 (.string (bs l)) (some (.int .i64 (a' : Int))) (some (.int .i64 ((a' : Int) + ((rS k).length : Int)))) none).run Tryd.prog w = .ok (.string (bs ((l.drop a').take (rS k).length))) w := by
            intro w
            rw [run_slice_string w 9 (bs l) .i64 .i64 _ _ Tryd.underlying9 (by omega) (by omega) (by simp [bs, ByteArray.size]; omega)]
            congr 2
            apply ByteArray.ext
            simp [bs, ByteArray.data_extract]
            rw [show ((a' : Int) + ((rS k).length : Int)).toNat - a' = (rS k).length by omega]
          cases hq : ((l.drop a').take (rS k).length == rS k)
          · have F2 : Hid (∃ f, rdF f (k + 1) n' (l.drop a') = some X) := by
              obtain ⟨f, h1⟩ := hF'.out
              refine rdF_skip h1 hlt (fun e => ?_)
              have := ((isPrefix_iff _ _).1 e.1).2
              rw [this] at hq
              simp at hq
            clear hF'
            go_wp2_with fail
            go_quiet (fail)
            go_wp2
            go_roundw
            case rel => exact ⟨k + 1, n', a', by omega, hn', ha', by go_num, rfl, rfl, F2.out, below_drewN hB'.out _⟩
            case measure => simp [intOf]; omega
          · have hpf : (rS k).isPrefixOf (l.drop a') = true := (isPrefix_iff _ _).2 ⟨by rw [List.length_drop]; omega, by simpa using hq⟩
            by_cases hn3 : n' ≤ 3999
            · have F2 : Hid (∃ f, rdF f k (n' + rV k) (l.drop (a' + (rS k).length)) = some X) := by
                obtain ⟨f, h1⟩ := hF'.out
                have := rdF_take h1 hlt hpf hn3
                rwa [List.drop_drop] at this
              clear hF'
              have hn3' : decide ((n' : Int) ≤ 3999) = true := decide_eq_true (by omega)
              go_wp2_with fail
              go_quiet (fail)
              go_wp2
              exact ⟨⟨n' + rV k, a' + (rS k).length, by omega, by omega, by congr 1, by congr 1, F2.out, below_drewN hB'.out _⟩, by simp [intOf]; omega⟩
            · have F2 : Hid (∃ f, rdF f (k + 1) n' (l.drop a') = some X) := by
                obtain ⟨f, h1⟩ := hF'.out
                exact rdF_skip h1 hlt (fun e => hn3 e.2)
              have hn3' : decide ((n' : Int) ≤ 3999) = false := decide_eq_false (by omega)
              clear hF'
              go_wp2_with fail
              go_quiet (fail)
              go_wp2
              go_roundw
              case rel => exact ⟨k + 1, n', a', by omega, hn', ha', by go_num, rfl, rfl, F2.out, below_drewN hB'.out _⟩
              case measure => simp [intOf]; omega
        · have F2 : Hid (∃ f, rdF f (k + 1) n' (l.drop a') = some X) := by
            obtain ⟨f, h1⟩ := hF'.out
            refine rdF_skip h1 hlt (fun e => hle ?_)
            have := ((isPrefix_iff _ _).1 e.1).1
            rw [List.length_drop] at this
            omega
          clear hF'
          have hw : IntKind.i64.wrap ((a' : Int) + ((rS k).length : Int)) = (a' : Int) + ((rS k).length : Int) := IntWalk.i64_in _ (by omega)
          have hd : decide ((a' : Int) + ((rS k).length : Int) ≤ (l.length : Int)) = false := decide_eq_false (by omega)
          go_wp2_with fail
          go_quiet (fail)
          go_wp2
          go_roundw
          case rel => exact ⟨k + 1, n', a', by omega, hn', ha', by go_num, rfl, rfl, F2.out, below_drewN hB'.out _⟩
          case measure => simp [intOf]; omega
    · obtain rfl : k = 13 := by omega
      have e : X = (n, l.drop at') := by
        obtain ⟨f, h1⟩ := hF.out
        exact rdF_end h1 (Nat.le_refl _)
      have E := Lib.hid e
      have hbb := B1.out.trans (hBl.out.mono B1.out.size)
      have HBB := Lib.hid hbb
      clear e hF hbb
      by_cases ha : at' = l.length
      · have hae : (at' : Int) = (l.length : Int) := by omega
        have hnil : l.drop at' = [] := by rw [ha]; exact List.drop_length
        cases hz : romZ (n : Int) == l
        · have hV : V = 0 := by
            rw [HE.out, if_pos]
            right
            rw [E.out]
            intro e
            rw [e] at hz
            simp at hz
          have HV := Lib.hid hV
          clear hV hnil ha
          go_wp2_with (go_at_call 7; refine (SR.out _ _).mono ?_; rintro e w5 ⟨rfl, b5⟩)
          go_ret
          exact ⟨by rw [HV.out]; rfl, below_next HBB.out b5 (Nat.le_refl _)⟩
        · have hV : V = n := by
            rw [HE.out, E.out, if_neg]
            rintro (e | e)
            · exact e hnil
            · exact e (by simpa using hz)
          have HV := Lib.hid hV
          clear hV hnil ha
          go_wp2_with (go_at_call 7; refine (SR.out _ _).mono ?_; rintro e w5 ⟨rfl, b5⟩)
          go_ret
          exact ⟨by rw [HV.out]; rfl, below_next HBB.out b5 (Nat.le_refl _)⟩
      · have hV : V = 0 := by
          rw [HE.out, E.out, if_pos]
          left
          intro e
          have := congrArg List.length e
          rw [List.length_drop] at this
          simp at this
          omega
        have HV := Lib.hid hV
        have hae : ¬ (at' : Int) = (l.length : Int) := by omega
        clear hV
        go_wp2
        go_ret
        exact ⟨by rw [HV.out]; rfl, HBB.out⟩
end Go.Proofs.YtgpmlfneghpijaaDoor

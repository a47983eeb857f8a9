/-
  PROVED HERE: what the reference's RomanText returns. Conditions: each theorem's own.
-/
import Derived.Test.YtgdiciaddhbogaaDoorRomP
import Derived.Test.YtgdiciaddhbogaaDoorCore
import Derived.StillTailTactics
import Derived.OwnWalk
import Derived.WalkSpells
import Derived.WalkLawsBesides
namespace Go.Proofs.YtgdiciaddhbogaaDoor
open Go.RowKit

/-- The two tables. -/
def SignsAt (w : World) (g1 g2 : Nat) : Prop := g1 < w.heap.size ∧ g2 < w.heap.size ∧ ∀ k, k < 13 → w.cell? ⟨g1, k, none⟩ = some (.string (bs (rS k))) ∧ w.cell? ⟨g2, k, none⟩ = some (.int .i64 (rV k))
theorem SignsAt.below {w w' : World} {g1 g2 B : Nat} (h : SignsAt w g1 g2) (hb : Below B w w') (hB : g1 < B ∧ g2 < B) : SignsAt w' g1 g2 :=
  ⟨Nat.lt_of_lt_of_le h.1 hb.size, Nat.lt_of_lt_of_le h.2.1 hb.size, fun k hk => ⟨(hb.cell (p := ⟨g1, k, none⟩) hB.1).trans (h.2.2 k hk).1, (hb.cell (p := ⟨g2, k, none⟩) hB.2).trans (h.2.2 k hk).2⟩⟩
def sgnV : List Value := rSL.map fun l => .string (bs l)
def valV : List Value := rVL.map fun v => .int .i64 ((v : Nat) : Int)
theorem sgnV_get : ∀ k, k < 13 → sgnV[k]? = some (.string (bs (rS k))) := by
  intro k hk
  rcases (by omega : k = 0 ∨ k = 1 ∨ k = 2 ∨ k = 3 ∨ k = 4 ∨ k = 5 ∨ k = 6 ∨ k = 7 ∨ k = 8 ∨ k = 9 ∨ k = 10 ∨ k = 11 ∨ k = 12) with rfl | rfl | rfl | rfl | rfl | rfl | rfl | rfl | rfl | rfl | rfl | rfl | rfl <;> rfl
theorem valV_get : ∀ k, k < 13 → valV[k]? = some (.int .i64 (rV k)) := by
  intro k hk
  rcases (by omega : k = 0 ∨ k = 1 ∨ k = 2 ∨ k = 3 ∨ k = 4 ∨ k = 5 ∨ k = 6 ∨ k = 7 ∨ k = 8 ∨ k = 9 ∨ k = 10 ∨ k = 11 ∨ k = 12) with rfl | rfl | rfl | rfl | rfl | rfl | rfl | rfl | rfl | rfl | rfl | rfl | rfl <;> rfl

theorem signs_any (w : World) : Calls Tryd.prog 22 #[] w fun e w' => ∃ g1 g2, e = .returned (.tuple #[.slice (some ⟨g1, 0, none⟩) 13 13, .slice (some ⟨g2, 0, none⟩) 13 13]) ∧ SignsAt w' g1 g2 ∧ Below w.heap.size w w' := by
  go_enter Tryd.func22, Tryd.ntmps22
  go_wp2
  go_ret2
  have e1 : (w.alloc (.cells sgnV.toArray 9)).heap.size = w.heap.size + 1 := by simp
  refine ⟨w.heap.size, w.heap.size + 1, rfl, ?_, ((Below.refl w.heap.size w).alloc (Nat.le_refl _) _).alloc (by simp) _⟩
  show SignsAt ((w.alloc (.cells sgnV.toArray 9)).alloc (.cells valV.toArray 3)) _ _
  refine ⟨by simp; omega, by simp, fun k hk => ⟨?_, ?_⟩⟩
  · rw [World.cell?_alloc_past _ _ _ (by simp)]
    have := cells_new w sgnV 9 k _ (sgnV_get k hk)
    have e : ((⟨w.heap.size, 0, none⟩ : Addr).add k) = ⟨w.heap.size, k, none⟩ := by unfold Addr.add; split <;> simp_all
    rwa [e] at this
  · have := cells_new (w.alloc (.cells sgnV.toArray 9)) valV 3 k _ (valV_get k hk)
    have e : ((⟨w.heap.size + 1, 0, none⟩ : Addr).add k) = ⟨w.heap.size + 1, k, none⟩ := by unfold Addr.add; split <;> simp_all
    rw [e1, e] at this
    exact this

theorem bs_append (a b : List UInt8) : bs a ++ bs b = bs (a ++ b) := by
  apply ByteArray.ext
  simp [bs]
/-- It returns this text. -/
def RetT (l : List UInt8) (w : World) (e : Ending) (w' : World) : Prop := e = .returned (.string (bs l)) ∧ Below w.heap.size w w'

set_option maxHeartbeats 2000000 in
theorem specRoman_any (n : Int) (w : World) : Calls Tryd.prog 12 #[.int .i64 n] w (RetT (romZ n) w) := by
  cases hin : inB n 1 3999
  · have e : romZ n = [] := by unfold romZ; rw [hin]; rfl
    have E := Lib.hid e
    clear e
    go_enter Tryd.func12, Tryd.ntmps12
    go_wp2_with (go_at_call 10; refine (l1In_any _ _ _ _).mono ?_; rintro e w' ⟨rfl, rfl⟩; rw [hin])
    go_ret
    exact ⟨by rw [E.out]; rfl, Below.refl _ _⟩
  · obtain ⟨n1, n2⟩ := inB_true hin
    obtain ⟨N, rfl⟩ := Int.eq_ofNat_of_zero_le (show 0 ≤ n by omega)
    have e : romZ (N : Int) = rom N := by unfold romZ; rw [if_pos hin]; rfl
    have hr := romF_ok N (by omega)
    rw [← e] at hr
    obtain ⟨T, hT⟩ : ∃ T, T = romZ (N : Int) := ⟨_, rfl⟩
    rw [← hT] at hr
    have HT := Lib.hid hT
    have hTl : T.length ≤ 15 := by rw [hT, e]; exact rom_len N (by omega)
    have HTL := Lib.hid hTl
    have HR : Hid (∃ f r, romF f 0 N = some r ∧ [] ++ r = T) := ⟨40, T, hr, rfl⟩
    have HI := Lib.hid hin
    clear hT e hr hTl
    go_enter Tryd.func12, Tryd.ntmps12
    go_wp2_with (first | (go_at_call 10; refine (l1In_any _ _ _ _).mono ?_; rintro e w' ⟨rfl, rfl⟩; rw [HI.out]) | (go_at_call 22; refine (signs_any _).mono ?_; rintro e w1 ⟨g1, g2, rfl, h1, b1⟩))
    have H1 := Lib.hid h1
    have B1 := Lib.hid b1
    clear h1 b1
    go_loopw [0, 3, 6] (fun nn o kk wr => ∃ (k m : Nat) (out : List UInt8), k ≤ 13 ∧ m ≤ 3999 ∧ kk = .int .i64 k ∧ nn = .int .i64 m ∧ o = .string (bs out) ∧ Hid (out.length ≤ 15) ∧ Hid (∃ f r, romF f k m = some r ∧ out ++ r = T) ∧ wr = w1) (fun _ _ kk _ => 13 - (intOf kk).toNat)
    case atStart => exact ⟨0, N, [], by omega, by omega, rfl, rfl, rfl, by show (0 : Nat) ≤ 15; omega, HR.out, rfl⟩
    case round =>
      obtain ⟨k, m, out, hk, hm, rfl, rfl, rfl, hol, hfr, rfl⟩ := hrel
      by_cases hlt : k < 13
      · have s1 := (H1.out.2.2 k hlt).1
        have s2 := (H1.out.2.2 k hlt).2
        obtain ⟨v1, v2, v3, _⟩ := rV_bd k hlt
        go_wp2
        go_loopw [0, 3] (fun nn o wq => ∃ (m' : Nat) (out' : List UInt8), m' ≤ 3999 ∧ nn = .int .i64 m' ∧ o = .string (bs out') ∧ Hid (out'.length ≤ 15) ∧ Hid (∃ f r, romF f k m' = some r ∧ out' ++ r = T) ∧ wq = wr) (fun nn _ _ => (intOf nn).toNat)
        case atStart => exact ⟨m, out, hm, rfl, rfl, hol.out, hfr.out, rfl⟩
        case round =>
          obtain ⟨m', out', hm', rfl, rfl, hol', hfr', rfl⟩ := hrel
          by_cases hge : rV k ≤ m'
          · have hfr2 : ∃ f r, romF f k (m' - rV k) = some r ∧ (out' ++ rS k) ++ r = T := by
              obtain ⟨f, r, h1, h2⟩ := hfr'.out
              obtain ⟨f', r', h3, h4⟩ := romF_take h1 hlt hge
              exact ⟨f', r', h3, by rw [List.append_assoc, ← h4]; exact h2⟩
            have hl2 : (out' ++ rS k).length ≤ 15 := by
              obtain ⟨f, r, h1, h2⟩ := hfr2
              have := congrArg List.length h2
              rw [List.length_append] at this
              have h15 : T.length ≤ 15 := HTL.out
              omega
            have hcl : ¬ 9223372036854775807 < out'.length + (rS k).length := by rw [← List.length_append]; omega
            have F2 := Lib.hid hfr2
            have L2 := Lib.hid hl2
            clear hfr2 hl2 hfr' hol'
            have hge' : (rV k : Int) ≤ (m' : Int) := by omega
            go_wp2
            exact ⟨⟨m' - rV k, out' ++ rS k, by omega, by congr 1; omega, by rw [bs_append], L2.out, F2.out, trivial⟩, by simp [intOf]; omega⟩
          · have F2 : Hid (∃ f r, romF f (k + 1) m' = some r ∧ out' ++ r = T) := by
              obtain ⟨f, r, h1, h2⟩ := hfr'.out
              obtain ⟨f', h3⟩ := romF_skip h1 hlt hge
              exact ⟨f', r, h3, h2⟩
            have hge' : ¬ (rV k : Int) ≤ (m' : Int) := by omega
            clear hfr'
            go_wp2
            go_roundw
            case rel => exact ⟨k + 1, m', out', by omega, hm', by go_num, rfl, rfl, hol'.out, F2.out, trivial⟩
            case measure => simp [intOf]; omega
      · obtain rfl : k = 13 := by omega
        have e : out = T := by
          obtain ⟨f, r, h1, h2⟩ := hfr.out
          rw [romF_end h1 (Nat.le_refl _), List.append_nil] at h2
          exact h2
        have E := Lib.hid e
        clear e hfr
        go_wp2
        go_ret
        exact ⟨by rw [← HT.out, ← E.out]; rfl, B1.out⟩
end Go.Proofs.YtgdiciaddhbogaaDoor

/-
  PROVED HERE: the reference's numbers as texts. Conditions: each theorem's own.
-/
import Derived.Test.YtfallcoehmmbeaaGreatDoorRomS
import Derived.Lib.ItoaNum
import Derived.Lib.ItoaMem
import Derived.Lib.ItoaLen
import Derived.Laws.BytesArg
set_option linter.unusedVariables false
set_option linter.unusedSimpArgs false
namespace Go.Proofs.YtfallcoehmmbeaaGreatDoor
open Go.RowKit

/-- The digits ahead of the last one. -/
def preD (n : Nat) : List UInt8 := if n < 10 then [] else Lib.decDigits (n / 10)
theorem preD_last (n : Nat) : Lib.decDigits n = preD n ++ [UInt8.ofNat (48 + n % 10)] := by
  unfold preD
  rw [Lib.decDigits]
  split
  · rename_i h
    rw [Nat.mod_eq_of_lt h]
    rfl
  · rfl

/-- One byte, as a text. -/
theorem conv1 (w : World) (x : Int) : (convert 22 9 (.slice (some ⟨w.heap.size, 0, none⟩) 1 1)).run Tryz.prog (w.alloc (.cells #[.int .u8 x] 5)) = .ok (.string (bs [UInt8.ofNat x.toNat])) (w.alloc (.cells #[.int .u8 x] 5)) := by
  have h := run_convert_bytes_arg (P := Tryz.prog) (w.alloc (.cells #[.int .u8 x] 5)) 22 5 Tryz.underlying22 Tryz.underlying5 w.heap.size 0 1 1 [x] (by simp) (fun i hi => ?_) 9 Tryz.underlying9
  · rw [h]
    rfl
  · obtain rfl : i = 0 := by omega
    rw [World.cell?_alloc_at _ _ _ _ rfl]
    rfl

set_option maxRecDepth 100000 in
set_option maxHeartbeats 2000000 in
theorem specNum_any (N : Nat) (hN : N ≤ 100000) (w : World) : Calls Tryz.prog 28 #[.int .i64 N] w (RetT (Lib.decDigits N) w) := by
  have cv := conv1 w (48 + (N : Int) % 10)
  have I0 : Hid (preD N ++ [UInt8.ofNat (48 + (N : Int) % 10).toNat] = Lib.decDigits N) := by
    show _ = _
    rw [preD_last N]
    congr 3
  have L0 : Hid ((Lib.decDigits N).length ≤ 30) := by
    have := Lib.itoa_length_le (N : Int) (by omega) (by omega)
    rw [Lib.itoa_nonneg] at this
    show _ ≤ _
    omega
  obtain ⟨T, hT⟩ : ∃ T, T = Lib.decDigits N := ⟨_, rfl⟩
  rw [← hT] at I0 L0 ⊢
  obtain ⟨y, hy⟩ : ∃ y, y = UInt8.ofNat (48 + (N : Int) % 10).toNat := ⟨_, rfl⟩
  rw [← hy] at cv I0
  clear hT hy
  have B0 := Lib.hid ((Below.refl w.heap.size w).alloc (Nat.le_refl _) (.cells #[.int .u8 (48 + (N : Int) % 10)] 5))
  go_enter Tryz.func28, Tryz.ntmps28
  go_wp2
  clear cv
  go_loopw [0, 3] (fun nn o wr => ∃ (n : Nat) (out : List UInt8), n ≤ 100000 ∧ nn = .int .i64 n ∧ o = .string (bs out) ∧ Hid (preD n ++ out = T) ∧ Hid (Below w.heap.size w wr)) (fun nn _ _ => (intOf nn).toNat)
  case atStart => exact ⟨N, [y], hN, rfl, rfl, I0.out, B0.out⟩
  case round =>
    obtain ⟨n, out, hn, rfl, rfl, hpre, hb⟩ := hrel
    clear I0 B0
    by_cases h9 : 9 < n
    · have hol : out.length ≤ 30 := by
        have := congrArg List.length hpre.out
        rw [List.length_append] at this
        have := L0.out
        omega
      have c1 : ¬ 9223372036854775807 < 1 + out.length := by omega
      have d1 : ((n : Int)).tdiv 10 = ((n / 10 : Nat) : Int) := by rw [Int.tdiv_eq_ediv_of_nonneg (by omega)]; omega
      obtain ⟨m, hm⟩ : ∃ m, m = n / 10 := ⟨_, rfl⟩
      rw [← hm] at d1
      have cv := conv1 wr (48 + (m : Int) % 10)
      have P2 : Hid (preD m ++ ([UInt8.ofNat (48 + (m : Int) % 10).toNat] ++ out) = T) := by
        have h := hpre.out
        unfold preD at h
        rw [if_neg (by omega), ← hm, preD_last m, List.append_assoc] at h
        show _ = _
        rw [← h]
        congr 4
      have hmn : m < n ∧ m ≤ 100000 := by omega
      obtain ⟨m1, m2⟩ := hmn
      have BB := Lib.hid (hb.out.alloc hb.out.size (.cells #[.int .u8 (48 + (m : Int) % 10)] 5))
      obtain ⟨y, hy⟩ : ∃ y, y = UInt8.ofNat (48 + (m : Int) % 10).toNat := ⟨_, rfl⟩
      rw [← hy] at cv P2
      clear hm hpre hb hy
      go_wp2
      exact ⟨⟨m, [y] ++ out, m2, rfl, by rw [bs_append], P2.out, BB.out⟩, by simp [intOf]; omega⟩
    · have e : out = T := by
        have h := hpre.out
        unfold preD at h
        rw [if_pos (by omega)] at h
        exact h
      have E := Lib.hid e
      clear e hpre
      go_wp2
      go_ret
      exact ⟨by rw [← E.out]; rfl, hb.out⟩
end Go.Proofs.YtfallcoehmmbeaaGreatDoor

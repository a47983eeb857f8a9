/-
  PROVED HERE: rows of strings, marked. Conditions: each theorem's own.
-/
import Derived.Test.YtaolkplecdbadaaStr
import Derived.Test.YtaolkplecdbadaaRows2
import Derived.Laws.BytesArg
namespace Go.Proofs.Ytaolkplecdbadaa
open Go.RowKit

/-- It returns some string. -/
def SomeStr (w : World) (e : Ending) (w' : World) : Prop := ∃ s : ByteArray, e = .returned (.string s) ∧ Below w.heap.size w w'

set_option maxHeartbeats 4000000 in
theorem markText_any (k : Int) (w : World) (h0 : 0 ≤ k) (h1 : k ≤ 2000000000) : Calls Try.prog 57 #[.int .i64 k] w (SomeStr w) := by
  by_cases hk : k ≤ 0
  · go_enter Try.func57, Try.ntmps57
    go_wp2
    go_ret
    exact ⟨_, rfl, Below.refl _ _⟩
  · go_enter Try.func57, Try.ntmps57
    go_wp2
    go_loopw [0, 3] (fun ki oi wr => ∃ (q : Int) (s : ByteArray), ki = .int .i64 q ∧ oi = .string s ∧ 0 ≤ q ∧ (s.size : Int) + q ≤ 2000000000 ∧ Hid (Below w.heap.size w wr)) (fun ki _ _ => (intOf ki).toNat)
    case atStart => exact ⟨k, _, rfl, rfl, by omega, by show ((0 : Nat) : Int) + k ≤ _; omega, Below.refl _ _⟩
    case round =>
      obtain ⟨q, s, rfl, rfl, hq, hs, hb⟩ := hrel
      by_cases hq0 : 0 < q
      · have hcv := run_convert_bytes_arg (P := Try.prog) (wr.alloc (.cells #[.int .u8 (48 + q % 10)] 5)) 28 5 Try.underlying28 Try.underlying5 wr.heap.size 0 1 1 [48 + q % 10] rfl (by intro i hi; obtain rfl : i = 0 := (by omega); rw [World.cell?_alloc_at _ _ _ _ rfl]; rfl) 9 Try.underlying9
        have hsz := strOfNums_size [48 + q % 10]
        obtain ⟨d, hd⟩ : ∃ d, d = strOfNums [48 + q % 10] := ⟨_, rfl⟩
        rw [← hd] at hcv hsz
        have hsz1 : d.size = 1 := hsz
        clear hsz hd
        have bf := hb.out.alloc hb.out.size (.cells #[.int .u8 (48 + q % 10)] 5)
        have BF := Lib.hid bf
        clear bf
        have ds : ((d ++ s).size : Int) + q / 10 ≤ 2000000000 := by
          have e : (d ++ s).size = d.size + s.size := by simp
          have : q / 10 ≤ q - 1 := by omega
          omega
        have DS := Lib.hid ds
        clear ds
        go_wp2
        exact ⟨⟨q / 10, d ++ s, rfl, rfl, by omega, DS.out, BF.out⟩, by simp [intOf]; omega⟩
      · go_wp2
        go_ret
        exact ⟨_, rfl, hb.out⟩
theorem strs_map (xs : List ByteArray) : xs.flatMap encS = xs.map Value.string := by
  induction xs with
  | nil => rfl
  | cons x t ih => rw [List.flatMap_cons, ih]; rfl
theorem strs_set (xs : List ByteArray) (j : Nat) (s : ByteArray) : (xs.flatMap encS).set j (.string s) = (xs.set j s).flatMap encS := by
  rw [strs_map, strs_map, List.map_set]

/-- What marking a row of strings leaves: a row of as many strings. -/
def MarkStrPost (k : Int) (n base : Nat) (v : Value) (w : World) (e : Ending) (w' : World) : Prop :=
  ∃ ys : List ByteArray, ys.length = n ∧ e = .returned (.int .i64 (k + n)) ∧ w'.ownsRow base 9 1 v n (ys.flatMap encS) ∧ w.grownBy w' v.ownBlock

set_option maxHeartbeats 2000000 in
theorem markStringS_any (v : Value) (xs : List ByteArray) (k : Int) (base : Nat) (w : World) (h : w.ownsRow base 9 1 v xs.length (xs.flatMap encS)) (hk : 0 ≤ k) (hk2 : k ≤ 1000000000) (hx : xs.length ≤ 1000000000) :
    Calls Try.prog 35 #[v, .int .i64 k] w (MarkStrPost k xs.length base v w) := by
  by_cases h0 : xs.length = 0
  · obtain rfl : xs = [] := List.eq_nil_of_length_eq_zero h0
    obtain ⟨a, cap, rfl⟩ : ∃ a cap, v = .slice a 0 cap := (SRow.of_owns encS_len rfl h).empty
    have HH := Lib.hid h
    clear h h0 hx
    go_enter Try.func35, Try.ntmps35
    go_wp2
    refine wp_loop_rounds 1 ?_
    rw [rounds_succ]
    go_wp2
    go_ret
    exact ⟨[], rfl, by simp, HH.out, grownBy_refl _ _⟩
  · obtain ⟨n, hn⟩ : ∃ n, n = xs.length := ⟨_, rfl⟩
    rw [← hn] at h hx h0 ⊢
    obtain ⟨g, cap, rfl⟩ : ∃ g cap, v = .slice (some ⟨g, 0, none⟩) n cap := by
      rcases h.2 with ⟨_, e⟩ | ⟨g, cap, _, e, _⟩
      · omega
      · exact ⟨g, cap, e⟩
    have HH : Hid (∃ ys : List ByteArray, ys.length = n ∧ w.ownsRow base 9 1 (.slice (some ⟨g, 0, none⟩) n cap) n (ys.flatMap encS)) := ⟨xs, hn.symm, h⟩
    clear h hn
    go_enter Try.func35, Try.ntmps35
    go_wp2
    go_loopw [1, 5] (fun kk i wr => ∃ j : Nat, j ≤ n ∧ i = .int .i64 j ∧ kk = .int .i64 (k + j) ∧ Hid (∃ ys : List ByteArray, ys.length = n ∧ wr.ownsRow base 9 1 (.slice (some ⟨g, 0, none⟩) n cap) n (ys.flatMap encS)) ∧ w.grownBy wr (some g)) (fun _ i _ => n - (intOf i).toNat)
    case atStart => exact ⟨0, Nat.zero_le _, rfl, by simp, HH.out, grownBy_refl _ _⟩
    case round =>
      obtain ⟨j, hj, rfl, rfl, ho, hg⟩ := hrel
      by_cases hlt : j < n
      · have HG := Lib.hid hg
        clear hg
        go_wp2_with fail
        refine (markText_any (k + j) _ (by omega) (by omega)).mono ?_
        rintro e w1 ⟨s, rfl, b1⟩
        obtain ⟨ys, hys, how⟩ := ho.out
        have how1 := owns_below how b1
        have e1 : ∃ u, w1.cell? ⟨g, j, none⟩ = some u := by
          have e := how1.cellAt j (by omega)
          exact ⟨_, e.trans (List.getElem?_eq_getElem (by rw [strs_map, List.length_map]; omega))⟩
        obtain ⟨u, e1⟩ := e1
        have e2 := how1.frozenAt j
        have e3 := how1.stored j (.string s)
        rw [strs_set] at e3
        obtain ⟨e3, e4⟩ := e3
        have E3 := Lib.hid e3
        have E4 := Lib.hid (grownBy_trans (grownBy_trans HG.out (grown_of_below b1 _)) e4)
        have HL : Hid ((ys.set j s).length = n) := by show _ = _; rw [List.length_set]; exact hys
        clear e3 e4 ho how how1 hys b1
        go_wp2
        go_roundw
        case rel => exact ⟨j + 1, by omega, by go_num, by go_num, ⟨_, HL.out, E3.out⟩, E4.out⟩
        case measure => simp [intOf]; omega
      · obtain rfl : j = n := by omega
        have HG := Lib.hid hg
        clear hg
        go_wp2
        go_ret
        obtain ⟨ys, hys, how⟩ := ho.out
        exact ⟨ys, hys, rfl, how, HG.out⟩
theorem blk_apart {vY vX : Value} {a b c d : Nat} (hY : ∀ k, vY.ownBlock = some k → a ≤ k ∧ k < b) (hX : ∀ k, vX.ownBlock = some k → c ≤ k ∧ k < d) (h : b ≤ c ∨ d ≤ a) : vY.ownBlock = none ∨ vY.ownBlock ≠ vX.ownBlock := by
  cases e : vY.ownBlock with
  | none => exact .inl rfl
  | some k =>
    right
    intro e2
    have h1 := hY k e
    have h2 := hX k e2.symm
    omega
end Go.Proofs.Ytaolkplecdbadaa

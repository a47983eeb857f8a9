/-
  PROVED HERE: what the drawing functions of titles and of lines hand back. Conditions: each theorem's own.
-/
import Derived.Test.YtfallcoehmmbeaaDoorTitF
import Derived.Test.YtfallcoehmmbeaaDoorOpen
import Derived.Test.YtfallcoehmmbeaaDoorLineS
set_option linter.unusedVariables false
set_option linter.unusedSimpArgs false
namespace Go.Proofs.YtfallcoehmmbeaaDoor
open Go.RowKit
set_option maxRecDepth 100000

/-- It returns some title; nothing that was there turns. -/
def DrawT (w : World) (e : Ending) (w' : World) : Prop := ∃ (l : List UInt8) (lev pg : Int), l.length ≤ 41 ∧ e = .returned (.agg #[.string (bs l), .int .i64 lev, .int .i64 pg]) ∧ Below w.heap.size w w'
theorem drawTitleValid_any (a : Option Addr) (n cap : Nat) (w : World) (h : Code8 w a n cap) : Calls Tryd.prog 14 #[.slice a n cap] w (DrawT w) := by
  have A0 := Lib.hid ((Below.refl w.heap.size w).alloc (Nat.le_refl _) (.cells #[.string ⟨#[]⟩, .int .i64 0, .int .i64 0] 26))
  have R0 := Lib.hid (owns_lit3 w w.heap.size 26 3 1 [.string ⟨#[]⟩, .int .i64 0, .int .i64 0] (Nat.le_refl _) (by unfold maxLen; omega) rfl)
  have H := Lib.hid (h.below A0.out)
  obtain ⟨wA, hwA⟩ : ∃ wA, wA = w.alloc (.cells #[.string ⟨#[]⟩, .int .i64 0, .int .i64 0] 26) := ⟨_, rfl⟩
  have A0 : Hid (Below w.heap.size w wA) := by rw [hwA]; exact A0.out
  have R0 : Hid (wA.ownsRow w.heap.size 26 3 (.slice (some ⟨w.heap.size, 0, none⟩) 1 1) 1 [.string ⟨#[]⟩, .int .i64 0, .int .i64 0]) := by rw [hwA]; exact R0.out
  rw [← hwA] at H
  clear h
  go_enter Tryd.func14, Tryd.ntmps14
  go_wp2_with fail
  rw [← hwA]
  have SA : Hid (wA.heap.size = w.heap.size + 1) := Lib.hid (by rw [hwA]; unfold World.alloc; exact Array.size_push ..)
  clear hwA
  refine (open_any a n cap wA H.out).mono ?_
  rintro e w1 ⟨B, rfl, hr, hB, hb⟩
  have HB := Lib.hid hb
  have R1 := Lib.hid (owns_below R0.out hb)
  clear hb R0 H
  go_wp2_with fail
  refine (l20Title_to B 0 2 w1 ⟨0, Nat.le_refl _, hr⟩ (by omega) (by omega) (by omega)).mono ?_
  rintro e w2 ⟨l, p, q, hl, rfl, hd⟩
  have hsA : w.heap.size ≤ wA.heap.size := A0.out.size
  have hsB : w.heap.size ≠ B := by have := SA.out; omega
  have OR := Lib.hid (R1.out.kept hd.2.1 (.inr (by simpa [Value.ownBlock] using hsB)))
  have B2 := Lib.hid (A0.out.trans ((hd.below HB.out hB).mono hsA))
  clear hd hr R1
  obtain ⟨rc0, rc1, rc2⟩ := own3 OR.out
  have rz0 := OR.out.frozenAt 0
  have rz1 := OR.out.frozenAt 1
  have rz2 := OR.out.frozenAt 2
  obtain ⟨rf0, rf1, rf2⟩ := own3_read OR.out (.string (bs l)) (.int .i64 p) (.int .i64 q)
  go_wp2
  refine bodyPost_ret (v := .agg #[.string (bs l), .int .i64 p, .int .i64 q]) (by simp [results, Tryd.results14, go_sem, rf0, rf1, rf2]) rfl ⟨l, p, q, hl, rfl, own3_put OR.out B2.out (Nat.le_refl _) _ _ _⟩
/-- It returns some text that is not long. -/
def DrawSome (w : World) (e : Ending) (w' : World) : Prop := ∃ l : List UInt8, l.length ≤ 1000 ∧ e = .returned (.string (bs l)) ∧ Below w.heap.size w w'
theorem lnTxt_len (l : List UInt8) (lev pg wd : Int) : (lnTxt l lev pg wd).length ≤ 400 := by
  unfold lnTxt
  split
  · rename_i h
    unfold lnOk at h
    simp only [Bool.and_eq_true] at h
    have a := titOk_in h.1
    have b := inB_true h.2.1
    have c := decDigits_len pg.toNat (by omega)
    unfold lnHead lnTail lnPts
    simp only [List.length_append, List.length_replicate, List.length_cons, List.length_nil]
    omega
  · simp
theorem Dr.grow {w wx w' : World} {B m : Nat} (h : Dr w wx B m) (hb : Below wx.heap.size wx w') : Dr w w' B m :=
  ⟨h.1.kept (grown_of_below hb none) (by intro k h; cases h), grownBy_trans h.2.1 (grown_of_below hb _), h.2.2⟩

set_option maxHeartbeats 4000000 in
theorem drawReadContents_any (a : Option Addr) (n cap : Nat) (w : World) (h : Code8 w a n cap) : Calls Tryd.prog 22 #[.slice a n cap] w (DrawSome w) := by
  have H := Lib.hid h
  clear h
  go_enter Tryd.func22, Tryd.ntmps22
  go_wp2_with fail
  refine (open_any a n cap w H.out).mono ?_
  rintro e w1 ⟨B, rfl, hr, hB, hb⟩
  have HB := Lib.hid hb
  go_wp2_with fail
  refine (l20Title_to B 0 0 w1 ⟨0, Nat.le_refl _, hr⟩ (by omega) (by omega) (by omega)).mono ?_
  rintro e w2 ⟨tl, p, q, htl, rfl, hd⟩
  have D2 := Lib.hid hd
  clear hb hr hd
  go_wp2_with fail
  refine (pick_to B 20 41 w2 D2.out.1 (by omega) (by omega) (by omega)).mono ?_
  rintro e w3 ⟨k, k0, k1, rfl, r3, g3⟩
  have D3 := Lib.hid (D2.out.pick g3 r3)
  have LN := Lib.hid (fun w => specLine_any tl p q (20 + k) (by omega) w)
  have hlen := lnTxt_len tl p q (20 + k)
  obtain ⟨T, hT⟩ : ∃ T, T = lnTxt tl p q (20 + k) := ⟨_, rfl⟩
  obtain ⟨V, hV⟩ : ∃ V, V = lnOk tl p q (20 + k) := ⟨_, rfl⟩
  rw [← hT, ← hV] at LN
  rw [← hT] at hlen
  clear r3 g3 D2 hT hV
  go_wp2_with (go_at_call 16; refine (LN.out _).mono ?_)
  rintro e w4 ⟨rfl, b4⟩
  have D4 := Lib.hid (D3.out.grow b4)
  clear b4 D3 LN
  go_wp2_with fail
  refine (odd_to B 21 3 w4 D4.out.1 (by omega) (by omega) (by omega)).mono ?_
  rintro e w5 ⟨b, rfl, r5, g5⟩
  have D5 := Lib.hid (D4.out.pick g5 r5)
  clear r5 g5 D4
  cases b
  · go_wp2
    go_ret
    exact ⟨T, by omega, rfl, D5.out.below HB.out hB⟩
  · have c1 : ¬ 9223372036854775807 < T.length + 1 := by omega
    have c2 : ¬ 9223372036854775807 < 1 + T.length := by omega
    have dA := D5.out.alloc (.cells #[.string ⟨#[]⟩, .string ⟨#[97, 32, 46, 46, 32, 49]⟩, .string ⟨#[97, 32, 46, 46, 46, 32, 48, 49]⟩, .string ⟨#[32, 97, 32, 46, 46, 46, 32, 49]⟩, .string ⟨#[97, 32, 32, 46, 46, 46, 32, 49]⟩, .string ⟨#[97, 46, 32, 46, 46, 46, 32, 49]⟩, .string ⟨#[46, 46, 46, 32, 49]⟩, .string ⟨#[97, 32, 46, 46, 46, 49]⟩, .string (bs T ++ (⟨#[32]⟩ : ByteArray)), .string ((⟨#[32]⟩ : ByteArray) ++ bs T), .string (bs T ++ (⟨#[49]⟩ : ByteArray))] 9)
    go_wp2_with fail
    refine (pick_to B 22 11 _ dA.1 (by omega) (by omega) (by omega)).mono ?_
    rintro e w6 ⟨q, q0, q1, rfl, r6, g6⟩
    have hc := fun i (u : Value) (hu : (#[.string ⟨#[]⟩, .string ⟨#[97, 32, 46, 46, 32, 49]⟩, .string ⟨#[97, 32, 46, 46, 46, 32, 48, 49]⟩, .string ⟨#[32, 97, 32, 46, 46, 46, 32, 49]⟩, .string ⟨#[97, 32, 32, 46, 46, 46, 32, 49]⟩, .string ⟨#[97, 46, 32, 46, 46, 46, 32, 49]⟩, .string ⟨#[46, 46, 46, 32, 49]⟩, .string ⟨#[97, 32, 46, 46, 46, 49]⟩, .string (bs T ++ (⟨#[32]⟩ : ByteArray)), .string ((⟨#[32]⟩ : ByteArray) ++ bs T), .string (bs T ++ (⟨#[49]⟩ : ByteArray))] : Array Value)[i]? = some u) => g6.cell (a := ⟨w5.heap.size, i, none⟩) (v := u) ((World.cell?_alloc_at _ _ _ _ rfl).trans hu) (by have := D5.out.1.lt; simp; omega)
    have D6 := Lib.hid (dA.pick g6 r6)
    obtain ⟨X, hX, cz⟩ : ∃ X : List UInt8, X.length ≤ 1000 ∧ w6.cell? ⟨w5.heap.size, q.toNat, none⟩ = some (.string (bs X)) := by
      rcases (by omega : q = 0 ∨ q = 1 ∨ q = 2 ∨ q = 3 ∨ q = 4 ∨ q = 5 ∨ q = 6 ∨ q = 7 ∨ q = 8 ∨ q = 9 ∨ q = 10) with rfl | rfl | rfl | rfl | rfl | rfl | rfl | rfl | rfl | rfl | rfl
      · exact ⟨[], by simp; try omega, hc 0 _ rfl⟩
      · exact ⟨[97, 32, 46, 46, 32, 49], by simp; try omega, hc 1 _ rfl⟩
      · exact ⟨[97, 32, 46, 46, 46, 32, 48, 49], by simp; try omega, hc 2 _ rfl⟩
      · exact ⟨[32, 97, 32, 46, 46, 46, 32, 49], by simp; try omega, hc 3 _ rfl⟩
      · exact ⟨[97, 32, 32, 46, 46, 46, 32, 49], by simp; try omega, hc 4 _ rfl⟩
      · exact ⟨[97, 46, 32, 46, 46, 46, 32, 49], by simp; try omega, hc 5 _ rfl⟩
      · exact ⟨[46, 46, 46, 32, 49], by simp; try omega, hc 6 _ rfl⟩
      · exact ⟨[97, 32, 46, 46, 46, 49], by simp; try omega, hc 7 _ rfl⟩
      · exact ⟨T ++ [32], by simp; try omega, by rw [← bs_append]; exact hc 8 _ rfl⟩
      · exact ⟨[32] ++ T, by simp; try omega, by rw [← bs_append]; exact hc 9 _ rfl⟩
      · exact ⟨T ++ [49], by simp; try omega, by rw [← bs_append]; exact hc 10 _ rfl⟩
    clear hc dA r6 g6 D5
    go_wp2
    go_ret
    exact ⟨X, hX, rfl, D6.out.below HB.out hB⟩
end Go.Proofs.YtfallcoehmmbeaaDoor

/-
  PROVED HERE: what drawing lines hands back; the plain law of rows of hyphens. Conditions: each theorem's own.
-/
import Derived.Test.YtaolkplecdbadaaDr
import Derived.Test.YtaolkplecdbadaaMine
import Derived.Test.YtaolkplecdbadaaHyph
namespace Go.Proofs.Ytaolkplecdbadaa
open Go.RowKit

def hyR : Int → List ByteArray → Int
  | r, [] => r
  | r, s :: t => if hyB s = true then hyR (r + 1) t else hyR 0 t
theorem hyGo_bd : ∀ (xs : List ByteArray) (m r : Int), 0 ≤ r → r ≤ m → hyR r xs ≤ hyGo m r xs ∧ 0 ≤ hyR r xs ∧ m ≤ hyGo m r xs ∧ (hyGo m r xs ≤ m ∨ hyGo m r xs ≤ r + xs.length ∨ hyGo m r xs ≤ xs.length)
  | [], m, r, h0, h => by rw [hyGo, hyR]; exact ⟨h, h0, Int.le_refl _, .inl (Int.le_refl _)⟩
  | s :: t, m, r, h0, h => by
    rw [hyGo, hyR, List.length_cons]
    split
    · have := hyGo_bd t (max m (r + 1)) (r + 1) (by omega) (by omega)
      omega
    · have := hyGo_bd t m 0 (by omega) (by omega)
      omega
theorem hyGo_snoc : ∀ (xs : List ByteArray) (y : ByteArray) (m r : Int), hyB y = true → hyGo m r (xs ++ [y]) = max (hyGo m r xs) (hyR r xs + 1)
  | [], y, m, r, h => by
    show (if hyB y = true then hyGo (max m (r + 1)) (r + 1) [] else hyGo m 0 []) = _
    rw [if_pos h]
    rfl
  | s :: t, y, m, r, h => by
    rw [List.cons_append, hyGo, hyGo, hyR]
    split
    · exact hyGo_snoc t y _ _ h
    · exact hyGo_snoc t y _ _ h
/-- What holds of the row of some lines, and of the row of these with one more that ends with a hyphen. -/
theorem hy_law (xs : List ByteArray) (y : ByteArray) (h : hyB y = true) : 0 ≤ hyGo 0 0 xs ∧ hyGo 0 0 xs ≤ xs.length ∧ (hyGo 0 0 (xs ++ [y]) = hyGo 0 0 xs ∨ hyGo 0 0 (xs ++ [y]) = hyGo 0 0 xs + 1) ∧ 1 ≤ hyGo 0 0 (xs ++ [y]) := by
  have a := hyGo_bd xs 0 0 (Int.le_refl _) (Int.le_refl _)
  rw [hyGo_snoc xs y 0 0 h]
  omega

/-- It returns lines that are its own; nothing that was there turns. -/
def DrawHy (w : World) (e : Ending) (w' : World) : Prop :=
  ∃ (xs : List ByteArray) (v : Value), xs.length ≤ 10 ∧ Short xs ∧ v ≠ .slice none 0 0 ∧ e = .returned v ∧ w'.ownsRow w.heap.size 9 1 v xs.length (xs.flatMap encS) ∧ Below w.heap.size w w'

set_option maxHeartbeats 4000000 in
theorem drawHyphen_any (a : Option Addr) (n cap : Nat) (w : World) (h : Code8 w a n cap) : Calls Try.prog 18 #[.slice a n cap] w (DrawHy w) := by
  have H := Lib.hid h
  obtain ⟨i0, hi, hz0, hz1, hz2⟩ := info_parts info_string
  clear h
  go_enter Try.func18, Try.ntmps18
  go_wp2_with fail
  refine (open_any a n cap w H.out).mono ?_
  rintro e w1 ⟨B, rfl, hr, hB, hb⟩
  have hBw := hr.lt
  have HB := Lib.hid hb
  have D0 := Lib.hid ((Dr.start (⟨0, Nat.le_refl _, hr⟩ : RdTo B 0 w1)).alloc (.cells #[] 9))
  have O0 := Lib.hid (World.ownsRow_made (base := w1.heap.size) (e := 9) (size := 1) w1 #[] 0 (Nat.le_refl _) (Nat.zero_le _) rfl)
  clear hr hb H
  go_wp2_with fail
  refine (pick_to B 0 9 _ D0.out.1 (by omega) (by omega) (by omega)).mono ?_
  rintro e w2 ⟨k1, a1, b1, rfl, r1, g1⟩
  have D1 := Lib.hid (D0.out.pick g1 r1)
  have O1 := Lib.hid (own_pick O0.out hBw g1)
  clear r1 g1 D0 O0
  go_wp2_with fail
  go_loopw [4, 5] (fun v i wr => ∃ k j : Nat, k + j ≤ 9 ∧ i = .int .i64 j ∧ Hid (v ≠ .slice none 0 0) ∧ Hid (∃ xs : List ByteArray, xs.length = k ∧ Short xs ∧ wr.ownsRow w1.heap.size 9 1 v k (xs.flatMap encS)) ∧ Hid (Dr w1 wr B (1 + k))) (fun _ i _ => (intOf i).toNat)
  case atStart => exact ⟨0, k1.toNat, by omega, by simp; omega, by show _ ≠ _; simp, ⟨[], rfl, (fun s hs => by cases hs), O1.out⟩, D1.out⟩
  case round =>
    obtain ⟨k, j, hk, rfl, hv, ho, hd⟩ := hrel
    clear D1 O1
    by_cases hj : 0 < j
    · obtain ⟨xs, hxl, hxs, hown⟩ := ho.out
      have D4 := Lib.hid ((hd.out.alloc (.cells #[.string ⟨#[97, 45]⟩, .string ⟨#[45]⟩, .string ⟨#[97]⟩, .string ⟨#[]⟩, .string ⟨#[98, 45, 32]⟩] 9)).alloc (.cells #[.int .i64 0, .int .i64 0, .int .i64 0, .int .i64 1, .int .i64 2, .int .i64 3, .int .i64 4] 3))
      have N4 := Lib.hid ((hown.alloc (.cells #[.string ⟨#[97, 45]⟩, .string ⟨#[45]⟩, .string ⟨#[97]⟩, .string ⟨#[]⟩, .string ⟨#[98, 45, 32]⟩] 9)).alloc (.cells #[.int .i64 0, .int .i64 0, .int .i64 0, .int .i64 1, .int .i64 2, .int .i64 3, .int .i64 4] 3))
      have hlt4 := hd.out.1.lt
      have hws4 := hd.out.size
      have HXS := Lib.hid hxs
      clear hd ho hown hxs
      go_wp2_with fail
      refine (pick_to B (1 + k) 7 _ D4.out.1 (by omega) (by omega) (by omega)).mono ?_
      rintro e w5 ⟨q, q0, q1, rfl, r3, g3⟩
      have c1 := fun i (u : Value) (hu : (#[.string ⟨#[97, 45]⟩, .string ⟨#[45]⟩, .string ⟨#[97]⟩, .string ⟨#[]⟩, .string ⟨#[98, 45, 32]⟩] : Array Value)[i]? = some u) => g3.cell (a := ⟨wr.heap.size, i, none⟩) (v := u) ((World.cell?_alloc_past _ _ _ (by simp)).trans ((World.cell?_alloc_at _ _ _ _ rfl).trans hu)) (by simp; omega)
      have c2 := fun i (u : Value) (hu : (#[.int .i64 0, .int .i64 0, .int .i64 0, .int .i64 1, .int .i64 2, .int .i64 3, .int .i64 4] : Array Value)[i]? = some u) => g3.cell (a := ⟨wr.heap.size + 1, i, none⟩) (v := u) ((World.cell?_alloc_at _ _ _ _ (by simp)).trans hu) (by simp; omega)
      obtain ⟨z, e2, hz0', hz1'⟩ : ∃ z : Int, w5.cell? ⟨wr.heap.size + 1, q.toNat, none⟩ = some (.int .i64 z) ∧ 0 ≤ z ∧ z ≤ 4 := by
        rcases (by omega : q = 0 ∨ q = 1 ∨ q = 2 ∨ q = 3 ∨ q = 4 ∨ q = 5 ∨ q = 6) with rfl | rfl | rfl | rfl | rfl | rfl | rfl
        · exact ⟨_, c2 0 _ rfl, by omega, by omega⟩
        · exact ⟨_, c2 1 _ rfl, by omega, by omega⟩
        · exact ⟨_, c2 2 _ rfl, by omega, by omega⟩
        · exact ⟨_, c2 3 _ rfl, by omega, by omega⟩
        · exact ⟨_, c2 4 _ rfl, by omega, by omega⟩
        · exact ⟨_, c2 5 _ rfl, by omega, by omega⟩
        · exact ⟨_, c2 6 _ rfl, by omega, by omega⟩
      obtain ⟨y, e1, hy⟩ : ∃ y : ByteArray, w5.cell? ⟨wr.heap.size, z.toNat, none⟩ = some (.string y) ∧ y.size ≤ 9223372036854775807 := by
        rcases (by omega : z = 0 ∨ z = 1 ∨ z = 2 ∨ z = 3 ∨ z = 4) with rfl | rfl | rfl | rfl | rfl
        · exact ⟨_, c1 0 _ rfl, by decide⟩
        · exact ⟨_, c1 1 _ rfl, by decide⟩
        · exact ⟨_, c1 2 _ rfl, by decide⟩
        · exact ⟨_, c1 3 _ rfl, by decide⟩
        · exact ⟨_, c1 4 _ rfl, by decide⟩
      have D5 := Lib.hid (D4.out.pick g3 r3)
      have N5 := Lib.hid (own_pick N4.out (by omega) g3)
      have hs5 := g3.size
      simp at hs5
      clear c1 c2 r3 g3 D4 N4
      go_wp2_with (at_builtin; refine wpList_append_own _ rfl _ _ 22 rfl w1.heap.size 9 i0 (.string ByteArray.empty) 1 16 Try.underlying22 hi hz0 hz1 hz2 rfl (by decide) _ _ _ rfl (N5.out.alloc _) ⟨w5.heap.size, 0, none⟩ 1 1 [.string y] rfl rfl (by simpa using cells_new w5 [_] _) (by intro u hu; simp at hu; subst hu; rfl) (by unfold maxLen; omega) (by omega) (by simp; omega) ?_; intro u' w6 hown' hgrow hiff)
      have dF := (D5.out.alloc (.cells #[.string y] 9)).push (N5.out.alloc _) (Nat.le_refl _) hgrow
      have hv' : Hid (u' ≠ .slice none 0 0) := fun e => by have := (hiff.1 e).2; omega
      clear hiff
      go_roundw
      case rel => exact ⟨k + 1, j - 1, by omega, by go_num, hv', ⟨xs ++ [y], by simp [hxl], fun s hs => by
        rcases List.mem_append.1 hs with hs | hs
        · exact HXS.out s hs
        · rw [List.mem_singleton.1 hs]; exact hy, by simpa [encS] using hown'⟩, dF.mono (by omega)⟩
      case measure => simp [intOf]; omega
    · obtain ⟨xs, hxl, hxs, hown⟩ := ho.out
      go_wp2
      go_ret
      exact ⟨xs, _, by omega, hxs, hv.out, rfl, by rw [hxl]; exact World.ownsRow.mono hown HB.out.size, hd.out.below HB.out hB⟩
end Go.Proofs.Ytaolkplecdbadaa

/-
  PROVED HERE: what AreaAt of the program and of the reference return where areas have places and sizes of at most a million. Conditions: each theorem's own.
-/
import Derived.Test.YtgbbodmggbeflaaArea
import Derived.Test.YtgbbodmggbeflaaIn
import Derived.Test.YtgbbodmggbeflaaUpAr
import Derived.StillTailTactics
import Derived.OwnWalk
namespace Go.Proofs.Ytgbbodmggbeflaa
open Go.RowKit

/-- An area's fields are not negative, at most a million. -/
def arSmall (x : DArea) : Prop := 0 ≤ x.f0 ∧ x.f0 ≤ 1000000 ∧ 0 ≤ x.f1 ∧ x.f1 ≤ 1000000 ∧ 0 ≤ x.f2 ∧ x.f2 ≤ 1000000 ∧ 0 ≤ x.f3 ∧ x.f3 ≤ 1000000

def inW (x at0 size : Int) : Bool := inB x at0 (at0 + size - 1)
theorem inW_eq (x at0 size : Int) : inW x at0 size = decide (at0 ≤ x ∧ 0 < size ∧ x < at0 + size) := by
  unfold inW inB
  rw [← Bool.decide_and, decide_eq_decide]
  omega
def areaHit (x y : Int) (a : DArea) : Bool := inW x a.f0 a.f2 && inW y a.f1 a.f3
def findA (x y : Int) : List DArea → Int → Int
  | [], _ => -1
  | a :: t, k => if areaHit x y a = true then k else findA x y t (k + 1)

set_option maxHeartbeats 1000000 in
theorem within_any (x at0 size : Int) (w : World) (h1 : -10 ≤ x) (h2 : x ≤ 1000000) (h3 : 0 ≤ at0) (h4 : at0 ≤ 1000000) (h5 : 0 ≤ size) (h6 : size ≤ 1000000) :
    Calls Try.prog 56 #[.int .i64 x, .int .i64 at0, .int .i64 size] w fun e w' => e = .returned (.bool (inW x at0 size)) ∧ w = w' := by
  rw [inW_eq]
  by_cases c1 : at0 ≤ x
  · by_cases c2 : 0 < size
    · have e1 : decide (at0 ≤ x ∧ 0 < size ∧ x < at0 + size) = decide (x - at0 < size) := decide_eq_decide.2 (by omega)
      rw [e1]
      clear e1
      go_enter Try.func56, Try.ntmps56
      go_wp2
      go_ret
      exact ⟨rfl, rfl⟩
    · have e1 : decide (at0 ≤ x ∧ 0 < size ∧ x < at0 + size) = false := decide_eq_false (by omega)
      rw [e1]
      clear e1
      go_enter Try.func56, Try.ntmps56
      go_wp2
      go_ret
      exact ⟨rfl, rfl⟩
  · have e1 : decide (at0 ≤ x ∧ 0 < size ∧ x < at0 + size) = false := decide_eq_false (by omega)
    rw [e1]
    clear e1
    go_enter Try.func56, Try.ntmps56
    go_wp2
    go_ret
    exact ⟨rfl, rfl⟩

set_option maxHeartbeats 4000000 in
theorem implAreaAt_any (v : Value) (xs : List DArea) (x y : Int) (w : World) (h : SRow 4 encArea w v xs) (hs : ∀ a ∈ xs, arSmall a) (hl : xs.length ≤ 1000) (h1 : -10 ≤ x) (h2 : x ≤ 1000000) (h3 : -10 ≤ y) (h4 : y ≤ 1000000) :
    Calls Try.prog 34 #[v, .int .i64 x, .int .i64 y] w (Ret (.int .i64 (findA x y xs 0)) w) := by
  by_cases h0 : xs.length = 0
  · obtain rfl : xs = [] := List.eq_nil_of_length_eq_zero h0
    obtain ⟨a, cap, rfl⟩ := h.empty
    clear h h0 hs hl
    go_enter Try.func34, Try.ntmps34
    go_wp2
    refine wp_loop_rounds 1 ?_
    rw [rounds_succ]
    go_wp2
    go_ret
    exact ⟨rfl, Below.refl _ _⟩
  · obtain ⟨b, off, cap, rfl, hbl, hc⟩ := h.pos encArea_pos (by omega)
    obtain ⟨n, hn⟩ : ∃ n, n = xs.length := ⟨_, rfl⟩
    rw [← hn] at hl h0 ⊢
    have HC := Lib.hid hc
    have HN := Lib.hid hn
    have HS := Lib.hid hs
    clear hn hc h hs
    go_enter Try.func34, Try.ntmps34
    go_wp2
    go_loopw [11] (fun i wr => ∃ k : Nat, k ≤ n ∧ i = .int .i64 k ∧ Hid (findA x y xs 0 = findA x y (xs.drop k) k) ∧ Below w.heap.size w wr) (fun i _ => n - (intOf i).toNat)
    case atStart => exact ⟨0, Nat.zero_le _, rfl, (by simp : findA x y xs 0 = findA x y (xs.drop 0) ((0 : Nat) : Int)), Below.refl _ _⟩
    case round =>
      obtain ⟨k, hk, rfl, hall, hb⟩ := hrel
      by_cases hlt : k < n
      · have hk' : k < xs.length := by rw [← HN.out]; exact hlt
        have q := HC.out k hk'
        have sm := HS.out xs[k] (List.getElem_mem hk')
        have hd : xs.drop k = xs[k] :: xs.drop (k + 1) := List.drop_eq_getElem_cons hk'
        obtain ⟨z, hx⟩ : ∃ x, x = xs[k] := ⟨_, rfl⟩
        have fe : findA x y xs 0 = if (inW x z.f0 z.f2 && inW y z.f1 z.f3) = true then (k : Int) else findA x y (xs.drop (k + 1)) (k + 1) := by
          rw [hall.out, hd, ← hx]
          rfl
        rw [← hx] at q sm
        obtain ⟨s1, s2, s3, s4, s5, s6, s7, s8⟩ := sm
        have r : ∀ i u, (encArea z)[i]? = some u → wr.cell? ⟨b, off + k * 4 + i, none⟩ = some u := fun i u hu => (hb.cell (p := ⟨b, off + k * 4 + i, none⟩) hbl).trans (q i u hu)
        have c0 : wr.cell? ⟨b, off + k * 4, none⟩ = some (.int .i64 z.f0) := by simpa using r 0 _ rfl
        have c1 : wr.cell? ⟨b, off + k * 4 + 1, none⟩ = some (.int .i64 z.f1) := by simpa using r 1 _ rfl
        have c2 : wr.cell? ⟨b, off + k * 4 + 2, none⟩ = some (.int .i64 z.f2) := by simpa using r 2 _ rfl
        have c3 : wr.cell? ⟨b, off + k * 4 + 3, none⟩ = some (.int .i64 z.f3) := by simpa using r 3 _ rfl
        have hbr : b < wr.heap.size := by have := hb.size; omega
        have HB2 := Lib.hid hb
        have FE := Lib.hid fe
        clear q r hx hb hd hall fe
        go_wp2_with fail
        refine (within_any x z.f0 z.f2 _ h1 h2 s1 s2 s5 s6).mono ?_
        rintro e w' ⟨rfl, rfl⟩
        have hb1 : Below w.heap.size w (wr.alloc (.cells #[.int .i64 z.f0, .int .i64 z.f1, .int .i64 z.f2, .int .i64 z.f3] 44)) := HB2.out.alloc (by have := HB2.out.size; omega) _
        have HB1 := Lib.hid hb1
        clear hb1 HB2
        cases v1 : inW x z.f0 z.f2
        · have fe := FE.out
          rw [v1, Bool.false_and, if_neg (by decide)] at fe
          have F2 := Lib.hid fe
          clear FE fe
          go_wp2_with fail
          go_roundw
          case rel => exact ⟨k + 1, by omega, by go_num, F2.out, HB1.out⟩
          case measure => simp [intOf]; omega
        · go_wp2_with fail
          refine (within_any y z.f1 z.f3 _ h3 h4 s3 s4 s7 s8).mono ?_
          rintro e w' ⟨rfl, rfl⟩
          cases v2 : inW y z.f1 z.f3
          · have fe := FE.out
            rw [v2, Bool.and_false, if_neg (by decide)] at fe
            have F2 := Lib.hid fe
            clear FE fe
            go_wp2_with fail
            go_roundw
            case rel => exact ⟨k + 1, by omega, by go_num, F2.out, HB1.out⟩
            case measure => simp [intOf]; omega
          · have fe := FE.out
            rw [v1, v2, Bool.and_true, if_pos rfl] at fe
            have F2 := Lib.hid fe
            clear FE fe
            go_wp2_with fail
            go_ret
            exact ⟨by rw [F2.out]; rfl, HB1.out⟩
      · have fe : findA x y xs 0 = -1 := by
          rw [hall.out, List.drop_of_length_le (by have := HN.out; omega)]
          rfl
        have F2 := Lib.hid fe
        have HB2 := Lib.hid hb
        clear HC HS hall fe hb
        go_wp2
        go_ret
        exact ⟨by rw [F2.out]; rfl, HB2.out⟩

set_option maxHeartbeats 4000000 in
theorem specAreaAt_any (v : Value) (xs : List DArea) (x y : Int) (w : World) (h : SRow 4 encArea w v xs) (hs : ∀ a ∈ xs, arSmall a) (hl : xs.length ≤ 1000) (_ : -10 ≤ x) (_ : x ≤ 1000000) (_ : -10 ≤ y) (_ : y ≤ 1000000) :
    Calls Try.prog 35 #[v, .int .i64 x, .int .i64 y] w (Ret (.int .i64 (findA x y xs 0)) w) := by
  by_cases h0 : xs.length = 0
  · obtain rfl : xs = [] := List.eq_nil_of_length_eq_zero h0
    obtain ⟨a, cap, rfl⟩ := h.empty
    clear h h0 hs hl
    go_enter Try.func35, Try.ntmps35
    go_wp2
    refine wp_loop_rounds 1 ?_
    rw [rounds_succ]
    go_wp2
    go_ret
    exact ⟨rfl, Below.refl _ _⟩
  · obtain ⟨b, off, cap, rfl, hbl, hc⟩ := h.pos encArea_pos (by omega)
    obtain ⟨n, hn⟩ : ∃ n, n = xs.length := ⟨_, rfl⟩
    rw [← hn] at hl h0 ⊢
    have HC := Lib.hid hc
    have HN := Lib.hid hn
    have HS := Lib.hid hs
    clear hn hc h hs
    go_enter Try.func35, Try.ntmps35
    go_wp2
    go_loopw [7] (fun i wr => ∃ k : Nat, k ≤ n ∧ i = .int .i64 k ∧ Hid (findA x y xs 0 = findA x y (xs.drop k) k) ∧ Below w.heap.size w wr) (fun i _ => n - (intOf i).toNat)
    case atStart => exact ⟨0, Nat.zero_le _, rfl, (by simp : findA x y xs 0 = findA x y (xs.drop 0) ((0 : Nat) : Int)), Below.refl _ _⟩
    case round =>
      obtain ⟨k, hk, rfl, hall, hb⟩ := hrel
      by_cases hlt : k < n
      · have hk' : k < xs.length := by rw [← HN.out]; exact hlt
        have q := HC.out k hk'
        have sm := HS.out xs[k] (List.getElem_mem hk')
        have hd : xs.drop k = xs[k] :: xs.drop (k + 1) := List.drop_eq_getElem_cons hk'
        obtain ⟨z, hx⟩ : ∃ x, x = xs[k] := ⟨_, rfl⟩
        have fe : findA x y xs 0 = if (inW x z.f0 z.f2 && inW y z.f1 z.f3) = true then (k : Int) else findA x y (xs.drop (k + 1)) (k + 1) := by
          rw [hall.out, hd, ← hx]
          rfl
        rw [← hx] at q sm
        obtain ⟨s1, s2, s3, s4, s5, s6, s7, s8⟩ := sm
        have r : ∀ i u, (encArea z)[i]? = some u → wr.cell? ⟨b, off + k * 4 + i, none⟩ = some u := fun i u hu => (hb.cell (p := ⟨b, off + k * 4 + i, none⟩) hbl).trans (q i u hu)
        have c0 : wr.cell? ⟨b, off + k * 4, none⟩ = some (.int .i64 z.f0) := by simpa using r 0 _ rfl
        have c1 : wr.cell? ⟨b, off + k * 4 + 1, none⟩ = some (.int .i64 z.f1) := by simpa using r 1 _ rfl
        have c2 : wr.cell? ⟨b, off + k * 4 + 2, none⟩ = some (.int .i64 z.f2) := by simpa using r 2 _ rfl
        have c3 : wr.cell? ⟨b, off + k * 4 + 3, none⟩ = some (.int .i64 z.f3) := by simpa using r 3 _ rfl
        have hbr : b < wr.heap.size := by have := hb.size; omega
        have HB2 := Lib.hid hb
        have FE := Lib.hid fe
        clear q r hx hb hd hall fe
        go_wp2_with fail
        refine (l1In_any x z.f0 (z.f0 + z.f2 - 1) _).mono ?_
        rintro e w' ⟨rfl, rfl⟩
        have hb1 : Below w.heap.size w (wr.alloc (.cells #[.int .i64 z.f0, .int .i64 z.f1, .int .i64 z.f2, .int .i64 z.f3] 44)) := HB2.out.alloc (by have := HB2.out.size; omega) _
        have HB1 := Lib.hid hb1
        clear hb1 HB2
        rw [show inB x z.f0 (z.f0 + z.f2 - 1) = inW x z.f0 z.f2 from rfl]
        cases v1 : inW x z.f0 z.f2
        · have fe := FE.out
          rw [v1, Bool.false_and, if_neg (by decide)] at fe
          have F2 := Lib.hid fe
          clear FE fe
          go_wp2_with fail
          go_roundw
          case rel => exact ⟨k + 1, by omega, by go_num, F2.out, HB1.out⟩
          case measure => simp [intOf]; omega
        · go_wp2_with fail
          refine (l1In_any y z.f1 (z.f1 + z.f3 - 1) _).mono ?_
          rintro e w' ⟨rfl, rfl⟩
          rw [show inB y z.f1 (z.f1 + z.f3 - 1) = inW y z.f1 z.f3 from rfl]
          cases v2 : inW y z.f1 z.f3
          · have fe := FE.out
            rw [v2, Bool.and_false, if_neg (by decide)] at fe
            have F2 := Lib.hid fe
            clear FE fe
            go_wp2_with fail
            go_roundw
            case rel => exact ⟨k + 1, by omega, by go_num, F2.out, HB1.out⟩
            case measure => simp [intOf]; omega
          · have fe := FE.out
            rw [v1, v2, Bool.and_true, if_pos rfl] at fe
            have F2 := Lib.hid fe
            clear FE fe
            go_wp2_with fail
            go_ret
            exact ⟨by rw [F2.out]; rfl, HB1.out⟩
      · have fe : findA x y xs 0 = -1 := by
          rw [hall.out, List.drop_of_length_le (by have := HN.out; omega)]
          rfl
        have F2 := Lib.hid fe
        have HB2 := Lib.hid hb
        clear HC HS hall fe hb
        go_wp2
        go_ret
        exact ⟨by rw [F2.out]; rfl, HB2.out⟩

end Go.Proofs.Ytgbbodmggbeflaa

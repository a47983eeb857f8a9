/-
  PROVED HERE: what SheetCount and UpSheet of the program and of the reference return. Conditions: each theorem's own.
-/
import Derived.Test.YtgbbodmggbeflaaCore
import Derived.Test.YtgbbodmggbeflaaRows2
import Derived.Test.YtgbbodmggbeflaaIn
import Derived.OwnWalk
namespace Go.Proofs.Ytgbbodmggbeflaa
open Go.RowKit

theorem info_int : (Try.prog.info? 3).map (fun i => (i.zero, i.size, i.bytes)) = some (some (.int .i64 0), 1, 8) := by kernel_rfl

/-- It returns a row of its own that reads as xs, and turns nothing that was there. -/
def OwnPost (xs : List Int) (w : World) (e : Ending) (w' : World) : Prop :=
  ∃ v, e = .returned v ∧ w'.ownsRow w.heap.size 3 1 v xs.length (xs.map (Value.int .i64)) ∧ Below w.heap.size w w'

def upOk (sheet each many : Int) : Prop := 0 ≤ sheet ∧ 1 ≤ each ∧ each ≤ 36 ∧ 0 ≤ many ∧ many ≤ 999 ∧ sheet ≤ many
instance (a b c : Int) : Decidable (upOk a b c) := by unfold upOk; exact inferInstance
def upS (sheet each many : Int) : List Int := if upOk sheet each many then iota (sheet * each + 1) (min ((sheet + 1) * each) many - sheet * each).toNat else []

set_option maxHeartbeats 1000000 in
theorem implUp_no (sheet each many : Int) (w : World) (h : sheet < 0 ∨ (0 ≤ sheet ∧ (each < 1 ∨ 36 < each)) ∨ (0 ≤ sheet ∧ 1 ≤ each ∧ each ≤ 36 ∧ (many < 0 ∨ 999 < many)) ∨ (0 ≤ sheet ∧ 1 ≤ each ∧ each ≤ 36 ∧ 0 ≤ many ∧ many ≤ 999 ∧ many < sheet)) :
    Calls Try.prog 20 #[.int .i64 sheet, .int .i64 each, .int .i64 many] w (OwnPost [] w) := by
  rcases h with h | ⟨h1, h | h⟩ | ⟨h1, h2, h3, h | h⟩ | ⟨h1, h2, h3, h4, h5, h6⟩
  all_goals
    go_enter Try.func20, Try.ntmps20
    go_wp2
    go_ret
    exact ⟨_, rfl, World.ownsRow_nil _ _ _ _, Below.refl _ _⟩

set_option maxHeartbeats 1000000 in
theorem implUp_yes (sheet each many : Int) (w : World) (h : upOk sheet each many) :
    Calls Try.prog 20 #[.int .i64 sheet, .int .i64 each, .int .i64 many] w (OwnPost (iota (sheet * each + 1) (min ((sheet + 1) * each) many - sheet * each).toNat) w) := by
  obtain ⟨h1, h2, h3, h4, h5, h6⟩ := h
  have p1 : 0 ≤ sheet * each := Int.mul_nonneg h1 (by omega)
  have p2 : sheet * each ≤ 36000 := Int.le_trans (Int.mul_le_mul (show sheet ≤ 1000 by omega) h3 (by omega) (by omega)) (by omega)
  have p3 : (sheet + 1) * each = sheet * each + each := by rw [Int.add_mul, Int.one_mul]
  have p4 : 0 ≤ (sheet + 1) * each := by omega
  have p5 : (sheet + 1) * each ≤ 36036 := by omega
  have P3 := Lib.hid p3
  clear p3
  obtain ⟨i0, hi, hz0, hz1, hz2⟩ := info_parts info_int
  go_enter Try.func20, Try.ntmps20
  go_wp2
  go_loopw [7, 8] (fun v i wr => ∃ k : Nat, k ≤ 36 ∧ i = .int .i64 (sheet * each + 1 + k) ∧ Hid (sheet * each + k ≤ max (sheet * each) (min ((sheet + 1) * each) many)) ∧ Hid (wr.ownsRow w.heap.size 3 1 v k ((iota (sheet * each + 1) k).map (Value.int .i64))) ∧ Below w.heap.size w wr)
    (fun _ i _ => (40000 - intOf i).toNat)
  case atStart => exact ⟨0, by omega, by simp, by show _ ≤ _; omega, World.ownsRow_nil _ _ _ _, Below.refl _ _⟩
  case round =>
    obtain ⟨k, hk, rfl, hle, ho, hb⟩ := hrel
    by_cases hm : many < (sheet + 1) * each
    all_goals
      by_cases hlt : sheet * each + 1 + k ≤ (sheet + 1) * each ∧ sheet * each + 1 + k ≤ many
      · obtain ⟨hl1, hl2⟩ := hlt
        have hk36 : k < 36 := by have := P3.out; omega
        go_wp2_with (at_builtin; (refine wpList_append_own _ rfl _ _ 28 rfl w.heap.size 3 i0 (.int .i64 0) 1 8 Try.underlying28 hi hz0 hz1 hz2 rfl (by decide) _ _ _ rfl (ho.out.alloc _) ⟨wr.heap.size, 0, none⟩ 1 1 [.int .i64 (sheet * each + 1 + k)] rfl rfl (cells_new _ [_] _) (by intro u hu; simp at hu; subst hu; rfl) (by unfold maxLen; omega) (by omega) (by have := hb.size; simp; omega) ?_); intro v' w1 hown' hgrow _)
        go_roundw
        case rel => exact ⟨k + 1, by omega, by go_num, by show _ ≤ _; omega, by show World.ownsRow _ _ _ _ _ _ _; rw [iota_succ, List.map_append]; exact hown', below_append hb (Nat.le_refl _) ho.out hgrow⟩
        case measure => simp [intOf]; omega
      · go_wp2
        go_ret
        have e : (min ((sheet + 1) * each) many - sheet * each).toNat = k := by have h1 := P3.out; have h2 : _ ≤ _ := hle; omega
        exact ⟨_, rfl, by rw [e, iota_length]; exact ho.out, hb⟩

set_option maxHeartbeats 1000000 in
theorem specUp_no (sheet each many : Int) (w : World) (h : (inB each 1 36 && (inB many 0 999 && inB sheet 0 999)) = false) :
    Calls Try.prog 19 #[.int .i64 sheet, .int .i64 each, .int .i64 many] w (OwnPost [] w) := by
  cases h1 : inB each 1 36 <;> cases h2 : inB many 0 999 <;> cases h3 : inB sheet 0 999 <;> rw [h1, h2, h3] at h <;> first | (exact absurd h (by decide)) | skip
  all_goals
    go_enter Try.func19, Try.ntmps19
    go_wp2_with (go_at_call 48; refine (l1In_any _ _ _ _).mono ?_; rintro e w' ⟨rfl, rfl⟩)
    go_ret
    exact ⟨_, rfl, World.ownsRow_made _ #[] 0 (Nat.le_refl _) (Nat.zero_le _) rfl, (Below.refl _ _).alloc (Nat.le_refl _) _⟩

set_option maxHeartbeats 1000000 in
theorem specUp_yes (sheet each many : Int) (w : World) (h1 : 0 ≤ sheet) (h6 : sheet ≤ 999) (h2 : 1 ≤ each) (h3 : each ≤ 36) (h4 : 0 ≤ many) (h5 : many ≤ 999) :
    Calls Try.prog 19 #[.int .i64 sheet, .int .i64 each, .int .i64 many] w (OwnPost (iota (sheet * each + 1) (min ((sheet + 1) * each) many - sheet * each).toNat) w) := by
  have p1 : 0 ≤ sheet * each := Int.mul_nonneg h1 (by omega)
  have p2 : sheet * each ≤ 36000 := Int.le_trans (Int.mul_le_mul (show sheet ≤ 1000 by omega) h3 (by omega) (by omega)) (by omega)
  have p3 : (sheet + 1) * each = sheet * each + each := by rw [Int.add_mul, Int.one_mul]
  have p4 : 0 ≤ (sheet + 1) * each := by omega
  have p5 : (sheet + 1) * each ≤ 36036 := by omega
  have P3 := Lib.hid p3
  clear p3
  obtain ⟨i0, hi, hz0, hz1, hz2⟩ := info_parts info_int
  have b1 : inB each 1 36 = true := inB_yes h2 h3
  have b2 : inB many 0 999 = true := inB_yes h4 h5
  have b3 : inB sheet 0 999 = true := inB_yes h1 h6
  go_enter Try.func19, Try.ntmps19
  go_wp2_with (go_at_call 48; refine (l1In_any _ _ _ _).mono ?_; rintro e w' ⟨rfl, rfl⟩)
  go_loopw [7, 8] (fun v i wr => ∃ k : Nat, k ≤ 36 ∧ i = .int .i64 (sheet * each + 1 + k) ∧ Hid (sheet * each + k ≤ max (sheet * each) (min ((sheet + 1) * each) many)) ∧ Hid (wr.ownsRow w.heap.size 3 1 v k ((iota (sheet * each + 1) k).map (Value.int .i64))) ∧ Below w.heap.size w wr)
    (fun _ i _ => (40000 - intOf i).toNat)
  case atStart => exact ⟨0, by omega, by simp, by show _ ≤ _; omega, World.ownsRow_made _ #[] 0 (Nat.le_refl _) (Nat.zero_le _) rfl, (Below.refl _ _).alloc (Nat.le_refl _) _⟩
  case round =>
    obtain ⟨k, hk, rfl, hle, ho, hb⟩ := hrel
    rcases (show many < (sheet + 1) * each ∨ (sheet + 1) * each < many ∨ (many ≤ (sheet + 1) * each ∧ (sheet + 1) * each ≤ many) from by omega) with hm | hm | ⟨hm, hm'⟩
    all_goals
      by_cases hlt : sheet * each + 1 + k ≤ (sheet + 1) * each ∧ sheet * each + 1 + k ≤ many
      · obtain ⟨hl1, hl2⟩ := hlt
        have hk36 : k < 36 := by have := P3.out; omega
        go_wp2_with (at_builtin; refine wpList_append_own _ rfl _ _ 28 rfl w.heap.size 3 i0 (.int .i64 0) 1 8 Try.underlying28 hi hz0 hz1 hz2 rfl (by decide) _ _ _ rfl (ho.out.alloc _) ⟨wr.heap.size, 0, none⟩ 1 1 [.int .i64 (sheet * each + 1 + k)] rfl rfl (cells_new _ [_] _) (by intro u hu; simp at hu; subst hu; rfl) (by unfold maxLen; omega) (by omega) (by have := hb.size; simp; omega) ?_; intro v' w1 hown' hgrow _)
        go_roundw
        case rel => exact ⟨k + 1, by omega, by go_num, by show _ ≤ _; omega, by show World.ownsRow _ _ _ _ _ _ _; rw [iota_succ, List.map_append]; exact hown', below_append hb (Nat.le_refl _) ho.out hgrow⟩
        case measure => simp [intOf]; omega
      · go_wp2
        go_ret
        have e : (min ((sheet + 1) * each) many - sheet * each).toNat = k := by have h1 := P3.out; have h2 : _ ≤ _ := hle; omega
        exact ⟨_, rfl, by rw [e, iota_length]; exact ho.out, hb⟩

theorem up_empty (sheet each many : Int) (h : many < sheet) (h0 : 0 ≤ sheet) (h1 : 1 ≤ each) : (min ((sheet + 1) * each) many - sheet * each).toNat = 0 := by
  have : sheet * 1 ≤ sheet * each := Int.mul_le_mul_of_nonneg_left h1 h0
  omega

theorem implUp_any (sheet each many : Int) (w : World) : Calls Try.prog 20 #[.int .i64 sheet, .int .i64 each, .int .i64 many] w (OwnPost (upS sheet each many) w) := by
  unfold upS
  split
  · rename_i h
    exact implUp_yes _ _ _ _ h
  · rename_i h
    exact implUp_no _ _ _ _ (by unfold upOk at h; omega)
theorem specUp_any (sheet each many : Int) (w : World) : Calls Try.prog 19 #[.int .i64 sheet, .int .i64 each, .int .i64 many] w (OwnPost (upS sheet each many) w) := by
  by_cases hh : 0 ≤ sheet ∧ sheet ≤ 999 ∧ 1 ≤ each ∧ each ≤ 36 ∧ 0 ≤ many ∧ many ≤ 999
  · obtain ⟨a, b, c, d, e, f⟩ := hh
    have h := specUp_yes sheet each many w a b c d e f
    by_cases g : sheet ≤ many
    · rw [upS, if_pos (by unfold upOk; omega)]
      exact h
    · rw [up_empty sheet each many (by omega) a c] at h
      rw [upS, if_neg (by unfold upOk; omega)]
      exact h
  · rw [upS, if_neg (by unfold upOk; omega)]
    exact specUp_no _ _ _ _ (by
      rw [Bool.eq_false_iff]
      intro hc
      simp only [Bool.and_eq_true] at hc
      have := inB_true hc.1
      have := inB_true hc.2.1
      have := inB_true hc.2.2
      omega)
theorem upS_length (sheet each many : Int) : (upS sheet each many).length ≤ 36 := by
  unfold upS
  split
  · rename_i h
    unfold upOk at h
    rw [iota_length]
    have p3 : (sheet + 1) * each = sheet * each + each := by rw [Int.add_mul, Int.one_mul]
    omega
  · simp

theorem upS_cases (s c m : Int) : upS s c m = [] ∨ ∃ N : Nat, 0 < N ∧ upS s c m = iota (s * c + 1) N ∧ upOk s c m ∧ (N : Int) ≤ c ∧ ((upS (s + 1) c m = [] ∧ s * c + N = m) ∨ (∃ N2 : Nat, 0 < N2 ∧ upS (s + 1) c m = iota (s * c + c + 1) N2 ∧ (N : Int) = c)) := by
  have p3 : (s + 1) * c = s * c + c := by rw [Int.add_mul, Int.one_mul]
  have p4 : (s + 1 + 1) * c = s * c + c + c := by rw [Int.add_mul, Int.one_mul, p3]
  by_cases hok : upOk s c m
  · by_cases hN : (min ((s + 1) * c) m - s * c).toNat = 0
    · left
      rw [upS, if_pos hok, hN]
      rfl
    · right
      have hk := hok
      unfold upOk at hk
      refine ⟨(min ((s + 1) * c) m - s * c).toNat, by omega, by rw [upS, if_pos hok], hok, by omega, ?_⟩
      by_cases hm : m ≤ (s + 1) * c
      · left
        refine ⟨?_, by omega⟩
        unfold upS
        split
        · have e : (min ((s + 1 + 1) * c) m - (s + 1) * c).toNat = 0 := by omega
          rw [e]
          rfl
        · rfl
      · right
        have hs : (s + 1) * 1 ≤ (s + 1) * c := Int.mul_le_mul_of_nonneg_left (by omega) (by omega)
        refine ⟨(min ((s + 1 + 1) * c) m - (s + 1) * c).toNat, by omega, ?_, by omega⟩
        rw [upS, if_pos (by unfold upOk; omega), p3]
  · left
    rw [upS, if_neg hok]
theorem upS_bd (s c : Int) (h0 : 0 ≤ s) (h1 : s ≤ 999) (h2 : 1 ≤ c) (h3 : c ≤ 36) : 0 ≤ s * c ∧ s * c ≤ 36000 :=
  ⟨Int.mul_nonneg h0 (by omega), Int.le_trans (Int.mul_le_mul (show s ≤ 1000 by omega) h3 (by omega) (by omega)) (by omega)⟩
end Go.Proofs.Ytgbbodmggbeflaa

/-
  PROVED HERE: an argument's row of sheets: read, counted, copied. Conditions: each theorem's own.
-/
import Derived.Test.YtgbbodmggbeflaaSheetM
import Derived.Test.YtgbbodmggbeflaaFold
import Derived.Test.YtgbbodmggbeflaaOpenS
import Derived.Test.YtgbbodmggbeflaaIntO
import Derived.Test.YtgbbodmggbeflaaToInt
namespace Go.Proofs.Ytgbbodmggbeflaa
open Go.RowKit
open Go.ChangeShapes Go.WideShapes Go.Deep
set_option maxRecDepth 100000

theorem one_Sheet {H : Type} {en : TypeId × Value → H} {w : World} {base : Nat} {spare : Nat → Bool} {held : Bool} (cs : List Value) (y : DataW H × List MemPlace) (n : Nat) (h : DataW.trod en Try.prog w base spare held n 74 cs = some y) : ∃ z : Value, cs = encV z ∧ ∃ x : List Int, IRow w z x := by
  obtain ⟨xs, k, _, _, hl, hxl, hf⟩ := DataW.trod_struct Try.underlying74 h
  have c : Try.prog.cellsOf 74 = 1 := by kernel_rfl
  have k_row : Try.prog.cellsOf 28 = 1 := by kernel_rfl
  rw [c] at hl
  match cs, xs, hl, hxl with
  | [c0], [y0], _, _ =>
    have g0 := hf 0 _ rfl
    simp [k_row] at g0
    obtain ⟨a, len, cap, rfl⟩ : ∃ a len cap, c0 = .slice a len cap := by
      rcases open_slice Try.underlying28 g0 with ⟨h0, _⟩ | ⟨a, len, cap, m, n, D, Pl, h1, _⟩
      · simp at h0; exact ⟨_, _, _, h0⟩
      · simp at h1; exact ⟨_, _, _, h1⟩
    obtain ⟨zs, hl2, _, _, hr⟩ := open_rows (k := 1) encI (fun _ => True) (by decide) Try.underlying28 (by kernel_rfl) one_int (a0 := a) (len0 := len) (cap0 := cap) (by simpa [Value.cells] using g0)
    exact ⟨_, rfl, zs, IRow.of_srow hr⟩
theorem SheetR.of_rows {w : World} {v : Value} {us : List Value} (h : SRow 1 encV w v us) (hx : ∀ u ∈ us, ∃ x : List Int, IRow w u x) : ∃ xs, xs.length = us.length ∧ SheetR w v xs := by
  obtain ⟨xs, hl, _, hp⟩ := list_choose (α := List Int) (G := fun _ => True) (n := us.length) (p := fun i x => ∀ u, us[i]? = some u → IRow w u x) (fun i hi => by
    obtain ⟨x, hx⟩ := hx us[i] (List.getElem_mem hi)
    refine ⟨x, fun u hu => ?_, trivial⟩
    rw [List.getElem?_eq_getElem hi] at hu
    cases hu
    exact hx)
  exact ⟨xs, hl, us, hl.symm, h, fun j hj => ⟨us[j]'(by omega), List.getElem?_eq_getElem (by omega), hp j hj _ (List.getElem?_eq_getElem (by omega))⟩⟩

theorem szIntS_any (a : Option Addr) (n cap : Nat) (l : Int) (h0 : 0 ≤ l) (h1 : l ≤ 1048576) (hn : n ≤ 9223372036854775807) (w : World) : Calls Try.prog 65 #[.slice a n cap, .int .i64 l] w (Ret (.int .i64 (if l - n < 0 then -1 else l - n)) w) := by
  by_cases h : l - (n : Int) < 0
  · rw [if_pos h]
    go_enter Try.func65, Try.ntmps65
    go_wp2
    go_ret
    exact ⟨rfl, Below.refl _ _⟩
  · rw [if_neg h]
    go_enter Try.func65, Try.ntmps65
    go_wp2
    go_ret
    exact ⟨rfl, Below.refl _ _⟩
/-- A number left: none if a row of n cells does not fit. -/
def SzPost (n : Nat) (l : Int) (w : World) (e : Ending) (w' : World) : Prop := (∃ r : Int, e = .returned (.int .i64 r) ∧ (r = -1 ∨ (0 ≤ r ∧ r + n = l))) ∧ Below w.heap.size w w'
theorem szSheet_any (a : Option Addr) (n cap : Nat) (l : Int) (h0 : 0 ≤ l) (h1 : l ≤ 1048576) (hn : n ≤ 9223372036854775807) (w : World) : Calls Try.prog 61 #[.agg #[.slice a n cap], .int .i64 l] w (SzPost n l w) := by
  have S := Lib.hid (fun w => szIntS_any a n cap l h0 h1 hn w)
  by_cases h : l - (n : Int) < 0
  · rw [if_pos h] at S
    go_enter Try.func61, Try.ntmps61
    go_wp2_with (go_at_call 65; refine (S.out _).mono ?_)
    rintro e w1 ⟨rfl, b1⟩
    have B1 := Lib.hid (below_next ((Below.refl w.heap.size w).alloc (Nat.le_refl _) _) b1 (Nat.le_refl _))
    clear b1
    go_wp2
    go_ret
    exact ⟨⟨_, rfl, .inl rfl⟩, B1.out⟩
  · rw [if_neg h] at S
    obtain ⟨r, hr⟩ : ∃ r, r = l - (n : Int) := ⟨_, rfl⟩
    rw [← hr] at S h
    have HR := Lib.hid hr
    clear hr
    go_enter Try.func61, Try.ntmps61
    go_wp2_with (go_at_call 65; refine (S.out _).mono ?_)
    rintro e w1 ⟨rfl, b1⟩
    have B1 := Lib.hid (below_next ((Below.refl w.heap.size w).alloc (Nat.le_refl _) _) b1 (Nat.le_refl _))
    clear b1
    go_wp2
    go_ret
    exact ⟨⟨_, rfl, .inr ⟨by omega, by have := HR.out; omega⟩⟩, B1.out⟩

set_option maxHeartbeats 2000000 in
theorem szSheetS_any (v : Value) (xs : List (List Int)) (l : Int) (w : World) (h : SheetR w v xs) (h0 : 0 ≤ l) (h1 : l ≤ 1048576) : Calls Try.prog 44 #[v, .int .i64 l] w (SzPost (xs.length + totS xs) l w) := by
  obtain ⟨a, ca, rfl, hl, h3⟩ := h.len
  obtain ⟨n, hn⟩ : ∃ n, n = xs.length := ⟨_, rfl⟩
  have H3 := Lib.hid h3
  rw [← hn] at hl ⊢
  have HN := Lib.hid hn
  clear h h3 hn
  obtain ⟨T, hT⟩ : ∃ T, T = totS xs := ⟨_, rfl⟩
  rw [← hT]
  have HT := Lib.hid hT
  clear hT
  by_cases hneg : l - (n : Int) < 0
  · go_enter Try.func44, Try.ntmps44
    go_wp2
    go_ret
    exact ⟨⟨_, rfl, .inl rfl⟩, Below.refl _ _⟩
  · go_enter Try.func44, Try.ntmps44
    go_wp2
    go_loopw [1, 5] (fun lf i wr => ∃ (k t : Nat) (r : Int), k ≤ n ∧ i = .int .i64 k ∧ lf = .int .i64 r ∧ 0 ≤ r ∧ Hid (r + t + n = l) ∧ Hid (t = totS (xs.take k)) ∧ Hid (Below w.heap.size w wr)) (fun _ i _ => n - (intOf i).toNat)
    case atStart => exact ⟨0, 0, _, Nat.zero_le _, rfl, rfl, by omega, by show _ = _; simp, rfl, Below.refl _ _⟩
    case round =>
      obtain ⟨k, t, r, hk, rfl, rfl, hr0, hrt, ht, hb⟩ := hrel
      by_cases hlt : k < n
      · have hk' : k < xs.length := by rw [← HN.out]; exact hlt
        obtain ⟨b, off, u, rfl, l1, c1, i1⟩ := H3.out k hk'
        have d1 : wr.cell? ⟨b, off + k, none⟩ = some u := (hb.out.cell (p := ⟨b, off + k, none⟩) l1).trans c1
        obtain ⟨a', cap', rfl, hl'⟩ := i1.shape
        have ts := totS_succ xs k hk'
        rw [← ht.out] at ts
        obtain ⟨m, hm⟩ : ∃ m, m = xs[k].length := ⟨_, rfl⟩
        rw [← hm] at d1 hl' ts
        have TS := Lib.hid ts
        have hrl : r ≤ 1048576 := by have := hrt.out; omega
        clear hm i1 c1 ts
        go_wp2_with (go_at_call 61; refine (szSheet_any a' m cap' r hr0 hrl hl' _).mono ?_)
        rintro e w1 ⟨⟨q, rfl, hq⟩, b1⟩
        have B1 := Lib.hid (below_next hb.out b1 (Nat.le_refl _))
        clear b1
        rcases hq with rfl | ⟨hq0, hq1⟩
        · go_wp2
          go_ret
          exact ⟨⟨_, rfl, .inl rfl⟩, B1.out⟩
        · have hq2 : ¬ q < 0 := by omega
          have E1 : Hid (q + (t + m : Nat) + n = l) := by show _ = _; have := hrt.out; omega
          clear hq1
          go_wp2
          go_roundw
          case rel => exact ⟨k + 1, t + m, q, by omega, by go_num, rfl, hq0, E1.out, TS.out.symm, B1.out⟩
          case measure => simp [intOf]; omega
      · obtain rfl : k = n := by omega
        have e1 : t = T := by
          have := ht.out
          rw [List.take_of_length_le (by rw [HN.out]; exact Nat.le_refl _), ← HT.out] at this
          exact this
        go_wp2
        go_ret
        exact ⟨⟨r, rfl, .inr ⟨hr0, by have := hrt.out; omega⟩⟩, hb.out⟩
end Go.Proofs.Ytgbbodmggbeflaa

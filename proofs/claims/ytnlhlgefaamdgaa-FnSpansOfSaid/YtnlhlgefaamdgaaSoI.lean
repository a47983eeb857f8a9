/-
  PROVED HERE: whether all pages of a row are in the range; slices.Clone, Sort, Compact at rows of ints of the call's own. Conditions: each theorem's own.
-/
import Derived.Test.YtnlhlgefaamdgaaSoS
import Derived.Test.YtnlhlgefaamdgaaShelf
import Derived.Test.YtnlhlgefaamdgaaSpanP
import Derived.WalkSpells
import Derived.Sort.OwnSortedInts
import Derived.Lib.OwnBridge
set_option linter.unusedVariables false
set_option linter.unusedSimpArgs false
namespace Go.Proofs.Ytnlhlgefaamdgaa
open Go.RowKit


theorem notPage_any (n : Int) (w : World) : Calls Try.prog 20 #[.int .i64 n] w fun e w' => e = .returned (.bool (!inB n 1 999)) ∧ w = w' := by
  go_enter Try.func20, Try.ntmps20
  go_wp2_with (go_at_call 21; refine (isPage_q _ _).mono ?_; rintro e w' ⟨rfl, rfl⟩)
  go_ret
  exact ⟨rfl, rfl⟩

/-- Some number that is not negative if b holds. -/
def IdxPost (b : Bool) (w : World) (e : Ending) (w' : World) : Prop := ∃ i : Int, e = .returned (.int .i64 i) ∧ decide (0 ≤ i) = b ∧ Below w.heap.size w w'

set_option maxHeartbeats 1000000 in
theorem indexPage_any (v : Value) (xs : List Int) (w : World) (h : IRow w v xs) :
    Calls Try.prog 32 #[v, .func (.func 20) #[] #[]] w (IdxPost (!xs.all fun x => inB x 1 999) w) := by
  by_cases h0 : xs.length = 0
  · obtain rfl : xs = [] := List.eq_nil_of_length_eq_zero h0
    obtain ⟨a, cap, rfl⟩ := h.empty
    clear h h0
    go_enter Try.func32, Try.ntmps32
    go_wp2
    refine wp_loop_rounds 1 ?_
    rw [rounds_succ]
    go_wp2
    go_ret
    exact ⟨-1, rfl, rfl, Below.refl _ _⟩
  · have hsz : xs.length ≤ 9223372036854775807 := by obtain ⟨_, _, _, h, _⟩ := h; exact h
    obtain ⟨b, off, cap, rfl, hc⟩ := h.pos (by omega)
    obtain ⟨n, hn⟩ : ∃ n, n = xs.length := ⟨_, rfl⟩
    rw [← hn] at hc hsz h0 ⊢
    have HC := Lib.hid hc
    have HN := Lib.hid hn
    clear hn hc h
    go_enter Try.func32, Try.ntmps32
    go_wp2
    go_loopw [8] (fun i wr => ∃ k : Nat, k ≤ n ∧ i = .int .i64 k ∧ Hid (∀ j, j < k → inB (xs.getD j 0) 1 999 = true) ∧ Below w.heap.size w wr) (fun i _ => n - (intOf i).toNat)
    case atStart => exact ⟨0, Nat.zero_le _, rfl, fun j hj => absurd hj (Nat.not_lt_zero _), Below.refl _ _⟩
    case round =>
      obtain ⟨k, hk, rfl, hall, hb⟩ := hrel
      by_cases hlt : k < n
      · obtain ⟨u, hu⟩ : ∃ u, u = xs.getD k 0 := ⟨_, rfl⟩
        have e1 : wr.cell? ⟨b, off + k, none⟩ = some (.int .i64 u) := by
          have h := HC.out k hlt
          rw [← hu] at h
          exact (hb.cell (p := ⟨b, off + k, none⟩) (World.block_lt_of_cell? w _ h)).trans h
        have HU := Lib.hid hu
        have HB := Lib.hid hb
        clear hu hb
        cases hv : inB u 1 999
        · have e : (!xs.all fun x => inB x 1 999) = true := by
            rw [Bool.not_eq_true', List.all_eq_false]
            have hk' : k < xs.length := by rw [← HN.out]; exact hlt
            refine ⟨xs[k], List.getElem_mem hk', ?_⟩
            have : xs.getD k 0 = xs[k] := by simp [List.getD, hk']
            rw [← this, ← HU.out, hv]
            decide
          have E := Lib.hid e
          clear e hall
          go_wp2_with fail
          refine (notPage_any _ _).mono ?_
          rintro e w' ⟨rfl, rfl⟩
          rw [hv]
          go_wp2
          go_ret
          exact ⟨k, rfl, by rw [E.out]; simp, HB.out⟩
        · have hall2 : Hid (∀ j, j < k + 1 → inB (xs.getD j 0) 1 999 = true) := by
            intro j hj
            by_cases hjk : j < k
            · exact hall.out j hjk
            · obtain rfl : j = k := by omega
              rw [← HU.out, hv]
          clear hall
          go_wp2_with fail
          refine (notPage_any _ _).mono ?_
          rintro e w' ⟨rfl, rfl⟩
          rw [hv]
          go_wp2
          go_roundw
          case rel => exact ⟨k + 1, by omega, by go_num, hall2, HB.out⟩
          case measure => simp [intOf]; omega
      · have e : (!xs.all fun x => inB x 1 999) = false := by
          rw [Bool.not_eq_false', List.all_eq_true]
          intro y hy
          obtain ⟨j, hj, rfl⟩ := List.getElem_of_mem hy
          have := hall.out j (by have := HN.out; omega)
          simpa [List.getD, hj] using this
        have E := Lib.hid e
        clear hall e HC
        go_wp2
        go_ret
        exact ⟨-1, rfl, by rw [E.out]; rfl, hb⟩

theorem containsPage_any (v : Value) (xs : List Int) (w : World) (h : IRow w v xs) :
    Calls Try.prog 19 #[v, .func (.func 20) #[] #[]] w (Ret (.bool (!xs.all fun x => inB x 1 999)) w) := by
  have H := Lib.hid h
  clear h
  go_enter Try.func19, Try.ntmps19
  go_wp2_with fail
  refine (indexPage_any v xs w H.out).mono ?_
  rintro e w1 ⟨i, rfl, hi, hb⟩
  have HI := Lib.hid hi
  clear hi
  go_wp2
  go_ret
  exact ⟨by rw [← HI.out]; rfl, hb⟩

/-- It returns a row of its own with these numbers. -/
def RowPost (xs : List Int) (w : World) (e : Ending) (w' : World) : Prop := ∃ v, e = .returned v ∧ w'.ownsRow w.heap.size 3 1 v xs.length (xs.map (Value.int .i64)) ∧ Below w.heap.size w w'

set_option maxHeartbeats 1000000 in
theorem clone_any (v : Value) (xs : List Int) (w : World) (h : IRow w v xs) (hx : xs.length ≤ 1048576) :
    Calls Try.prog 22 #[v] w (RowPost xs w) := by
  obtain ⟨i0, hi, hz0, hz1, hz2⟩ := info_parts info_int
  by_cases h0 : xs.length = 0
  · obtain rfl : xs = [] := List.eq_nil_of_length_eq_zero h0
    obtain ⟨a, cap, rfl⟩ := h.empty
    clear h h0 hx
    cases a with
    | none =>
      have hne := fun (w : World) => Lib.run_eql_slice_nil (P := Try.prog) w 22 3 none 0 cap 0 0 Try.underlying22
      go_enter Try.func22, Try.ntmps22
      go_wp2
      go_ret
      exact ⟨_, rfl, World.ownsRow_nil _ _ _ _, Below.refl _ _⟩
    | some a =>
      have hne := fun (w : World) => Lib.run_eql_slice_nil (P := Try.prog) w 22 3 (some a) 0 cap 0 0 Try.underlying22
      go_enter Try.func22, Try.ntmps22
      go_wp2_with (at_builtin; refine wpList_append_own _ rfl _ _ 22 rfl w.heap.size 3 i0 (.int .i64 0) 1 8 Try.underlying22 hi hz0 hz1 hz2 rfl (by decide) _ _ _ rfl (World.ownsRow_made w #[] 0 (Nat.le_refl _) (Nat.zero_le _) rfl) a 0 cap [] rfl rfl (by intro j u hu; cases hu) (by intro u hu; cases hu) (by unfold maxLen; omega) (by omega) (by simp) ?_; intro v' w1 hown' hgrow _)
      go_ret
      exact ⟨v', rfl, by simpa using hown', ((Below.refl _ _).alloc (Nat.le_refl _) _).grown hgrow (by simp) (fun j hj => by cases hj; exact Nat.le_refl _)⟩
  · obtain ⟨b, off, cap, rfl, hc⟩ := h.pos (by omega)
    have hbl : b < w.heap.size := World.block_lt_of_cell? w ⟨b, off + 0, none⟩ (hc 0 (by omega))
    have hnews : ∀ j u, (xs.map (Value.int .i64))[j]? = some u → (w.alloc (.cells #[] 3)).cell? ((⟨b, off, none⟩ : Addr).add j) = some u := by
      intro j u hu
      obtain ⟨x, hx, rfl⟩ : ∃ x, xs[j]? = some x ∧ .int .i64 x = u := by simpa using hu
      have hj : j < xs.length := (List.getElem?_eq_some_iff.1 hx).1
      have e : ((⟨b, off, none⟩ : Addr).add j) = ⟨b, off + j, none⟩ := by unfold Addr.add; split <;> simp_all
      rw [e, World.cell?_alloc_past _ _ _ hbl, hc j hj]
      simp [List.getD, hx]
    have HN := Lib.hid hnews
    clear hnews hc h
    have hne := fun (w : World) => Lib.run_eql_slice_nil (P := Try.prog) w 22 3 (some ⟨b, off, none⟩) xs.length cap 0 0 Try.underlying22
    go_enter Try.func22, Try.ntmps22
    go_wp2_with (at_builtin; refine wpList_append_own _ rfl _ _ 22 rfl w.heap.size 3 i0 (.int .i64 0) 1 8 Try.underlying22 hi hz0 hz1 hz2 rfl (by decide) _ _ _ rfl (World.ownsRow_made w #[] 0 (Nat.le_refl _) (Nat.zero_le _) rfl) ⟨b, off, none⟩ xs.length cap (xs.map (Value.int .i64)) rfl (by simp) HN.out (by intro u hu; obtain ⟨x, _, rfl⟩ := List.mem_map.1 hu; rfl) (by unfold maxLen; omega) (by omega) (by simp) ?_; intro v' w1 hown' hgrow _)
    go_ret
    exact ⟨v', rfl, by simpa using hown', ((Below.refl _ _).alloc (Nat.le_refl _) _).grown hgrow (by simp) (fun j hj => by cases hj; exact Nat.le_refl _)⟩

theorem grownBy_putRowI {w : World} {g n : Nat} (d : Array Int) : w.grownBy (Sort.putRow (Value.int .i64) (Sort.ahead w n) g 0 d) (some g) := by
  have h := grownBy_sortedI (w := w) (g := g) (n := n) (os := #[]) d
  rwa [Sort.grow_empty] at h

/-- Sorted in place: the row still is its own. -/
def SortPost (zs : List Int) (v : Value) (base : Nat) (w : World) (e : Ending) (w' : World) : Prop :=
  e = .returned (.tuple #[]) ∧ w'.ownsRow base 3 1 v zs.length ((zs.mergeSort fun x y => decide (x ≤ y)).map (Value.int .i64)) ∧ w.grownBy w' v.ownBlock
theorem sort_own (v : Value) (zs : List Int) (base : Nat) (w : World) (h : w.ownsRow base 3 1 v zs.length (zs.map (Value.int .i64))) (hl : zs.length ≤ 1048576) :
    Calls Try.prog 23 #[v] w (SortPost zs v base w) := by
  by_cases h0 : zs.length = 0
  · obtain rfl : zs = [] := List.eq_nil_of_length_eq_zero h0
    obtain ⟨a, cap, rfl⟩ : ∃ a cap, v = .slice a 0 cap := by
      rcases h.2 with ⟨h1, _⟩ | ⟨g, cap, cur, h1, _⟩
      · exact ⟨none, 0, h1⟩
      · exact ⟨_, _, h1⟩
    refine (Try.slices_Sort_int_none a cap w).mono ?_
    rintro e w' ⟨rfl, rfl⟩
    exact ⟨rfl, by simpa using h, grownBy_refl _ _⟩
  · rcases h.2 with ⟨_, h1⟩ | ⟨g, cap, cur, rfl, hb, hg, h1, h2, h3, h4⟩
    · omega
    · have hlt : g < w.heap.size := (Array.getElem?_eq_some_iff.1 hg).1
      refine (Try.slices_Sort_int g 0 cap zs w (holds_of_blockI hg (by simpa using h4)) hlt (by omega)).mono ?_
      rintro e w' ⟨rfl, n, os, rfl⟩
      exact ⟨rfl, ownsRow_sortedI (List.length_mergeSort zs) hb hg h1 h2 h3, grownBy_sortedI _⟩
/-- Made compact in place: what is handed back is its own. -/
def CompPost (zs : List Int) (base : Nat) (v : Value) (w : World) (e : Ending) (w' : World) : Prop :=
  ∃ v', e = .returned v' ∧ w'.ownsRow base 3 1 v' (Lib.compact zs).length ((Lib.compact zs).map (Value.int .i64)) ∧ w.grownBy w' v.ownBlock
theorem compact_own (v : Value) (zs : List Int) (base : Nat) (w : World) (h : w.ownsRow base 3 1 v zs.length (zs.map (Value.int .i64))) (hl : zs.length ≤ 1048576) :
    Calls Try.prog 25 #[v] w (CompPost zs base v w) := by
  by_cases h0 : zs.length = 0
  · obtain rfl : zs = [] := List.eq_nil_of_length_eq_zero h0
    obtain ⟨a, cap, rfl⟩ : ∃ a cap, v = .slice a 0 cap := by
      rcases h.2 with ⟨h1, _⟩ | ⟨g, cap, cur, h1, _⟩
      · exact ⟨none, 0, h1⟩
      · exact ⟨_, _, h1⟩
    refine (Try.slices_Compact_int_empty a cap w).mono ?_
    rintro e w' ⟨rfl, rfl⟩
    exact ⟨_, rfl, h, grownBy_refl _ _⟩
  · have hh := h
    rcases h.2 with ⟨_, h1⟩ | ⟨g, cap, cur, rfl, hb, hg, h1, h2, h3, h4⟩
    · omega
    · refine (Try.slices_Compact_int g 0 cap zs w (holds_of_blockI hg (by simpa using h4)) (by omega) h1).mono ?_
      rintro e w' ⟨rfl, q, rfl⟩
      have hle := Lib.compact_length_le zs
      have hc := Lib.ownsRow_putRow (q := q) (k := (Lib.compact zs).length) (ys := Lib.compact zs ++ List.replicate (zs.length - (Lib.compact zs).length) 0) hh (by simp; omega) hle
      rw [List.take_left] at hc
      exact ⟨_, rfl, hc, grownBy_putRowI _⟩
end Go.Proofs.Ytnlhlgefaamdgaa

/-
  PROVED HERE: whether all numbers of a row are in a range, as slices.ContainsFunc is used; what slices.Clone hands back. Conditions: each theorem's own.
-/
import Derived.Test.YtoeaaoceicjmdaaIn
import Derived.Test.YtoeaaoceicjmdaaCore
import Derived.StillTailTactics
import Derived.OwnWalk
import Derived.WalkSpells
namespace Go.Proofs.Ytoeaaoceicjmdaa
open Go.RowKit

theorem owns_ne {w : World} {base : Nat} {e : TypeId} {sz : Nat} {v : Value} {n : Nat} {xs : List Value} (h : w.ownsRow base e sz v n xs) {b : Nat} (hb : b < base ∨ w.heap.size ≤ b) : some b ≠ v.ownBlock := by
  intro e1
  have := h.lt b e1.symm
  omega
theorem info_int : (Try.prog.info? 3).map (fun i => (i.zero, i.size, i.bytes)) = some (some (.int .i64 0), 1, 8) := by kernel_rfl

theorem notRoom_any (n : Int) (w : World) : Calls Try.prog 38 #[.int .i64 n] w fun e w' => e = .returned (.bool (!inB n 0 1000)) ∧ w = w' := by
  go_enter Try.func38, Try.ntmps38
  go_wp2_with (go_at_call 32; refine (in_any _ _ _ _).mono ?_; rintro e w' ⟨rfl, rfl⟩)
  go_ret
  exact ⟨rfl, rfl⟩

/-- Some number that is not negative if b holds. -/
def IdxPost (b : Bool) (w : World) (e : Ending) (w' : World) : Prop := ∃ i : Int, e = .returned (.int .i64 i) ∧ decide (0 ≤ i) = b ∧ Below w.heap.size w w'

set_option maxHeartbeats 1000000 in
theorem indexRoom_any (v : Value) (xs : List Int) (w : World) (h : IRow w v xs) :
    Calls Try.prog 42 #[v, .func (.func 38) #[] #[]] w (IdxPost (!xs.all fun x => inB x 0 1000) w) := by
  by_cases h0 : xs.length = 0
  · obtain rfl : xs = [] := List.eq_nil_of_length_eq_zero h0
    obtain ⟨a, cap, rfl⟩ := h.empty
    clear h h0
    go_enter Try.func42, Try.ntmps42
    go_wp2
    refine wp_loop_rounds 1 ?_
    rw [rounds_succ]
    go_wp2
    go_ret
    exact ⟨-1, rfl, rfl, Below.refl _ _⟩
  · have hsz : xs.length ≤ 9223372036854775807 := by obtain ⟨_, _, _, h, _⟩ := h; exact h
    obtain ⟨b, off, cap, rfl, hc⟩ := h.pos (by omega)
    obtain ⟨n, hn⟩ : ∃ n, n = xs.length := ⟨_, rfl⟩
    rw [← hn] at hc hsz h0 ⊢
    have HC := Lib.hid hc
    have HN := Lib.hid hn
    clear hn hc h
    go_enter Try.func42, Try.ntmps42
    go_wp2
    go_loopw [8] (fun i wr => ∃ k : Nat, k ≤ n ∧ i = .int .i64 k ∧ Hid (∀ j, j < k → inB (xs.getD j 0) 0 1000 = true) ∧ Below w.heap.size w wr) (fun i _ => n - (intOf i).toNat)
    case atStart => exact ⟨0, Nat.zero_le _, rfl, fun j hj => absurd hj (Nat.not_lt_zero _), Below.refl _ _⟩
    case round =>
      obtain ⟨k, hk, rfl, hall, hb⟩ := hrel
      by_cases hlt : k < n
      · obtain ⟨u, hu⟩ : ∃ u, u = xs.getD k 0 := ⟨_, rfl⟩
        have e1 : wr.cell? ⟨b, off + k, none⟩ = some (.int .i64 u) := by
          have h := HC.out k hlt
          rw [← hu] at h
          exact (hb.cell (p := ⟨b, off + k, none⟩) (World.block_lt_of_cell? w _ h)).trans h
        have HU := Lib.hid hu
        have HB := Lib.hid hb
        clear hu hb
        cases hv : inB u 0 1000
        · have e : (!xs.all fun x => inB x 0 1000) = true := by
            rw [Bool.not_eq_true', List.all_eq_false]
            have hk' : k < xs.length := by rw [← HN.out]; exact hlt
            refine ⟨xs[k], List.getElem_mem hk', ?_⟩
            have : xs.getD k 0 = xs[k] := by simp [List.getD, hk']
            rw [← this, ← HU.out, hv]
            decide
          have E := Lib.hid e
          clear e hall
          go_wp2_with fail
          refine (notRoom_any _ _).mono ?_
          rintro e w' ⟨rfl, rfl⟩
          rw [hv]
          go_wp2
          go_ret
          exact ⟨k, rfl, by rw [E.out]; simp, HB.out⟩
        · have hall2 : Hid (∀ j, j < k + 1 → inB (xs.getD j 0) 0 1000 = true) := by
            intro j hj
            by_cases hjk : j < k
            · exact hall.out j hjk
            · obtain rfl : j = k := by omega
              rw [← HU.out, hv]
          clear hall
          go_wp2_with fail
          refine (notRoom_any _ _).mono ?_
          rintro e w' ⟨rfl, rfl⟩
          rw [hv]
          go_wp2
          go_roundw
          case rel => exact ⟨k + 1, by omega, by go_num, hall2, HB.out⟩
          case measure => simp [intOf]; omega
      · have e : (!xs.all fun x => inB x 0 1000) = false := by
          rw [Bool.not_eq_false', List.all_eq_true]
          intro y hy
          obtain ⟨j, hj, rfl⟩ := List.getElem_of_mem hy
          have := hall.out j (by have := HN.out; omega)
          simpa [List.getD, hj] using this
        have E := Lib.hid e
        clear hall e HC
        go_wp2
        go_ret
        exact ⟨-1, rfl, by rw [E.out]; rfl, hb⟩

theorem containsRoom_any (v : Value) (xs : List Int) (w : World) (h : IRow w v xs) :
    Calls Try.prog 37 #[v, .func (.func 38) #[] #[]] w (Ret (.bool (!xs.all fun x => inB x 0 1000)) w) := by
  have H := Lib.hid h
  clear h
  go_enter Try.func37, Try.ntmps37
  go_wp2_with fail
  refine (indexRoom_any v xs w H.out).mono ?_
  rintro e w1 ⟨i, rfl, hi, hb⟩
  have HI := Lib.hid hi
  clear hi
  go_wp2
  go_ret
  exact ⟨by rw [← HI.out]; rfl, hb⟩

/-- It returns a row of its own with these numbers. -/
def RowPost (xs : List Int) (w : World) (e : Ending) (w' : World) : Prop := ∃ v, e = .returned v ∧ w'.ownsRow w.heap.size 3 1 v xs.length (xs.map (Value.int .i64)) ∧ Below w.heap.size w w'

set_option maxHeartbeats 1000000 in
theorem clone_any (v : Value) (xs : List Int) (w : World) (h : IRow w v xs) (hx : xs.length ≤ 1048576) :
    Calls Try.prog 39 #[v] w (RowPost xs w) := by
  obtain ⟨i0, hi, hz0, hz1, hz2⟩ := info_parts info_int
  by_cases h0 : xs.length = 0
  · obtain rfl : xs = [] := List.eq_nil_of_length_eq_zero h0
    obtain ⟨a, cap, rfl⟩ := h.empty
    clear h h0 hx
    cases a with
    | none =>
      have hne := fun (w : World) => Lib.run_eql_slice_nil (P := Try.prog) w 35 3 none 0 cap 0 0 Try.underlying35
      go_enter Try.func39, Try.ntmps39
      go_wp2
      go_ret
      exact ⟨_, rfl, World.ownsRow_nil _ _ _ _, Below.refl _ _⟩
    | some a =>
      have hne := fun (w : World) => Lib.run_eql_slice_nil (P := Try.prog) w 35 3 (some a) 0 cap 0 0 Try.underlying35
      go_enter Try.func39, Try.ntmps39
      go_wp2_with (at_builtin; refine wpList_append_own _ rfl _ _ 35 rfl w.heap.size 3 i0 (.int .i64 0) 1 8 Try.underlying35 hi hz0 hz1 hz2 rfl (by decide) _ _ _ rfl (World.ownsRow_made w #[] 0 (Nat.le_refl _) (Nat.zero_le _) rfl) a 0 cap [] rfl rfl (by intro j u hu; cases hu) (by intro u hu; cases hu) (by unfold maxLen; omega) (by omega) (by simp) ?_; intro v' w1 hown' hgrow _)
      go_ret
      exact ⟨v', rfl, by simpa using hown', ((Below.refl _ _).alloc (Nat.le_refl _) _).grown hgrow (by simp) (fun j hj => by cases hj; exact Nat.le_refl _)⟩
  · obtain ⟨b, off, cap, rfl, hc⟩ := h.pos (by omega)
    have hbl : b < w.heap.size := World.block_lt_of_cell? w ⟨b, off + 0, none⟩ (hc 0 (by omega))
    have hnews : ∀ j u, (xs.map (Value.int .i64))[j]? = some u → (w.alloc (.cells #[] 3)).cell? ((⟨b, off, none⟩ : Addr).add j) = some u := by
      intro j u hu
      obtain ⟨x, hx, rfl⟩ : ∃ x, xs[j]? = some x ∧ .int .i64 x = u := by simpa using hu
      have hj : j < xs.length := (List.getElem?_eq_some_iff.1 hx).1
      have e : ((⟨b, off, none⟩ : Addr).add j) = ⟨b, off + j, none⟩ := by unfold Addr.add; split <;> simp_all
      rw [e, World.cell?_alloc_past _ _ _ hbl, hc j hj]
      simp [List.getD, hx]
    have HN := Lib.hid hnews
    clear hnews hc h
    have hne := fun (w : World) => Lib.run_eql_slice_nil (P := Try.prog) w 35 3 (some ⟨b, off, none⟩) xs.length cap 0 0 Try.underlying35
    go_enter Try.func39, Try.ntmps39
    go_wp2_with (at_builtin; refine wpList_append_own _ rfl _ _ 35 rfl w.heap.size 3 i0 (.int .i64 0) 1 8 Try.underlying35 hi hz0 hz1 hz2 rfl (by decide) _ _ _ rfl (World.ownsRow_made w #[] 0 (Nat.le_refl _) (Nat.zero_le _) rfl) ⟨b, off, none⟩ xs.length cap (xs.map (Value.int .i64)) rfl (by simp) HN.out (by intro u hu; obtain ⟨x, _, rfl⟩ := List.mem_map.1 hu; rfl) (by unfold maxLen; omega) (by omega) (by simp) ?_; intro v' w1 hown' hgrow _)
    go_ret
    exact ⟨v', rfl, by simpa using hown', ((Below.refl _ _).alloc (Nat.le_refl _) _).grown hgrow (by simp) (fun j hj => by cases hj; exact Nat.le_refl _)⟩
end Go.Proofs.Ytoeaaoceicjmdaa

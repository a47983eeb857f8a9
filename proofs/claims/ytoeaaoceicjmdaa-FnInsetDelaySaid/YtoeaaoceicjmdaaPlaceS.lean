/-
  PROVED HERE: what the reference's PlaceInsets does. Conditions: each theorem's own.
-/
import Derived.Test.YtoeaaoceicjmdaaPlaceI
import Derived.Test.YtoeaaoceicjmdaaMine
namespace Go.Proofs.Ytoeaaoceicjmdaa
open Go.RowKit

theorem insGo_nil (z : DInset) (t : List DInset) (p : Nat) (O : List Int) : insGo (z :: t) p [] O = none := by
  rw [insGo]
  simp

/-- A slice that is nil has no room. -/
def NilOk (u : Value) : Prop := ∀ n c, u = .slice none n c → n = 0 ∧ c = 0
theorem NilOk.of_owns {w : World} {base : Nat} {e : TypeId} {sz : Nat} {v : Value} {n : Nat} {xs : List Value} (h : w.ownsRow base e sz v n xs) : NilOk v := by
  intro n' c e1
  rcases h.2 with ⟨rfl, _⟩ | ⟨g, cap, _, rfl, _⟩
  · injection e1 with _ a b
    exact ⟨a.symm, b.symm⟩
  · injection e1 with a
    cases a

set_option maxHeartbeats 4000000 in
theorem specPlace_m0 (v : Value) (ca : Option Addr) (cc : Nat) (xs : List DInset) (w : World) (h : SRow 2 encInset w v xs) (hcc : ca = none → cc = 0) :
    Calls Try.prog 17 #[v, .slice ca 0 cc] w (PlacePost (placeXs xs []) (placeB xs []) w) := by
  have H := Lib.hid h
  obtain ⟨i0, hi, hz0, hz1, hz2⟩ := info_parts info_int
  clear h
  have o1 : ((w.alloc (.cells #[] 3)).alloc (.cells #[] 3)).ownsRow (w.heap.size + 1) 3 1 (.slice (some ⟨w.heap.size + 1, 0, none⟩) 0 0) 0 [] := by
    have e := World.ownsRow_made (base := w.heap.size + 1) (e := 3) (size := 1) (w.alloc (.cells #[] 3)) #[] 0 (by simp) (Nat.zero_le _) rfl
    simpa using e
  have o0 : ((w.alloc (.cells #[] 3)).alloc (.cells #[] 3)).ownsRow w.heap.size 3 1 (.slice (some ⟨w.heap.size, 0, none⟩) 0 0) 0 [] := (World.ownsRow_made (base := w.heap.size) (e := 3) (size := 1) w #[] 0 (Nat.le_refl _) (Nat.zero_le _) rfl).alloc _
  have b0 : Below w.heap.size w ((w.alloc (.cells #[] 3)).alloc (.cells #[] 3)) := ((Below.refl _ _).alloc (Nat.le_refl _) _).alloc (by simp) _
  have O1 := Lib.hid o1
  have O0 := Lib.hid o0
  have B0 := Lib.hid b0
  have HZ : placeO xs [] = if insB xs = true then insGo xs 0 [] [] else none := by
    unfold placeO
    have : roomsB [] = true := rfl
    rw [this]
    simp
  have HZ2 := Lib.hid HZ
  clear o1 o0 b0 HZ
  cases ca with
  | none =>
    obtain rfl : cc = 0 := hcc rfl
    go_enter Try.func17, Try.ntmps17
    go_wp2_with (at_builtin; refine wpList_append_own_none rfl _ _ 35 rfl (w.heap.size + 1) 3 i0 1 Try.underlying35 hi _ _ _ rfl O1.out rfl ?_)
    obtain ⟨W, hW⟩ : ∃ W, W = ((w.alloc (.cells #[] 3)).alloc (.cells #[] 3)) := ⟨_, rfl⟩
    rw [← hW]
    have bW : Below w.heap.size w W := by rw [hW]; exact B0.out
    have oW : W.ownsRow w.heap.size 3 1 (.slice (some ⟨w.heap.size, 0, none⟩) 0 0) 0 [] := by rw [hW]; exact O0.out
    have BW := Lib.hid bW
    have OW := Lib.hid oW
    clear hW bW oW B0 O0
    clear O1
    refine (specInsetsValid_any v xs _ (H.out.below BW.out)).mono ?_
    rintro e w2 ⟨rfl, b2⟩
    have B2 := Lib.hid (below_next BW.out b2 (Nat.le_refl _))
    have O2 := Lib.hid (owns_below OW.out b2)
    have hs2 : SRow 2 encInset w2 v xs := H.out.below B2.out
    clear b2 BW OW
    cases hv : insB xs
    · have e : placeO xs [] = none := by rw [HZ2.out, hv]; rfl
      have E := Lib.hid e
      clear e hv hs2
      go_wp2
      go_ret2
      unfold placeXs placeB
      rw [E.out]
      exact ⟨_, rfl, O2.out, B2.out⟩
    · have e0 : placeO xs [] = insGo xs 0 [] [] := by rw [HZ2.out, if_pos hv]
      have HXB := Lib.hid (insB_true hv)
      have E0 := Lib.hid e0
      clear hv e0
      go_wp2
      refine wp_loop_rounds 1 ?_
      rw [rounds_succ]
      go_wp2_with fail
      by_cases h0 : xs.length = 0
      · obtain rfl : xs = [] := List.eq_nil_of_length_eq_zero h0
        obtain ⟨a, cap, rfl⟩ := hs2.empty
        clear h0 hs2 H HXB
        go_wp2
        refine wp_loop_rounds 1 ?_
        rw [rounds_succ]
        go_wp2
        go_ret2
        have e : placeO [] [] = some [] := E0.out
        unfold placeXs placeB
        rw [e]
        exact ⟨_, rfl, O2.out, B2.out⟩
      · obtain ⟨b, off, cap, rfl, hbl, hc⟩ := hs2.pos encInset_pos (by omega)
        have hk' : 0 < xs.length := by omega
        have q := hc 0 hk'
        have hzb := HXB.out.2 xs[0] (List.getElem_mem hk')
        obtain ⟨z, hx⟩ : ∃ x, x = xs[0] := ⟨_, rfl⟩
        have e : placeO xs [] = none := by
          rw [E0.out]
          have : xs = xs[0] :: xs.drop 1 := by simpa using List.drop_eq_getElem_cons hk'
          rw [this, insGo_nil]
        rw [← hx] at q hzb
        obtain ⟨z1, z2, z3, z4⟩ := hzb
        have c0 : w2.cell? ⟨b, off, none⟩ = some (.int .i64 z.f0) := by simpa using q 0 _ rfl
        have c1 : w2.cell? ⟨b, off + 1, none⟩ = some (.int .i64 z.f1) := by simpa using q 1 _ rfl
        have hlt0 : decide (z.f1 < 0) = false := decide_eq_false (by omega)
        have hlen : xs.length ≤ 9223372036854775807 := hs2.len
        obtain ⟨n, hn⟩ : ∃ n, n = xs.length := ⟨_, rfl⟩
        have E := Lib.hid e
        rw [← hn] at h0 hk' hlen ⊢
        clear q hx hc HXB hs2 e hn H E0 HZ2
        go_wp2
        refine wp_loop_rounds 1 ?_
        rw [rounds_succ]
        go_wp2
        all_goals
          refine wp_loop_rounds 1 ?_
          rw [rounds_succ]
          go_wp2_with fail
          go_quiet (fail)
          go_wp2
          go_ret2
          unfold placeXs placeB
          rw [E.out]
          exact ⟨_, rfl, World.ownsRow.mono (World.ownsRow_made _ #[] 0 (Nat.le_refl _) (Nat.zero_le _) rfl) (by have := B2.out.size; simpa using this), (below_drewN B2.out _).alloc (by have := B2.out.size; simpa using this) _⟩
  | some ad =>
    go_enter Try.func17, Try.ntmps17
    go_wp2_with (at_builtin; refine append_mine _ rfl _ _ 35 rfl (w.heap.size + 1) 3 i0 (.int .i64 0) 1 8 Try.underlying35 hi hz0 hz1 hz2 rfl (by decide) (.slice (some ⟨w.heap.size + 1, 0, none⟩) 0 0) 0 [] rfl O1.out ad 0 cc [] rfl rfl (by intro j u hu; cases hu) (by intro u hu; cases hu) (by unfold maxLen; omega) (by omega) (by simp) ?_; intro VL w1 hown' hgrow hmv)
    have bW : Below w.heap.size w w1 := B0.out.grown hgrow (by have := B0.out.size; omega) (fun j hj => by cases hj; exact Nat.le_succ _)
    have oW : w1.ownsRow w.heap.size 3 1 (.slice (some ⟨w.heap.size, 0, none⟩) 0 0) 0 [] := O0.out.kept hgrow (.inr (by simp [Value.ownBlock]))
    have BW := Lib.hid bW
    have OW := Lib.hid oW
    clear bW oW B0 O0 hown' hgrow hmv
    clear O1
    refine (specInsetsValid_any v xs _ (H.out.below BW.out)).mono ?_
    rintro e w2 ⟨rfl, b2⟩
    have B2 := Lib.hid (below_next BW.out b2 (Nat.le_refl _))
    have O2 := Lib.hid (owns_below OW.out b2)
    have hs2 : SRow 2 encInset w2 v xs := H.out.below B2.out
    clear b2 BW OW
    cases hv : insB xs
    · have e : placeO xs [] = none := by rw [HZ2.out, hv]; rfl
      have E := Lib.hid e
      clear e hv hs2
      go_wp2
      go_ret2
      unfold placeXs placeB
      rw [E.out]
      exact ⟨_, rfl, O2.out, B2.out⟩
    · have e0 : placeO xs [] = insGo xs 0 [] [] := by rw [HZ2.out, if_pos hv]
      have HXB := Lib.hid (insB_true hv)
      have E0 := Lib.hid e0
      clear hv e0
      go_wp2
      refine wp_loop_rounds 1 ?_
      rw [rounds_succ]
      go_wp2_with fail
      by_cases h0 : xs.length = 0
      · obtain rfl : xs = [] := List.eq_nil_of_length_eq_zero h0
        obtain ⟨a, cap, rfl⟩ := hs2.empty
        clear h0 hs2 H HXB
        go_wp2
        refine wp_loop_rounds 1 ?_
        rw [rounds_succ]
        go_wp2
        go_ret2
        have e : placeO [] [] = some [] := E0.out
        unfold placeXs placeB
        rw [e]
        exact ⟨_, rfl, O2.out, B2.out⟩
      · obtain ⟨b, off, cap, rfl, hbl, hc⟩ := hs2.pos encInset_pos (by omega)
        have hk' : 0 < xs.length := by omega
        have q := hc 0 hk'
        have hzb := HXB.out.2 xs[0] (List.getElem_mem hk')
        obtain ⟨z, hx⟩ : ∃ x, x = xs[0] := ⟨_, rfl⟩
        have e : placeO xs [] = none := by
          rw [E0.out]
          have : xs = xs[0] :: xs.drop 1 := by simpa using List.drop_eq_getElem_cons hk'
          rw [this, insGo_nil]
        rw [← hx] at q hzb
        obtain ⟨z1, z2, z3, z4⟩ := hzb
        have c0 : w2.cell? ⟨b, off, none⟩ = some (.int .i64 z.f0) := by simpa using q 0 _ rfl
        have c1 : w2.cell? ⟨b, off + 1, none⟩ = some (.int .i64 z.f1) := by simpa using q 1 _ rfl
        have hlt0 : decide (z.f1 < 0) = false := decide_eq_false (by omega)
        have hlen : xs.length ≤ 9223372036854775807 := hs2.len
        obtain ⟨n, hn⟩ : ∃ n, n = xs.length := ⟨_, rfl⟩
        have E := Lib.hid e
        rw [← hn] at h0 hk' hlen ⊢
        clear q hx hc HXB hs2 e hn H E0 HZ2
        go_wp2
        refine wp_loop_rounds 1 ?_
        rw [rounds_succ]
        go_wp2
        all_goals
          refine wp_loop_rounds 1 ?_
          rw [rounds_succ]
          go_wp2_with fail
          go_quiet (fail)
          go_wp2
          go_ret2
          unfold placeXs placeB
          rw [E.out]
          exact ⟨_, rfl, World.ownsRow.mono (World.ownsRow_made _ #[] 0 (Nat.le_refl _) (Nat.zero_le _) rfl) (by have := B2.out.size; simpa using this), (below_drewN B2.out _).alloc (by have := B2.out.size; simpa using this) _⟩
end Go.Proofs.Ytoeaaoceicjmdaa

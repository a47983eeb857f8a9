/-
  PROVED HERE: what the text of the law FnInsetsValid does: it returns true and turns nothing that was there. Conditions: the walk's own.
-/
import Derived.Test.YtoeaaoceicjmdaaDrawIns
import Derived.Test.YtoeaaoceicjmdaaPlaceL
namespace Go.Proofs.Ytoeaaoceicjmdaa
open Go.RowKit

theorem owns_lit (w : World) (base : Nat) (E : TypeId) (sz n : Nat) (l : List Value) (hb : base ≤ w.heap.size) (hn : n ≤ maxLen) (hl : l.length = n * sz) : (w.alloc (.cells l.toArray E)).ownsRow base E sz (.slice (some ⟨w.heap.size, 0, none⟩) n n) n l :=
  ⟨hl, .inr ⟨w.heap.size, n, l.toArray, rfl, hb, heap_alloc_new w _, Nat.le_refl _, hn, by simpa using hl, by rw [← hl]; simp⟩⟩
theorem SRow.drop {α : Type} {sz : Nat} {enc : α → List Value} {w : World} {b off cap : Nat} {xs : List α} (h : SRow sz enc w (.slice (some ⟨b, off, none⟩) xs.length cap) xs) (j cap' : Nat) : SRow sz enc w (.slice (some ⟨b, off + j * sz, none⟩) (xs.length - j) cap') (xs.drop j) := by
  obtain ⟨a, c, e, hl, hc⟩ := h
  injection e with e1 _ e3
  subst e1
  refine ⟨_, cap', by rw [List.length_drop], by rw [List.length_drop]; omega, fun i hi => ⟨b, off + j * sz, rfl, fun o u hu => ?_⟩⟩
  have hi2 : j + i < xs.length := by rw [List.length_drop] at hi; omega
  obtain ⟨b', off', e4, h'⟩ := hc (j + i) hi2
  obtain ⟨rfl, rfl⟩ : b = b' ∧ off = off' := by simpa using e4
  rw [List.getElem_drop] at hu
  have := h' o u hu
  rw [Nat.add_mul] at this
  rw [show off + j * sz + i * sz + o = off + (j * sz + i * sz) + o by omega]
  exact this
theorem insFrom_weak : ∀ (xs : List DInset) (p q : Int), q ≤ p → insFrom p xs = true → insFrom q xs = true
  | [], _, _, _, _ => rfl
  | x :: t, p, q, h, h1 => by
    rw [insFrom] at h1 ⊢
    simp only [Bool.and_eq_true, decide_eq_true_eq] at h1 ⊢
    exact ⟨h1.1, h1.2.1, by omega, h1.2.2.2⟩
theorem insFrom_drop : ∀ (xs : List DInset) (j : Nat) (p : Int), -1 ≤ p → insFrom p xs = true → insFrom (-1) (xs.drop j) = true
  | xs, 0, p, h0, h => insFrom_weak xs p (-1) h0 h
  | [], j + 1, _, _, _ => by simp [insFrom]
  | x :: t, j + 1, p, h0, h => by
    rw [insFrom] at h
    simp only [Bool.and_eq_true, decide_eq_true_eq] at h
    exact insFrom_drop t j x.f1 (by have := inB_true h.2.1; omega) h.2.2.2
theorem insB_drop {xs : List DInset} (h : insB xs = true) (j : Nat) : insB (xs.drop j) = true := by
  unfold insB at h ⊢
  rw [Bool.and_eq_true] at h ⊢
  refine ⟨insFrom_drop xs j _ (by omega) h.1, ?_⟩
  have := of_decide_eq_true h.2
  exact decide_eq_true (by rw [List.length_drop]; omega)
theorem insB_zero (xs : List DInset) : insB (⟨0, 0⟩ :: xs) = false := by
  unfold insB
  rw [insFrom]
  rfl

set_option maxHeartbeats 4000000 in
theorem fnInsetsValid_walk (a : Option Addr) (n cap : Nat) (w : World) (h : Code8 w a n cap) : Calls Try.prog 4 #[.slice a n cap] w (Ret (.bool true) w) := by
  have hn : n ≤ 9223372036854775807 := by have := h.2.1; unfold maxLen at this; omega
  by_cases hbig : 1048576 < n
  · go_enter Try.func4, Try.ntmps4
    go_wp2
    go_ret
    exact ⟨rfl, Below.refl _ _⟩
  · have H := Lib.hid h
    clear h
    obtain ⟨i0, hi, hz0, hz1, hz2⟩ := info_parts info_Inset
    go_enter Try.func4, Try.ntmps4
    go_wp2_with fail
    refine (drawInsetsValid_any a n cap w H.out).mono ?_
    rintro e w1 ⟨xs, v, hl, rfl, ho, hb⟩
    have hs : SRow 2 encInset w1 v xs := SRow.of_owns encInset_len rfl ho
    go_wp2_with fail
    refine (implInsetsValid_any v xs w1 hs).mono ?_
    rintro e w2 ⟨rfl, b2⟩
    have hs2 := hs.below b2
    have ho2 := owns_below ho b2
    go_wp2_with fail
    refine (specInsetsValid_any v xs w2 hs2).mono ?_
    rintro e w3 ⟨rfl, b3⟩
    have ho3 := owns_below ho2 b3
    have B3 := Lib.hid (below_next (below_next hb b2 (Nat.le_refl _)) b3 (Nat.le_refl _))
    obtain ⟨m, hm⟩ : ∃ m, m = xs.length := ⟨_, rfl⟩
    have HM := Lib.hid hm
    obtain ⟨bt, hbt⟩ : ∃ bt, bt = insB xs := ⟨_, rfl⟩
    have HBT := Lib.hid hbt
    rw [← hbt]
    rw [← hm] at ho3 hl
    have O3 := Lib.hid ho3
    have hws : w.heap.size ≤ w3.heap.size := B3.out.size
    have OLIT := Lib.hid (owns_lit w3 w3.heap.size 32 2 1 [.int .i64 0, .int .i64 0] (Nat.le_refl _) (by unfold maxLen; omega) rfl)
    clear hm hbt ho ho2 hs hs2 b2 b3 hb
    rcases O3.out.2 with ⟨rfl, h0⟩ | ⟨g, cp, _, rfl, hg, _, hcp, hcm, _⟩
    · obtain rfl : xs = [] := List.eq_nil_of_length_eq_zero (by rw [← HM.out]; exact h0)
      subst h0
      obtain rfl : bt = true := HBT.out
      go_wp2_with (at_builtin; refine wpList_append_own_none rfl _ _ 25 rfl w3.heap.size 32 i0 2 Try.underlying25 hi _ _ _ rfl OLIT.out rfl ?_)
      have s4 := SRow.of_owns (xs := [⟨0, 0⟩]) encInset_len rfl OLIT.out
      refine (implInsetsValid_any _ [⟨0, 0⟩] _ s4).mono ?_
      rintro e w4 ⟨rfl, b4⟩
      rw [insB_zero]
      have B4 := Lib.hid ((B3.out.alloc hws _).trans (b4.mono (by simp; omega)))
      clear s4 b4
      go_wp2_with fail
      refine (implInsetsValid_any _ [] _ ⟨none, 0, rfl, by simp, fun j hj => by simp at hj⟩).mono ?_
      rintro e w5 ⟨rfl, b5⟩
      have e5 : insB [] = true := rfl
      rw [e5]
      have B5 := Lib.hid (below_next B4.out b5 (Nat.le_refl _))
      clear b5 e5
      go_wp2_with fail
      refine (alive_any _).mono ?_
      rintro e w6 ⟨rfl, b6⟩
      have B6 := Lib.hid (below_next B5.out b6 (Nat.le_refl _))
      clear b6
      go_wp2
      go_ret
      exact ⟨rfl, B6.out⟩
    · have hnews : ∀ j u, (xs.flatMap encInset)[j]? = some u → (w3.alloc (.cells #[.int .i64 0, .int .i64 0] 32)).cell? ((⟨g, 0, none⟩ : Addr).add j) = some u := by
        intro j u hu
        have e : ((⟨g, 0, none⟩ : Addr).add j) = ⟨g, j, none⟩ := by unfold Addr.add; split <;> simp_all
        have hj : j < m * 2 := by rw [← O3.out.1]; exact (List.getElem?_eq_some_iff.1 hu).1
        rw [e, World.cell?_alloc_past _ _ _ (O3.out.lt g rfl).2, O3.out.cellAt j hj]
        exact hu
      have HN := Lib.hid hnews
      have hcm' : cp ≤ 9223372036854775807 := by unfold maxLen at hcm; omega
      clear hnews hcm
      go_wp2_with (at_builtin; refine wpList_append_own _ rfl _ _ 25 rfl w3.heap.size 32 i0 (.agg #[.int .i64 0, .int .i64 0]) 2 16 Try.underlying25 hi hz0 hz1 hz2 rfl (by decide) (.slice (some ⟨w3.heap.size, 0, none⟩) 1 1) 1 [.int .i64 0, .int .i64 0] rfl OLIT.out ⟨g, 0, none⟩ m cp (xs.flatMap encInset) rfl O3.out.1 HN.out (by intro u hu; obtain ⟨x, _, hx⟩ := List.mem_flatMap.1 hu; simp [encInset] at hx; rcases hx with rfl | rfl <;> rfl) (by unfold maxLen; omega) (by omega) (by simp) ?_; intro v' w4 hown' hgrow _)
      have s4 : SRow 2 encInset w4 v' (⟨0, 0⟩ :: xs) := SRow.of_owns (n := 1 + m) encInset_len (by rw [List.length_cons, ← HM.out]; omega) (by simpa [encInset] using hown')
      have b4 : Below w.heap.size w w4 := (B3.out.alloc hws _).grown hgrow (by simp; omega) (fun j hj => by have := (OLIT.out.lt j hj).1; omega)
      have o4 := (O3.out.alloc (.cells #[.int .i64 0, .int .i64 0] 32)).kept hgrow (.inr (by have := (O3.out.lt g rfl).2; simp [Value.ownBlock]; omega))
      have B4 := Lib.hid b4
      have O4 := Lib.hid o4
      clear b4 o4 hown' hgrow HN
      refine (implInsetsValid_any _ _ _ s4).mono ?_
      rintro e w5 ⟨rfl, b5⟩
      rw [insB_zero]
      have B5 := Lib.hid (below_next B4.out b5 (Nat.le_refl _))
      have O5 := Lib.hid (owns_below O4.out b5)
      clear s4 b5
      have s5 : SRow 2 encInset w5 (.slice (some ⟨g, 0, none⟩) m cp) xs := SRow.of_owns encInset_len HM.out.symm O5.out
      have S5 := Lib.hid s5
      clear s5
      cases bt with
      | false =>
        go_wp2_with fail
        refine (alive_any _).mono ?_
        rintro e w6 ⟨rfl, b6⟩
        have B6 := Lib.hid (below_next B5.out b6 (Nat.le_refl _))
        clear b6
        go_wp2
        go_ret
        exact ⟨rfl, B6.out⟩
      | true =>
        by_cases hc : cp = m / 2
        · have s6 : SRow 2 encInset w5 (.slice (some ⟨g, 0, none⟩) (m - m / 2) 0) xs := by
            have hm0 : m = 0 := by omega
            obtain ⟨a', c', e, hl', hc'⟩ := S5.out
            injection e with e1 e2 e3
            exact ⟨some ⟨g, 0, none⟩, _, by rw [← e2, hm0], hl', fun j hj => by have := HM.out; omega⟩
          have S6 := Lib.hid s6
          clear s6
          go_wp2_with fail
          refine (implInsetsValid_any _ xs _ S6.out).mono ?_
          rintro e w6 ⟨rfl, b6⟩
          rw [← HBT.out]
          have B6 := Lib.hid (below_next B5.out b6 (Nat.le_refl _))
          clear b6
          go_wp2_with fail
          refine (alive_any _).mono ?_
          rintro e w7 ⟨rfl, b7⟩
          have B7 := Lib.hid (below_next B6.out b7 (Nat.le_refl _))
          clear b7
          go_wp2
          go_ret
          exact ⟨rfl, B7.out⟩
        · have s6 : SRow 2 encInset w5 (.slice (some ⟨g, m / 2 * 2, none⟩) (m - m / 2) (cp - m / 2)) (xs.drop (m / 2)) := by
            have e := S5.out
            rw [HM.out] at e ⊢
            have := e.drop (xs.length / 2) (cp - xs.length / 2)
            rw [Nat.zero_add] at this
            exact this
          have S6 := Lib.hid s6
          clear s6
          go_wp2_with fail
          refine (implInsetsValid_any _ (xs.drop (m / 2)) _ S6.out).mono ?_
          rintro e w6 ⟨rfl, b6⟩
          rw [insB_drop HBT.out.symm]
          have B6 := Lib.hid (below_next B5.out b6 (Nat.le_refl _))
          clear b6
          go_wp2_with fail
          refine (alive_any _).mono ?_
          rintro e w7 ⟨rfl, b7⟩
          have B7 := Lib.hid (below_next B6.out b7 (Nat.le_refl _))
          clear b7
          go_wp2
          go_ret
          exact ⟨rfl, B7.out⟩
end Go.Proofs.Ytoeaaoceicjmdaa

/-
  PROVED HERE: what the text of the law FnSpansValid does: it returns true and turns nothing that was there. Conditions: the walk's own.
-/
import Derived.Test.YtjkahdmmejmilaaDrawSp
import Derived.Test.YtjkahdmmejmilaaSpanP
namespace Go.Proofs.Ytjkahdmmejmilaa
open Go.RowKit

theorem append_want {P : Program} (w : World) {ops : Array Oper} {rest : List Oper} {o : Oper} {a : Act} {Q : Exit → Act → World → Prop} (hgd : Region.wanted o (yielded ops a.tmps) = true) (s x : Operand) (t : TypeId)
    (ho : o.op = .call { callee := .builtin .append, args := #[s, x], argTypes := #[t, t] })
    (base : Nat) (e : TypeId) (i : TypeInfo) (z : Value) (size bytes : Nat) (ht : P.underlying t = some (.slice e)) (hi : P.info? e = some i) (hz : i.zero = some z)
    (hsize : i.size = size) (hby : i.bytes = bytes) (hzs : z.cells.size = size) (hsz : 0 < size)
    (v : Value) (n : Nat) (xs : List Value) (hs : a.eval s = v) (hown : w.ownsRow base e size v n xs)
    (ad : Addr) (m c : Nat) (news : List Value) (hx : a.eval x = .slice (some ad) m c) (hl : news.length = m * size) (hnews : ∀ j u, news[j]? = some u → w.cell? (ad.add j) = some u) (h1 : ∀ u ∈ news, u.oneCell' = true)
    (h63 : n + m ≤ maxLen) (hbytes : (n + m) * bytes ≤ 140737488355328) (hbase : base ≤ w.heap.size)
    (h : ∀ v' w', w'.ownsRow base e size v' (n + m) (xs ++ news) → w.grownBy w' v.ownBlock → (v' = .slice none 0 0 ↔ v = .slice none 0 0 ∧ m = 0) → wpList P ops Q rest (a.put o.dst v') w') : wpList P ops Q (o :: rest) a w :=
  Go.BigFrame.wpList_want hgd fun _ hK => wp_append_own w s x t ho base e i z size bytes ht hi hz hsize hby hzs hsz v n xs hs hown ad m c news hx hl hnews h1 h63 hbytes hbase fun v' w' h2 h3 h4 => hK _ _ (h v' w' h2 h3 h4)
theorem owns_lit (w : World) (base : Nat) (E : TypeId) (sz n : Nat) (l : List Value) (hb : base ≤ w.heap.size) (hn : n ≤ maxLen) (hl : l.length = n * sz) : (w.alloc (.cells l.toArray E)).ownsRow base E sz (.slice (some ⟨w.heap.size, 0, none⟩) n n) n l :=
  ⟨hl, .inr ⟨w.heap.size, n, l.toArray, rfl, hb, heap_alloc_new w _, Nat.le_refl _, hn, by simpa using hl, by rw [← hl]; simp⟩⟩
theorem own_some {w : World} {base : Nat} {E : TypeId} {sz n : Nat} {v : Value} {xs : List Value} (h : w.ownsRow base E sz v n xs) (hv : v ≠ .slice none 0 0) : ∃ g cap, v = .slice (some ⟨g, 0, none⟩) n cap ∧ base ≤ g ∧ g < w.heap.size ∧ n ≤ cap ∧ cap ≤ maxLen := by
  rcases h.2 with ⟨e, _⟩ | ⟨g, cap, _, rfl, hb, _, h1, h2, _⟩
  · exact absurd e hv
  · exact ⟨g, cap, rfl, hb, (h.lt g rfl).2, h1, h2⟩
theorem SRow.drop {α : Type} {sz : Nat} {enc : α → List Value} {w : World} {b off cap : Nat} {xs : List α} (h : SRow sz enc w (.slice (some ⟨b, off, none⟩) xs.length cap) xs) (j cap' : Nat) : SRow sz enc w (.slice (some ⟨b, off + j * sz, none⟩) (xs.length - j) cap') (xs.drop j) := by
  obtain ⟨a, c, e, hl, hc⟩ := h
  injection e with e1 _ e3
  subst e1
  refine ⟨_, cap', by rw [List.length_drop], by rw [List.length_drop]; omega, fun i hi => ⟨b, off + j * sz, rfl, fun o u hu => ?_⟩⟩
  have hi2 : j + i < xs.length := by rw [List.length_drop] at hi; omega
  obtain ⟨b', off', e4, h'⟩ := hc (j + i) hi2
  obtain ⟨rfl, rfl⟩ : b = b' ∧ off = off' := by simpa using e4
  rw [List.getElem_drop] at hu
  have := h' o u hu
  rw [Nat.add_mul] at this
  rw [show off + j * sz + i * sz + o = off + (j * sz + i * sz) + o by omega]
  exact this
theorem spB_tail {x : DSpan} {t : List DSpan} (h : spB (x :: t) = true) : spB t = true := by
  unfold spB at h ⊢
  rw [Bool.and_eq_true] at h ⊢
  obtain ⟨h1, h2⟩ := h
  rw [spFrom, Bool.and_eq_true, Bool.and_eq_true] at h1
  have h2 := of_decide_eq_true h2
  rw [List.length_cons] at h2
  refine ⟨?_, decide_eq_true (by omega)⟩
  have a := spOk_true h1.1
  cases t with
  | nil => rfl
  | cons y s =>
    have h3 := h1.2.2
    rw [spFrom, Bool.and_eq_true, Bool.and_eq_true] at h3 ⊢
    have h4 := of_decide_eq_true h3.2.1
    exact ⟨h3.1, decide_eq_true (by omega), h3.2.2⟩
theorem spB_twice (x : DSpan) (t : List DSpan) : spB (x :: x :: t) = false := by
  unfold spB
  rw [spFrom, spFrom]
  cases h : spOk x with
  | false => rfl
  | true =>
    have a := spOk_true h
    rw [decide_eq_false (show ¬ x.f1 + 2 ≤ x.f0 by omega)]
    simp

set_option maxHeartbeats 4000000 in
theorem fnSpansValid_walk (a : Option Addr) (n cap : Nat) (w : World) (h : Code8 w a n cap) : Calls Try.prog 4 #[.slice a n cap] w (Ret (.bool true) w) := by
  have hn : n ≤ 9223372036854775807 := by have := h.2.1; unfold maxLen at this; omega
  by_cases hbig : 1048576 < n
  · go_enter Try.func4, Try.ntmps4
    go_wp2
    go_ret
    exact ⟨rfl, Below.refl _ _⟩
  · have H := Lib.hid h
    clear h
    obtain ⟨i0, hi, hz0, hz1, hz2⟩ := info_parts info_Span
    go_enter Try.func4, Try.ntmps4
    go_wp2_with fail
    refine (drawSpansValid_any a n cap w H.out).mono ?_
    rintro e w1 ⟨xs, v, hl, hvn, rfl, ho, hb⟩
    have hs : SRow 2 encSpan w1 v xs := SRow.of_owns encSpan_len rfl ho
    obtain ⟨bt, hbt⟩ : ∃ bt, bt = spB xs := ⟨_, rfl⟩
    have C1 := Lib.hid (fun w (h : SRow 2 encSpan w v xs) => (hbt ▸ implSpansValid_any v xs w h : Calls Try.prog 10 #[v] w (Ret (.bool bt) w)))
    have C2 := Lib.hid (fun w (h : SRow 2 encSpan w v xs) => (hbt ▸ specSpansValid_any v xs w h : Calls Try.prog 8 #[v] w (Ret (.bool bt) w)))
    have HBT := Lib.hid hbt
    clear hbt H
    go_wp2_with fail
    refine (C1.out w1 hs).mono ?_
    rintro e w2 ⟨rfl, b2⟩
    go_wp2_with fail
    refine (C2.out w2 (hs.below b2)).mono ?_
    rintro e w3 ⟨rfl, b3⟩
    have O3 := Lib.hid (owns_below (owns_below ho b2) b3)
    have B3 := Lib.hid (below_next (below_next hb b2 (Nat.le_refl _)) b3 (Nat.le_refl _))
    have hws : w.heap.size ≤ w3.heap.size := B3.out.size
    clear ho hs b2 b3 hb C1 C2
    obtain ⟨g, cp, rfl, hg1, hg2, hcp, hcm⟩ := own_some O3.out hvn
    have hcm' : cp ≤ 9223372036854775807 := by unfold maxLen at hcm; omega
    cases bt with
    | false =>
      go_wp2_with fail
      refine (alive_any _).mono ?_
      rintro e w6 ⟨rfl, b6⟩
      have B6 := Lib.hid (below_next B3.out b6 (Nat.le_refl _))
      clear b6
      go_wp2
      go_ret
      exact ⟨rfl, B6.out⟩
    | true =>
      cases xs with
      | nil =>
        go_wp2_with fail
        refine (alive_any _).mono ?_
        rintro e w6 ⟨rfl, b6⟩
        have B6 := Lib.hid (below_next B3.out b6 (Nat.le_refl _))
        clear b6
        go_wp2
        go_ret
        exact ⟨rfl, B6.out⟩
      | cons x t =>
        have ht := Lib.hid (spB_tail HBT.out.symm)
        have tw := Lib.hid (spB_twice x t)
        obtain ⟨m, hm⟩ : ∃ m, m = t.length := ⟨_, rfl⟩
        have e1 : (x :: t).length = m + 1 := by rw [List.length_cons, hm]
        have O4 : Hid (w3.ownsRow w.heap.size 33 2 (.slice (some ⟨g, 0, none⟩) (m + 1) cp) (m + 1) ((x :: t).flatMap encSpan)) := by have h := O3.out; rw [e1] at h; exact h
        rw [e1] at hl hcp ⊢
        have HM := Lib.hid hm
        have q0 : w3.cell? ⟨g, 0, none⟩ = some (.int .i64 x.f0) := by rw [O4.out.cellAt 0 (by omega)]; rfl
        have q1 : w3.cell? ⟨g, 1, none⟩ = some (.int .i64 x.f1) := by rw [O4.out.cellAt 1 (by omega)]; rfl
        have hne : ((m : Int) + 1 == 0) = false := by simp; omega
        have s3 : Hid (SRow 2 encSpan w3 (.slice (some ⟨g, 0, none⟩) (x :: t).length cp) (x :: t)) := SRow.of_owns encSpan_len e1 (by rw [e1]; exact O4.out)
        clear hm e1 O3 hcm HBT hvn
        by_cases hc : cp = 1
        · subst hc
          have hm0 : m = 0 := by omega
          subst hm0
          have ht0 : t = [] := List.eq_nil_of_length_eq_zero HM.out.symm
          subst ht0
          have s4 : Hid (SRow 2 encSpan w3 (.slice (some ⟨g, 0, none⟩) 0 0) []) := ⟨_, 0, rfl, by simp, fun j hj => by simp at hj⟩
          go_wp2_with fail
          refine (implSpansValid_any _ [] _ s4.out).mono ?_
          rintro e w4 ⟨rfl, b4⟩
          have e0 : spB [] = true := rfl
          rw [e0]
          clear e0
          have O5 := Lib.hid (owns_below O4.out b4)
          have p0 : w4.cell? ⟨g, 0, none⟩ = some (.int .i64 x.f0) := (b4.cell (p := ⟨g, 0, none⟩) hg2).trans q0
          have p1 : w4.cell? ⟨g, 1, none⟩ = some (.int .i64 x.f1) := (b4.cell (p := ⟨g, 1, none⟩) hg2).trans q1
          have hg4 : g < w4.heap.size := by have := b4.size; omega
          have B4 := Lib.hid (below_next B3.out b4 (Nat.le_refl _))
          have hws4 : w.heap.size ≤ w4.heap.size := B4.out.size
          have OLIT := Lib.hid (owns_lit w4 w4.heap.size 33 2 1 [.int .i64 x.f0, .int .i64 x.f1] (Nat.le_refl _) (by unfold maxLen; omega) rfl)
          have hnews : ∀ j u, ([x].flatMap encSpan)[j]? = some u → (w4.alloc (.cells #[.int .i64 x.f0, .int .i64 x.f1] 33)).cell? ((⟨g, 0, none⟩ : Addr).add j) = some u := by
            intro j u hu
            have e : ((⟨g, 0, none⟩ : Addr).add j) = ⟨g, j, none⟩ := by unfold Addr.add; split <;> simp_all
            have hj : j < (1) * 2 := by rw [← O5.out.1]; exact (List.getElem?_eq_some_iff.1 hu).1
            rw [e, World.cell?_alloc_past _ _ _ hg4, O5.out.cellAt j hj]
            exact hu
          have HNW := Lib.hid hnews
          clear b4 hnews q0 q1
          go_wp2_with (at_builtin; refine append_want _ (by simp [Region.wanted, yielded]) _ _ 25 rfl w4.heap.size 33 i0 (.agg #[.int .i64 0, .int .i64 0]) 2 16 Try.underlying25 hi hz0 hz1 hz2 rfl (by decide) (.slice (some ⟨w4.heap.size, 0, none⟩) 1 1) 1 [.int .i64 x.f0, .int .i64 x.f1] rfl OLIT.out ⟨g, 0, none⟩ (1) 1 ([x].flatMap encSpan) rfl O5.out.1 HNW.out (by intro u hu; obtain ⟨x, _, hx⟩ := List.mem_flatMap.1 hu; simp [encSpan] at hx; rcases hx with rfl | rfl <;> rfl) (by unfold maxLen; omega) (by omega) (by simp) ?_; intro v' w5 hown' hgrow _)
          have s5 : SRow 2 encSpan w5 v' (x :: [x]) := SRow.of_owns (n := 1 + (1)) encSpan_len (by simp) (by simpa [encSpan] using hown')
          have b5 : Below w.heap.size w w5 := (B4.out.alloc hws4 _).grown hgrow (by simp; omega) (fun j hj => by have := (OLIT.out.lt j hj).1; omega)
          have B5 := Lib.hid b5
          clear b5 hown' hgrow HNW
          refine (implSpansValid_any _ _ _ s5).mono ?_
          rintro e w6 ⟨rfl, b6⟩
          rw [tw.out]
          have B6 := Lib.hid (below_next B5.out b6 (Nat.le_refl _))
          clear b6 s5
          go_wp2
          go_ret
          exact ⟨rfl, B6.out⟩
        · have s4 : Hid (SRow 2 encSpan w3 (.slice (some ⟨g, 2, none⟩) m (cp - 1)) t) := by
            have := s3.out.drop 1 (cp - 1)
            show SRow _ _ _ _ _
            rw [HM.out]
            simpa using this
          go_wp2_with fail
          refine (implSpansValid_any _ t _ s4.out).mono ?_
          rintro e w4 ⟨rfl, b4⟩
          rw [ht.out]
          have O5 := Lib.hid (owns_below O4.out b4)
          have p0 : w4.cell? ⟨g, 0, none⟩ = some (.int .i64 x.f0) := (b4.cell (p := ⟨g, 0, none⟩) hg2).trans q0
          have p1 : w4.cell? ⟨g, 1, none⟩ = some (.int .i64 x.f1) := (b4.cell (p := ⟨g, 1, none⟩) hg2).trans q1
          have hg4 : g < w4.heap.size := by have := b4.size; omega
          have B4 := Lib.hid (below_next B3.out b4 (Nat.le_refl _))
          have hws4 : w.heap.size ≤ w4.heap.size := B4.out.size
          have OLIT := Lib.hid (owns_lit w4 w4.heap.size 33 2 1 [.int .i64 x.f0, .int .i64 x.f1] (Nat.le_refl _) (by unfold maxLen; omega) rfl)
          have hnews : ∀ j u, ((x :: t).flatMap encSpan)[j]? = some u → (w4.alloc (.cells #[.int .i64 x.f0, .int .i64 x.f1] 33)).cell? ((⟨g, 0, none⟩ : Addr).add j) = some u := by
            intro j u hu
            have e : ((⟨g, 0, none⟩ : Addr).add j) = ⟨g, j, none⟩ := by unfold Addr.add; split <;> simp_all
            have hj : j < (m + 1) * 2 := by rw [← O5.out.1]; exact (List.getElem?_eq_some_iff.1 hu).1
            rw [e, World.cell?_alloc_past _ _ _ hg4, O5.out.cellAt j hj]
            exact hu
          have HNW := Lib.hid hnews
          clear b4 hnews q0 q1
          go_wp2_with (at_builtin; refine append_want _ (by simp [Region.wanted, yielded]) _ _ 25 rfl w4.heap.size 33 i0 (.agg #[.int .i64 0, .int .i64 0]) 2 16 Try.underlying25 hi hz0 hz1 hz2 rfl (by decide) (.slice (some ⟨w4.heap.size, 0, none⟩) 1 1) 1 [.int .i64 x.f0, .int .i64 x.f1] rfl OLIT.out ⟨g, 0, none⟩ (m + 1) cp ((x :: t).flatMap encSpan) rfl O5.out.1 HNW.out (by intro u hu; obtain ⟨x, _, hx⟩ := List.mem_flatMap.1 hu; simp [encSpan] at hx; rcases hx with rfl | rfl <;> rfl) (by unfold maxLen; omega) (by omega) (by simp) ?_; intro v' w5 hown' hgrow _)
          have s5 : SRow 2 encSpan w5 v' (x :: (x :: t)) := SRow.of_owns (n := 1 + (m + 1)) encSpan_len (by simp; have := HM.out; omega) (by simpa [encSpan] using hown')
          have b5 : Below w.heap.size w w5 := (B4.out.alloc hws4 _).grown hgrow (by simp; omega) (fun j hj => by have := (OLIT.out.lt j hj).1; omega)
          have B5 := Lib.hid b5
          clear b5 hown' hgrow HNW
          refine (implSpansValid_any _ _ _ s5).mono ?_
          rintro e w6 ⟨rfl, b6⟩
          rw [tw.out]
          have B6 := Lib.hid (below_next B5.out b6 (Nat.le_refl _))
          clear b6 s5
          go_wp2
          go_ret
          exact ⟨rfl, B6.out⟩
end Go.Proofs.Ytjkahdmmejmilaa

/-
  PROVED HERE: what SnapRows of the program and of the reference return. Conditions: each theorem's own.
-/
import Derived.Test.YtkbpmpndfcdpkaaRowV
namespace Go.Proofs.Ytkbpmpndfcdpkaa
open Go.RowKit

theorem info_int : (Try.prog.info? 3).map (fun i => (i.zero, i.size, i.bytes)) = some (some (.int .i64 0), 1, 8) := by kernel_rfl

def snapTops (s : Int) : Int → List Int → List Int
  | _, [] => []
  | a, h :: t => snapI a s :: snapTops s (snapI a s + h) t
def snapBot (s : Int) : Int → List Int → Int
  | a, [] => a
  | a, h :: t => snapBot s (snapI a s + h) t
theorem snapTops_len (s : Int) : ∀ (l : List Int) (a : Int), (snapTops s a l).length = l.length
  | [], _ => rfl
  | h :: t, a => by simp [snapTops, snapTops_len s t]
theorem snapTops_snoc (s : Int) : ∀ (l : List Int) (a h : Int), snapTops s a (l ++ [h]) = snapTops s a l ++ [snapI (snapBot s a l) s]
  | [], a, h => rfl
  | x :: t, a, h => by simp [snapTops, snapBot, snapTops_snoc s t]
theorem snapBot_snoc (s : Int) : ∀ (l : List Int) (a h : Int), snapBot s a (l ++ [h]) = snapI (snapBot s a l) s + h
  | [], a, h => rfl
  | x :: t, a, h => by simp [snapBot, snapBot_snoc s t]
theorem snapBot_bd' (s : Int) (s1 : 1 ≤ s) (s2 : s ≤ 1000) : ∀ (l : List Int) (a : Int), (∀ z ∈ l, 1 ≤ z ∧ z ≤ 1000) → a ≤ snapBot s a l ∧ snapBot s a l ≤ a + 2000 * l.length
  | [], a, _ => by simp [snapBot]
  | x :: t, a, h => by
    have h1 := snapI_bd a s s1
    have h2 := h x List.mem_cons_self
    have ih := snapBot_bd' s s1 s2 t (snapI a s + x) (fun z hz => h z (List.mem_cons_of_mem _ hz))
    simp only [snapBot, List.length_cons]
    omega
theorem snapBot_bd (s : Int) (l : List Int) (s1 : 1 ≤ s) (s2 : s ≤ 1000) (h : ∀ z ∈ l, 1 ≤ z ∧ z ≤ 1000) : 0 ≤ snapBot s 0 l ∧ snapBot s 0 l ≤ 2000 * l.length := by
  have := snapBot_bd' s s1 s2 l 0 h
  omega
theorem rowsB_true {xs : List DRow} (h : rowsB xs = true) : (∀ y ∈ xs, 1 ≤ y.f0 ∧ y.f0 ≤ 1000) ∧ xs.length ≤ 30 := by
  unfold rowsB at h
  rw [Bool.and_eq_true, List.all_eq_true] at h
  refine ⟨fun y hy => ?_, by simpa using h.2⟩
  have := h.1 y hy
  unfold rowB at this
  simp only [Bool.and_eq_true] at this
  exact inB_true this.1.1

theorem owns_ne {w : World} {base : Nat} {e : TypeId} {sz : Nat} {v : Value} {n : Nat} {xs : List Value} (h : w.ownsRow base e sz v n xs) {b : Nat} (hb : b < base ∨ w.heap.size ≤ b) : some b ≠ v.ownBlock := by
  intro e
  have := h.lt b e.symm
  omega
/-- It returns a row of its own that reads as xs, and a number. -/
def SnapPost (xs : List Int) (b : Int) (w : World) (e : Ending) (w' : World) : Prop :=
  ∃ v, e = .returned (.tuple #[v, .int .i64 b]) ∧ w'.ownsRow w.heap.size 3 1 v xs.length (xs.map (Value.int .i64)) ∧ Below w.heap.size w w'

set_option maxHeartbeats 2000000 in
theorem implSnapRows_no (v : Value) (xs : List DRow) (s : Int) (w : World) (h : SRow 4 encRow w v xs) (hv : (rowsB xs && inB s 1 1000) = false) :
    Calls Try.prog 16 #[v, .int .i64 s] w (SnapPost [] (-1) w) := by
  cases h1 : rowsB xs
  all_goals
    go_enter Try.func16, Try.ntmps16
    go_wp2_with fail
    refine (implRowsValid_any v xs _ h).mono ?_
    rintro e w1 ⟨rfl, b1⟩
    have bb : Below w.heap.size w w1 := b1
    
    have BB := Lib.hid bb
    clear b1 bb h
    rw [h1]
  · go_wp2
    go_ret2
    exact ⟨_, rfl, World.ownsRow_nil _ _ _ _, BB.out⟩
  · have h2 : inB s 1 1000 = false := by rw [h1] at hv; simpa using hv
    go_wp2_with fail
    refine (isHeight_any _ _).mono ?_
    rintro e w' ⟨rfl, rfl⟩
    rw [h2]
    go_wp2
    go_ret2
    exact ⟨_, rfl, World.ownsRow_nil _ _ _ _, BB.out⟩

set_option maxHeartbeats 2000000 in
theorem specSnapRows_no (v : Value) (xs : List DRow) (s : Int) (w : World) (h : SRow 4 encRow w v xs) (hv : (rowsB xs && inB s 1 1000) = false) :
    Calls Try.prog 14 #[v, .int .i64 s] w (SnapPost [] (-1) w) := by
  cases h1 : rowsB xs
  all_goals
    go_enter Try.func14, Try.ntmps14
    go_wp2_with fail
    refine (specRowsValid_any v xs _ (h.below ((Below.refl _ _).alloc (Nat.le_refl _) _))).mono ?_
    rintro e w1 ⟨rfl, b1⟩
    have bb : Below w.heap.size w w1 := ((Below.refl _ _).alloc (Nat.le_refl _) _).trans (b1.mono (by simp))
    have OW := Lib.hid (owns_below (World.ownsRow_made (e := 3) (size := 1) w #[] 0 (Nat.le_refl _) (Nat.zero_le _) rfl) b1 : w1.ownsRow w.heap.size 3 1 (.slice (some ⟨w.heap.size, 0, none⟩) 0 0) 0 [])
    have BB := Lib.hid bb
    clear b1 bb h
    rw [h1]
  · go_wp2
    go_ret2
    exact ⟨_, rfl, OW.out, BB.out⟩
  · have h2 : inB s 1 1000 = false := by rw [h1] at hv; simpa using hv
    go_wp2_with fail
    refine (l1In_any _ _ _ _).mono ?_
    rintro e w' ⟨rfl, rfl⟩
    rw [h2]
    go_wp2
    go_ret2
    exact ⟨_, rfl, OW.out, BB.out⟩

set_option maxHeartbeats 4000000 in
theorem implSnapRows_yes (v : Value) (xs : List DRow) (s : Int) (w : World) (h : SRow 4 encRow w v xs) (hv : rowsB xs = true) (hs : inB s 1 1000 = true) :
    Calls Try.prog 16 #[v, .int .i64 s] w (SnapPost (snapTops s 0 (xs.map (·.f0))) (snapBot s 0 (xs.map (·.f0))) w) := by
  have H := Lib.hid h
  obtain ⟨s1, s2⟩ := inB_true hs
  obtain ⟨hall, hlen⟩ := rowsB_true hv
  obtain ⟨i0, hi, hz0, hz1, hz2⟩ := info_parts info_int
  go_enter Try.func16, Try.ntmps16
  go_wp2_with fail
  refine (implRowsValid_any v xs _ h).mono ?_
  rintro e w1 ⟨rfl, b1⟩
  rw [hv]
  go_wp2_with fail
  refine (isHeight_any _ _).mono ?_
  rintro e w' ⟨rfl, rfl⟩
  rw [hs]
  have bb : Below w.heap.size w w1 := b1
  have h1 : SRow 4 encRow w1 v xs := h.below bb
  
  by_cases h0 : xs.length = 0
  · obtain rfl : xs = [] := List.eq_nil_of_length_eq_zero h0
    obtain ⟨a, cap, rfl⟩ := h.empty
    have BB := Lib.hid bb
    
    clear h H h1 h0 bb b1 hall hlen 
    go_wp2
    refine wp_loop_rounds 1 ?_
    rw [rounds_succ]
    go_wp2
    go_ret2
    exact ⟨_, rfl, World.ownsRow_nil _ _ _ _, BB.out⟩
  · obtain ⟨b, off, cap, rfl, hbl, hc⟩ := h.pos encRow_pos (by omega)
    obtain ⟨n, hn⟩ : ∃ n, n = xs.length := ⟨_, rfl⟩
    rw [← hn] at hlen h0 ⊢
    have HC := Lib.hid hc
    have HN := Lib.hid hn
    have BB := Lib.hid bb
    have HALL := Lib.hid hall
    have hws : w.heap.size ≤ w1.heap.size := bb.size
    
    clear hn hc h h1 H bb b1 hall hv 
    go_wp2
    go_loopw [6, 7, 21] (fun v bt i wr => ∃ k : Nat, k ≤ n ∧ i = .int .i64 k ∧ bt = .int .i64 (snapBot s 0 ((xs.map (·.f0)).take k)) ∧ Hid (wr.ownsRow w.heap.size 3 1 v k ((snapTops s 0 ((xs.map (·.f0)).take k)).map (Value.int .i64))) ∧ Below w.heap.size w wr) (fun _ _ i _ => n - (intOf i).toNat)
    case atStart => exact ⟨0, Nat.zero_le _, rfl, rfl, World.ownsRow_nil _ _ _ _, BB.out⟩
    case round =>
      obtain ⟨k, hk, rfl, rfl, ho, hb⟩ := hrel
      have bd := snapBot_bd s ((xs.map (·.f0)).take k) s1 s2 (by intro z hz; obtain ⟨y, hy, rfl⟩ := List.mem_map.1 (List.mem_of_mem_take hz); exact HALL.out y hy)
      have tl : ((xs.map (·.f0)).take k).length = k := by rw [List.length_take, List.length_map]; have := HN.out; omega
      rw [tl] at bd
      obtain ⟨B, hB⟩ : ∃ B, B = snapBot s 0 ((xs.map (·.f0)).take k) := ⟨_, rfl⟩
      rw [← hB] at bd ⊢
      obtain ⟨bd1, bd2⟩ := bd
      by_cases hlt : k < n
      · have hk' : k < xs.length := by rw [← HN.out]; exact hlt
        have q := HC.out k hk'
        have hx1 := HALL.out xs[k] (List.getElem_mem hk')
        obtain ⟨x, hx⟩ : ∃ x, x = xs[k] := ⟨_, rfl⟩
        rw [← hx] at q hx1
        have r : ∀ i u, (encRow x)[i]? = some u → wr.cell? ⟨b, off + k * 4 + i, none⟩ = some u := fun i u hu => (hb.cell (p := ⟨b, off + k * 4 + i, none⟩) hbl).trans (q i u hu)
        have c0 : wr.cell? ⟨b, off + k * 4, none⟩ = some (.int .i64 x.f0) := by simpa using r 0 _ rfl
        have c1 : wr.cell? ⟨b, off + k * 4 + 1, none⟩ = some (.bool x.f1) := by simpa using r 1 _ rfl
        have c2 : wr.cell? ⟨b, off + k * 4 + 2, none⟩ = some (.int .i64 x.f2) := by simpa using r 2 _ rfl
        have c3 : wr.cell? ⟨b, off + k * 4 + 3, none⟩ = some (.int .i64 x.f3) := by simpa using r 3 _ rfl
        have hbr : b < wr.heap.size := by have := hb.size; omega
        have tk : (xs.map (·.f0)).take (k + 1) = (xs.map (·.f0)).take k ++ [x.f0] := by
          rw [List.take_succ_eq_append_getElem (by simpa using hk'), List.getElem_map, ← hx]
        have sd := snapI_bd B s s1
        have se : (B + s - 1) / s * s = snapI B s := rfl
        obtain ⟨T, hT⟩ : ∃ T, T = snapI B s := ⟨_, rfl⟩
        rw [← hT] at sd se
        obtain ⟨sd1, sd2⟩ := sd
        have q0 : 0 ≤ (B + s - 1) / s := Int.ediv_nonneg (by omega) (by omega)
        have q1 : (B + s - 1) / s ≤ B + s - 1 := Int.ediv_le_self _ (by omega)
        obtain ⟨x1, x2⟩ := hx1
        have htop : snapTops s 0 ((xs.map (·.f0)).take (k + 1)) = snapTops s 0 ((xs.map (·.f0)).take k) ++ [T] := by rw [tk, snapTops_snoc, ← hB, ← hT]
        have hbot : snapBot s 0 ((xs.map (·.f0)).take (k + 1)) = T + x.f0 := by rw [tk, snapBot_snoc, ← hB, ← hT]
        have HTOP := Lib.hid htop
        have HBOT := Lib.hid hbot
        have HO := Lib.hid ho.out
        have HB := Lib.hid hb
        clear q r hx hb ho tk htop hbot hB hT tl
        have hT2 : snapI B s = T := se
        clear se q0 q1
        go_wp2_with fail
        refine (snap_any B s _ bd1 (by omega) s1 s2).mono ?_
        rintro e w' ⟨rfl, rfl⟩
        rw [hT2]
        clear hT2
        go_wp2_with (at_builtin; refine wpList_append_own _ rfl _ _ 31 rfl w.heap.size 3 i0 (.int .i64 0) 1 8 Try.underlying31 hi hz0 hz1 hz2 rfl (by decide) _ _ _ rfl ((HO.out.alloc _).alloc _) ⟨wr.heap.size + 1, 0, none⟩ 1 1 [.int .i64 T] rfl rfl (by simpa using cells_new (wr.alloc _) [_] _) (by intro u hu; simp at hu; subst hu; rfl) (by unfold maxLen; omega) (by omega) (by have := HB.out.size; simp; omega) ?_; intro v' w1 hown' hgrow _; have ee := hgrow.cell (a := ⟨wr.heap.size, 0, none⟩) ((World.cell?_alloc_past _ _ _ (by simp)).trans (World.cell?_alloc_at _ _ _ _ rfl)) (owns_ne HO.out (.inr (Nat.le_refl _))))
        have hbn : Below w.heap.size w w1 := by
          have hs2 := HB.out.size
          exact ((HB.out.alloc (by omega) _).alloc (by simp; omega) _).grown hgrow (by simp; omega) (fun j hj => (HO.out.lt j hj).1)
        go_roundw
        case rel => exact ⟨k + 1, by omega, by go_num, by rw [HBOT.out], by show World.ownsRow _ _ _ _ _ _ _; rw [HTOP.out, List.map_append]; exact hown', hbn⟩
        case measure => simp [intOf]; omega
      · obtain rfl : k = n := by omega
        have tn : (xs.map (·.f0)).take k = xs.map (·.f0) := List.take_of_length_le (by simp; have := HN.out; omega)
        have TN := Lib.hid tn
        have HB2 := Lib.hid hB
        clear tn HC hB tl
        go_wp2
        go_ret2
        have e1 : snapBot s 0 (xs.map (·.f0)) = B := by rw [HB2.out, TN.out]
        have e2 : (snapTops s 0 (xs.map (·.f0))).length = k := by rw [snapTops_len, List.length_map, ← HN.out]
        have h := ho.out
        rw [TN.out] at h
        rw [e1]
        exact ⟨_, rfl, by rw [e2]; exact h, hb⟩

set_option maxHeartbeats 4000000 in
theorem specSnapRows_yes (v : Value) (xs : List DRow) (s : Int) (w : World) (h : SRow 4 encRow w v xs) (hv : rowsB xs = true) (hs : inB s 1 1000 = true) :
    Calls Try.prog 14 #[v, .int .i64 s] w (SnapPost (snapTops s 0 (xs.map (·.f0))) (snapBot s 0 (xs.map (·.f0))) w) := by
  have H := Lib.hid h
  obtain ⟨s1, s2⟩ := inB_true hs
  obtain ⟨hall, hlen⟩ := rowsB_true hv
  obtain ⟨i0, hi, hz0, hz1, hz2⟩ := info_parts info_int
  go_enter Try.func14, Try.ntmps14
  go_wp2_with fail
  refine (specRowsValid_any v xs _ (h.below ((Below.refl _ _).alloc (Nat.le_refl _) _))).mono ?_
  rintro e w1 ⟨rfl, b1⟩
  rw [hv]
  go_wp2_with fail
  refine (l1In_any _ _ _ _).mono ?_
  rintro e w' ⟨rfl, rfl⟩
  rw [hs]
  have bb : Below w.heap.size w w1 := ((Below.refl _ _).alloc (Nat.le_refl _) _).trans (b1.mono (by simp))
  have h1 : SRow 4 encRow w1 v xs := h.below bb
  have hown0 : w1.ownsRow w.heap.size 3 1 (.slice (some ⟨w.heap.size, 0, none⟩) 0 0) 0 [] := owns_below (World.ownsRow_made w #[] 0 (Nat.le_refl _) (Nat.zero_le _) rfl) b1
  by_cases h0 : xs.length = 0
  · obtain rfl : xs = [] := List.eq_nil_of_length_eq_zero h0
    obtain ⟨a, cap, rfl⟩ := h.empty
    have BB := Lib.hid bb
    have OW := Lib.hid hown0
    clear h H h1 h0 bb b1 hall hlen hown0
    go_wp2
    refine wp_loop_rounds 1 ?_
    rw [rounds_succ]
    go_wp2
    go_ret2
    exact ⟨_, rfl, OW.out, BB.out⟩
  · obtain ⟨b, off, cap, rfl, hbl, hc⟩ := h.pos encRow_pos (by omega)
    obtain ⟨n, hn⟩ : ∃ n, n = xs.length := ⟨_, rfl⟩
    rw [← hn] at hlen h0 ⊢
    have HC := Lib.hid hc
    have HN := Lib.hid hn
    have BB := Lib.hid bb
    have HALL := Lib.hid hall
    have hws : w.heap.size ≤ w1.heap.size := bb.size
    have OW := Lib.hid hown0
    clear hn hc h h1 H bb b1 hall hv hown0
    go_wp2
    go_loopw [6, 7, 8] (fun v bt i wr => ∃ k : Nat, k ≤ n ∧ i = .int .i64 k ∧ bt = .int .i64 (snapBot s 0 ((xs.map (·.f0)).take k)) ∧ Hid (wr.ownsRow w.heap.size 3 1 v k ((snapTops s 0 ((xs.map (·.f0)).take k)).map (Value.int .i64))) ∧ Below w.heap.size w wr) (fun _ _ i _ => n - (intOf i).toNat)
    case atStart => exact ⟨0, Nat.zero_le _, rfl, rfl, OW.out, BB.out⟩
    case round =>
      obtain ⟨k, hk, rfl, rfl, ho, hb⟩ := hrel
      have bd := snapBot_bd s ((xs.map (·.f0)).take k) s1 s2 (by intro z hz; obtain ⟨y, hy, rfl⟩ := List.mem_map.1 (List.mem_of_mem_take hz); exact HALL.out y hy)
      have tl : ((xs.map (·.f0)).take k).length = k := by rw [List.length_take, List.length_map]; have := HN.out; omega
      rw [tl] at bd
      obtain ⟨B, hB⟩ : ∃ B, B = snapBot s 0 ((xs.map (·.f0)).take k) := ⟨_, rfl⟩
      rw [← hB] at bd ⊢
      obtain ⟨bd1, bd2⟩ := bd
      by_cases hlt : k < n
      · have hk' : k < xs.length := by rw [← HN.out]; exact hlt
        have q := HC.out k hk'
        have hx1 := HALL.out xs[k] (List.getElem_mem hk')
        obtain ⟨x, hx⟩ : ∃ x, x = xs[k] := ⟨_, rfl⟩
        rw [← hx] at q hx1
        have r : ∀ i u, (encRow x)[i]? = some u → wr.cell? ⟨b, off + k * 4 + i, none⟩ = some u := fun i u hu => (hb.cell (p := ⟨b, off + k * 4 + i, none⟩) hbl).trans (q i u hu)
        have c0 : wr.cell? ⟨b, off + k * 4, none⟩ = some (.int .i64 x.f0) := by simpa using r 0 _ rfl
        have c1 : wr.cell? ⟨b, off + k * 4 + 1, none⟩ = some (.bool x.f1) := by simpa using r 1 _ rfl
        have c2 : wr.cell? ⟨b, off + k * 4 + 2, none⟩ = some (.int .i64 x.f2) := by simpa using r 2 _ rfl
        have c3 : wr.cell? ⟨b, off + k * 4 + 3, none⟩ = some (.int .i64 x.f3) := by simpa using r 3 _ rfl
        have hbr : b < wr.heap.size := by have := hb.size; omega
        have tk : (xs.map (·.f0)).take (k + 1) = (xs.map (·.f0)).take k ++ [x.f0] := by
          rw [List.take_succ_eq_append_getElem (by simpa using hk'), List.getElem_map, ← hx]
        have sd := snapI_bd B s s1
        have se : (B + s - 1) / s * s = snapI B s := rfl
        obtain ⟨T, hT⟩ : ∃ T, T = snapI B s := ⟨_, rfl⟩
        rw [← hT] at sd se
        obtain ⟨sd1, sd2⟩ := sd
        have q0 : 0 ≤ (B + s - 1) / s := Int.ediv_nonneg (by omega) (by omega)
        have q1 : (B + s - 1) / s ≤ B + s - 1 := Int.ediv_le_self _ (by omega)
        obtain ⟨x1, x2⟩ := hx1
        have htop : snapTops s 0 ((xs.map (·.f0)).take (k + 1)) = snapTops s 0 ((xs.map (·.f0)).take k) ++ [T] := by rw [tk, snapTops_snoc, ← hB, ← hT]
        have hbot : snapBot s 0 ((xs.map (·.f0)).take (k + 1)) = T + x.f0 := by rw [tk, snapBot_snoc, ← hB, ← hT]
        have HTOP := Lib.hid htop
        have HBOT := Lib.hid hbot
        have HO := Lib.hid ho.out
        have HB := Lib.hid hb
        clear q r hx hb ho tk htop hbot hB hT tl
        go_wp2_with (at_builtin; refine wpList_append_own _ rfl _ _ 31 rfl w.heap.size 3 i0 (.int .i64 0) 1 8 Try.underlying31 hi hz0 hz1 hz2 rfl (by decide) _ _ _ rfl (HO.out.alloc _) ⟨wr.heap.size, 0, none⟩ 1 1 [.int .i64 T] rfl rfl (by simpa using cells_new wr [_] _) (by intro u hu; simp at hu; subst hu; rfl) (by unfold maxLen; omega) (by omega) (by have := HB.out.size; simp; omega) ?_; intro v' w1 hown' hgrow _; have ee := hgrow.cell (a := ⟨b, off + k * 4, none⟩) ((World.cell?_alloc_past _ _ _ hbr).trans c0) (owns_ne HO.out (.inl hbl)))
        have hbn : Below w.heap.size w w1 := by
          have hs2 := HB.out.size
          exact (HB.out.alloc (by omega) _).grown hgrow (by simp; omega) (fun j hj => (HO.out.lt j hj).1)
        go_roundw
        case rel => exact ⟨k + 1, by omega, by go_num, by rw [HBOT.out], by show World.ownsRow _ _ _ _ _ _ _; rw [HTOP.out, List.map_append]; exact hown', hbn⟩
        case measure => simp [intOf]; omega
      · obtain rfl : k = n := by omega
        have tn : (xs.map (·.f0)).take k = xs.map (·.f0) := List.take_of_length_le (by simp; have := HN.out; omega)
        have TN := Lib.hid tn
        have HB2 := Lib.hid hB
        clear tn HC hB tl
        go_wp2
        go_ret2
        have e1 : snapBot s 0 (xs.map (·.f0)) = B := by rw [HB2.out, TN.out]
        have e2 : (snapTops s 0 (xs.map (·.f0))).length = k := by rw [snapTops_len, List.length_map, ← HN.out]
        have h := ho.out
        rw [TN.out] at h
        rw [e1]
        exact ⟨_, rfl, by rw [e2]; exact h, hb⟩
end Go.Proofs.Ytkbpmpndfcdpkaa

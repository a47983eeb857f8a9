/-
  PROVED HERE: what the program's runsOf returns. Conditions: each theorem's own.
-/
import Derived.Test.YtnlhlgefaamdgaaSoI
set_option linter.unusedVariables false
set_option linter.unusedSimpArgs false
namespace Go.Proofs.Ytnlhlgefaamdgaa
open Go.RowKit
set_option maxRecDepth 100000

theorem info_pair : (Try.prog.info? 46).map (fun i => (i.zero, i.size, i.bytes)) = some (some (.agg #[.int .i64 0, .int .i64 0]), 2, 16) := by kernel_rfl
theorem spAdd_ends (xs : List DSpan) (n : Int) (hn : 1 ≤ n ∧ n ≤ 999) (h : ∀ x ∈ xs, 1 ≤ x.f1 ∧ x.f1 ≤ 999) : ∀ x ∈ spAdd xs n, 1 ≤ x.f1 ∧ x.f1 ≤ 999 := by
  rcases snoc_or xs with rfl | ⟨ys, y, rfl⟩
  · intro x hx
    rw [spAdd_nil, List.mem_singleton] at hx
    rw [hx]; exact hn
  · rw [spAdd_snoc]
    intro x hx
    split at hx
    · rw [List.mem_append, List.mem_singleton] at hx
      rcases hx with hx | rfl
      · exact h x (List.mem_append_left _ hx)
      · exact hn
    · rw [List.mem_append, List.mem_singleton] at hx
      rcases hx with hx | rfl
      · exact h x hx
      · exact hn
theorem spFold_snoc (l : List Int) (n : Int) : spFold (l ++ [n]) = spAdd (spFold l) n := by unfold spFold; rw [List.foldl_append]; rfl
theorem spFold_ends : ∀ (m : Nat) (l : List Int), l.length = m → (∀ n ∈ l, 1 ≤ n ∧ n ≤ 999) → ∀ x ∈ spFold l, 1 ≤ x.f1 ∧ x.f1 ≤ 999
  | 0, l, h, _ => by
    obtain rfl : l = [] := List.eq_nil_of_length_eq_zero h
    intro x hx; cases hx
  | m + 1, l, h, hn => by
    obtain ⟨l', n, rfl⟩ : ∃ l' n, l = l' ++ [n] := by
      rcases snoc_or l with rfl | h
      · cases h
      · exact h
    rw [spFold_snoc]
    exact spAdd_ends _ n (hn n (by simp)) (spFold_ends m l' (by simpa using h) fun k hk => hn k (List.mem_append_left _ hk))
theorem spFold_take (ps : List Int) (j : Nat) (h : j < ps.length) : spFold (ps.take (j + 1)) = spAdd (spFold (ps.take j)) (ps.getD j 0) := by
  rw [List.take_succ_eq_append_getElem h, spFold_snoc]
  simp [List.getD, h]
theorem spFold_len : ∀ (m : Nat) (l : List Int), l.length = m → (spFold l).length ≤ m
  | 0, l, h => by
    obtain rfl : l = [] := List.eq_nil_of_length_eq_zero h
    exact Nat.le_refl _
  | m + 1, l, h => by
    obtain ⟨l', n, rfl⟩ : ∃ l' n, l = l' ++ [n] := by
      rcases snoc_or l with rfl | h
      · cases h
      · exact h
    rw [spFold_snoc]
    have := spFold_len m l' (by simpa using h)
    have := spAdd_len (spFold l') n
    omega

/-- It returns a row of pairs of its own. -/
def RunPost (xs : List DSpan) (w : World) (e : Ending) (w' : World) : Prop :=
  ∃ v, e = .returned v ∧ w'.ownsRow w.heap.size 46 2 v xs.length (xs.flatMap encSpan) ∧ Below w.heap.size w w'

set_option maxHeartbeats 4000000 in
theorem runsOf_any (v : Value) (ps : List Int) (w : World) (h : IRow w v ps) (hl : ps.length ≤ 1048576) (hp : ∀ n ∈ ps, 1 ≤ n ∧ n ≤ 999) : Calls Try.prog 24 #[v] w (RunPost (spFold ps) w) := by
  obtain ⟨i0, hi, hz0, hz1, hz2⟩ := info_parts info_pair
  obtain ⟨a, ca, rfl, _, h3⟩ := h
  obtain ⟨n, hn⟩ : ∃ n, n = ps.length := ⟨_, rfl⟩
  have H3 := Lib.hid h3
  rw [← hn] at hl ⊢
  have HN := Lib.hid hn
  have HP := Lib.hid hp
  clear h3 hn hp
  go_enter Try.func24, Try.ntmps24
  go_wp2
  go_loopw [3, 9] (fun o i wr => ∃ j : Nat, j ≤ n ∧ i = .int .i64 j ∧ Hid (wr.ownsRow w.heap.size 46 2 o (spFold (ps.take j)).length ((spFold (ps.take j)).flatMap encSpan)) ∧ Hid (Below w.heap.size w wr)) (fun _ i _ => n - (intOf i).toNat)
  case atStart => exact ⟨0, Nat.zero_le _, rfl, World.ownsRow_nil _ _ _ _, Below.refl _ _⟩
  case round =>
    obtain ⟨j, hj, rfl, ho, hb⟩ := hrel
    have hwr : w.heap.size ≤ wr.heap.size := hb.out.size
    by_cases hjn : j < n
    · have hj' : j < ps.length := by rw [← HN.out]; exact hjn
      obtain ⟨b, off, rfl, hc⟩ := H3.out j hj'
      have hbl : b < w.heap.size := World.block_lt_of_cell? w _ hc
      have FSQ := Lib.hid (spFold_take ps j hj')
      have e1 : wr.cell? ⟨b, off + j, none⟩ = some (.int .i64 (ps.getD j 0)) := (hb.out.cell (p := ⟨b, off + j, none⟩) hbl).trans hc
      have hpz : 1 ≤ ps.getD j 0 ∧ ps.getD j 0 ≤ 999 := HP.out _ (by rw [show ps.getD j 0 = ps[j] by simp [List.getD, hj']]; exact List.getElem_mem hj')
      have PL : (spFold (ps.take j)).length ≤ j := spFold_len j (ps.take j) (by rw [List.length_take]; omega)
      have PE := spFold_ends j (ps.take j) (by rw [List.length_take]; omega) (fun n hn => HP.out n (List.mem_of_mem_take hn))
      obtain ⟨z, hz⟩ : ∃ z, z = ps.getD j 0 := ⟨_, rfl⟩
      obtain ⟨P, hP⟩ : ∃ P, P = spFold (ps.take j) := ⟨_, rfl⟩
      rw [← hz] at e1 FSQ hpz
      rw [← hP] at ho FSQ PL PE
      obtain ⟨hp1, hp2⟩ := hpz
      obtain ⟨ao, co, rfl⟩ : ∃ a c, u3 = .slice a P.length c := by
        rcases ho.out.2 with ⟨h1, h2⟩ | ⟨g, cap, cur, h1, _⟩
        · exact ⟨none, 0, by rw [h1, h2]⟩
        · exact ⟨_, _, h1⟩
      obtain ⟨L, hL⟩ : ∃ L, L = P.length := ⟨_, rfl⟩
      rw [← hL] at ho PL ⊢
      have HL := Lib.hid hL
      clear hL hP hz hc HP H3 HN
      rcases snoc_or P with rfl | ⟨ys, x, rfl⟩
      · obtain rfl : L = 0 := HL.out
        have FSQ := FSQ.out
        rw [spAdd_nil] at FSQ
        have FSQ := Lib.hid FSQ
        clear PL PE
        go_wp2_with (at_builtin; refine append_mine _ rfl _ _ 44 rfl w.heap.size 46 i0 (.agg #[.int .i64 0, .int .i64 0]) 2 16 Try.underlying44 hi hz0 hz1 hz2 rfl (by decide) _ _ _ rfl (ho.out.alloc _) ⟨wr.heap.size, 0, none⟩ 1 1 [.int .i64 z, .int .i64 z] rfl rfl (by simpa using cells_new wr [_, _] _) (by intro u hu; simp at hu; rcases hu with rfl | rfl <;> rfl) (by unfold maxLen; simp) (by simp) (by simp; omega) ?_; intro v' w5 hown' hgrow hmv)
        have bf := (hb.out.alloc hwr (.cells #[.int .i64 z, .int .i64 z] 46)).grown hgrow (by simp; omega) (fun j hj => (ho.out.lt j hj).1)
        clear hmv
        go_roundw
        case rel => exact ⟨j + 1, by omega, by go_num, by rw [FSQ.out]; exact hown', bf⟩
        case measure => simp [intOf]; omega
      · obtain ⟨m, hm⟩ : ∃ m, m = ys.length := ⟨_, rfl⟩
        obtain rfl : L = m + 1 := by rw [HL.out, hm]; simp
        obtain ⟨g, rfl⟩ : ∃ g, ao = some ⟨g, 0, none⟩ := by
          rcases ho.out.2 with ⟨_, h2⟩ | ⟨g, cap, cur, h1, _⟩
          · omega
          · cases h1
            exact ⟨g, rfl⟩
        have e2 : wr.cell? ⟨g, m * 2 + 1, none⟩ = some (.int .i64 x.f1) := (ho.out.cellAt (m * 2 + 1) (by omega)).trans (by rw [hm]; exact span_last ys x)
        have z1 := ho.out.frozenAt (m * 2 + 1)
        have wp : IntKind.i64.wrap (((m + 1 : Nat) : Int) - 1) = ((m : Nat) : Int) := by rw [IntWalk.i64_in _ (by omega)]; omega
        obtain ⟨y1, y2⟩ := PE x (by simp)
        obtain ⟨y, hy⟩ : ∃ y, y = x.f1 := ⟨_, rfl⟩
        rw [← hy] at e2 y1 y2
        clear PE
        by_cases hxy : y + 1 = z
        · subst hxy
          have PUT := spAdd_put ys x (y + 1) (by omega)
          have ST := ho.out.stored (m * 2 + 1) (.int .i64 (y + 1))
          have FSQ := FSQ.out
          rw [hm, ← PUT, ← FSQ, ← hm] at ST
          have ST := Lib.hid ST
          have GLT : Hid (∀ j, Value.ownBlock (.slice (some ⟨g, 0, none⟩) (m + 1) co) = some j → w.heap.size ≤ j) := fun j hj => (ho.out.lt j hj).1
          have PLN : Hid ((spFold (ps.take (j + 1))).length = m + 1) := by
            show _ = _
            rw [FSQ, spAdd_snoc, if_pos (by omega), hm]
            simp
          clear hm FSQ PUT hy ho
          go_wp2
          go_roundw
          case rel => exact ⟨j + 1, by omega, by go_num, by rw [PLN.out]; exact ST.out.1, hb.out.grown ST.out.2 hwr (fun j hj => GLT.out j hj)⟩
          case measure => simp [intOf]; omega
        · have FSQ := FSQ.out
          rw [spAdd_snoc, if_neg (by omega)] at FSQ
          have FSQ := Lib.hid FSQ
          clear hm hy
          go_wp2_with (at_builtin; refine append_mine _ rfl _ _ 44 rfl w.heap.size 46 i0 (.agg #[.int .i64 0, .int .i64 0]) 2 16 Try.underlying44 hi hz0 hz1 hz2 rfl (by decide) _ _ _ rfl (ho.out.alloc _) ⟨wr.heap.size, 0, none⟩ 1 1 [.int .i64 z, .int .i64 z] rfl rfl (by simpa using cells_new wr [_, _] _) (by intro u hu; simp at hu; rcases hu with rfl | rfl <;> rfl) (by unfold maxLen; omega) (by omega) (by simp; omega) ?_; intro v' w5 hown' hgrow hmv)
          have bf := (hb.out.alloc hwr (.cells #[.int .i64 z, .int .i64 z] 46)).grown hgrow (by simp; omega) (fun j hj => (ho.out.lt j hj).1)
          clear hmv
          go_roundw
          case rel => exact ⟨j + 1, by omega, by go_num, by rw [FSQ.out, List.flatMap_append, List.length_append, ← HL.out]; exact hown', bf⟩
          case measure => simp [intOf]; omega
    · obtain rfl : j = n := by omega
      have hT : ps.take j = ps := List.take_of_length_le (by rw [← HN.out]; exact Nat.le_refl _)
      rw [hT] at ho
      clear hT H3 HN HP
      go_wp2
      go_ret
      exact ⟨_, rfl, ho.out, hb.out⟩
end Go.Proofs.Ytnlhlgefaamdgaa

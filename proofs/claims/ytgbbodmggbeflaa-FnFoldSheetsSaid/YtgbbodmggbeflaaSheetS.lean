/-
  PROVED HERE: sheets: what the reference and the program return. Conditions: each theorem's own.
-/
import Derived.Test.YtgbbodmggbeflaaSheet
import Derived.Test.YtgbbodmggbeflaaIn
import Derived.Test.YtgbbodmggbeflaaMine
set_option linter.unusedVariables false
set_option linter.unusedSimpArgs false
namespace Go.Proofs.Ytgbbodmggbeflaa
open Go.RowKit

theorem info_int : (Try.prog.info? 3).map (fun i => (i.zero, i.size, i.bytes)) = some (some (.int .i64 0), 1, 8) := by kernel_rfl
theorem info_Sheet : (Try.prog.info? 59).map (fun i => (i.zero, i.size, i.bytes)) = some (some (.agg #[.slice none 0 0]), 1, 24) := by kernel_rfl

def shC (many : Int) : Int := if inB many 0 400 = true then (many + 3) / 4 else -1
def zer (many p : Int) : Int := if many < p then 0 else p
def shPg (many : Int) (k : Nat) : List Int := [zer many (4 * shC many - 2 * k), zer many (2 * k + 1), zer many (2 * k + 2), zer many (4 * shC many - 2 * k - 1)]
def shN (many : Int) (n : Nat) : List (List Int) := (List.range n).map (shPg many)
def shs (many : Int) : List (List Int) := shN many (shC many).toNat
theorem shN_len (many : Int) (n : Nat) : (shN many n).length = n := by simp [shN]
theorem shN_succ (many : Int) (n : Nat) : shN many (n + 1) = shN many n ++ [shPg many n] := by simp [shN, List.range_succ]
theorem shC_bd (many : Int) : -1 ≤ shC many ∧ shC many ≤ 100 := by
  unfold shC
  split
  · rename_i h
    have := inB_true h
    omega
  · omega

def pgJ (many a b c d : Int) (j : Nat) : List Value := [.int .i64 (if 0 < j then zer many a else a), .int .i64 (if 1 < j then zer many b else b), .int .i64 (if 2 < j then zer many c else c), .int .i64 (if 3 < j then zer many d else d)]
theorem owns_lit (w : World) (base : Nat) (E : TypeId) (sz n : Nat) (l : List Value) (hb : base ≤ w.heap.size) (hn : n ≤ maxLen) (hl : l.length = n * sz) : (w.alloc (.cells l.toArray E)).ownsRow base E sz (.slice (some ⟨w.heap.size, 0, none⟩) n n) n l :=
  ⟨hl, .inr ⟨w.heap.size, n, l.toArray, rfl, hb, heap_alloc_new w _, Nat.le_refl _, hn, by simpa using hl, by rw [← hl]; simp⟩⟩
theorem pg_step (many a b c d : Int) (j : Nat) (h : j < 4) : ∃ p : Int, (pgJ many a b c d j)[j]? = some (.int .i64 p) ∧ (many < p → (pgJ many a b c d j).set j (.int .i64 0) = pgJ many a b c d (j + 1)) ∧ (¬ many < p → pgJ many a b c d j = pgJ many a b c d (j + 1)) := by
  rcases (by omega : j = 0 ∨ j = 1 ∨ j = 2 ∨ j = 3) with rfl | rfl | rfl | rfl
  · exact ⟨a, by simp [pgJ], fun h => by simp [pgJ, zer, h], fun h => by simp [pgJ, zer, h]⟩
  · exact ⟨b, by simp [pgJ], fun h => by simp [pgJ, zer, h], fun h => by simp [pgJ, zer, h]⟩
  · exact ⟨c, by simp [pgJ], fun h => by simp [pgJ, zer, h], fun h => by simp [pgJ, zer, h]⟩
  · exact ⟨d, by simp [pgJ], fun h => by simp [pgJ, zer, h], fun h => by simp [pgJ, zer, h]⟩
theorem pg_end (many a b c d : Int) : pgJ many a b c d 4 = [zer many a, zer many b, zer many c, zer many d].map (Value.int .i64) := by simp [pgJ]
theorem specCount_any (many : Int) (w : World) : Calls Try.prog 15 #[.int .i64 many] w fun e w' => e = .returned (.int .i64 (shC many)) ∧ w = w' := by
  cases h : inB many 0 400
  · have E : Hid (shC many = -1) := by show _ = _; unfold shC; rw [h]; rfl
    go_enter Try.func15, Try.ntmps15
    go_wp2_with (go_at_call 48; refine (l1In_any _ _ _ _).mono ?_; rintro e w' ⟨rfl, rfl⟩; rw [h])
    go_ret
    exact ⟨by rw [E.out]; rfl, rfl⟩
  · have E : Hid (shC many = (many + 3) / 4) := by show _ = _; unfold shC; rw [h]; rfl
    obtain ⟨h1, h2⟩ := inB_true h
    go_enter Try.func15, Try.ntmps15
    go_wp2_with (go_at_call 48; refine (l1In_any _ _ _ _).mono ?_; rintro e w' ⟨rfl, rfl⟩; rw [h])
    go_ret
    exact ⟨by rw [E.out]; rfl, rfl⟩

/-- It returns sheets of its own. -/
def ShPost (xs : List (List Int)) (w : World) (e : Ending) (w' : World) : Prop := ∃ v, e = .returned v ∧ OwnSheets w' w.heap.size w'.heap.size v xs ∧ Below w.heap.size w w'

set_option maxHeartbeats 8000000 in
theorem specSheets_any (many : Int) (w : World) : Calls Try.prog 36 #[.int .i64 many] w (ShPost (shs many) w) := by
  obtain ⟨c0, c1⟩ := shC_bd many
  have CNT := Lib.hid (fun w => specCount_any many w)
  obtain ⟨i0, hi, hz0, hz1, hz2⟩ := info_parts info_Sheet
  obtain ⟨C, hC⟩ : ∃ C, C = shC many := ⟨_, rfl⟩
  rw [← hC] at c0 c1 CNT
  have HC := Lib.hid hC
  clear hC
  go_enter Try.func36, Try.ntmps36
  go_wp2_with (go_at_call 15; refine (CNT.out _).mono ?_; rintro e w' ⟨rfl, rfl⟩)
  have O0 : Hid (OwnShU (w.alloc (.cells #[] 59)) w.heap.size (w.heap.size + 1) (.slice (some ⟨w.heap.size, 0, none⟩) 0 0) [] []) :=
    ⟨rfl, World.ownsRow_made w #[] 0 (Nat.le_refl _) (Nat.zero_le _) rfl, fun k h => by simp [Value.ownBlock] at h; omega, fun j h => absurd h (Nat.not_lt_zero _), fun i j u u' h => by simp at h⟩
  have O1 : Hid (OwnShU (w.alloc (.cells #[] 59)) w.heap.size (w.alloc (.cells #[] 59)).heap.size (.slice (some ⟨w.heap.size, 0, none⟩) 0 0) (shN many 0) []) := O0.out.wider (by simp)
  have B0 := Lib.hid ((Below.refl w.heap.size w).alloc (Nat.le_refl _) (.cells #[] 59))
  go_loopw [3, 5] (fun v i wr => ∃ (k : Nat) (us : List Value), k ≤ 100 ∧ i = .int .i64 k ∧ Hid (k ≤ C.toNat) ∧ Hid (OwnShU wr w.heap.size wr.heap.size v (shN many k) us) ∧ Hid (Below w.heap.size w wr)) (fun _ i _ => 101 - (intOf i).toNat)
  case atStart => exact ⟨0, [], by omega, rfl, Nat.zero_le _, O1.out, B0.out⟩
  case round =>
    obtain ⟨k, us, hk, rfl, hkC, ho, hb⟩ := hrel
    clear O0 O1 B0
    by_cases hlt : (k : Int) < C
    · go_wp2_with (go_at_call 15; refine (CNT.out _).mono ?_; rintro e w' ⟨rfl, rfl⟩)
      obtain ⟨wo, rfl⟩ : ∃ wo : World, wo = wr := ⟨_, rfl⟩
      obtain ⟨g, hg⟩ : ∃ g, g = wo.heap.size := ⟨_, rfl⟩
      have hws := hb.out.size
      have cE : shPg many k = [zer many (4 * C - 2 * k), zer many (2 * k + 1), zer many (2 * k + 2), zer many (4 * C - 2 * k - 1)] := by unfold shPg; rw [← HC.out]
      have oP : (wo.alloc (.cells #[.int .i64 (4 * C - 2 * k), .int .i64 (2 * k + 1), .int .i64 (2 * k + 2), .int .i64 (4 * C - 2 * k - 1)] 3)).ownsRow w.heap.size 3 1 (.slice (some ⟨g, 0, none⟩) 4 4) 4 (pgJ many (4 * C - 2 * k) (2 * k + 1) (2 * k + 2) (4 * C - 2 * k - 1) 0) := by
        rw [hg]
        exact owns_lit wo w.heap.size 3 1 4 _ hws (by unfold maxLen; omega) rfl
      have oS := ho.out.kept (w' := wo.alloc (.cells #[.int .i64 (4 * C - 2 * k), .int .i64 (2 * k + 1), .int .i64 (2 * k + 2), .int .i64 (4 * C - 2 * k - 1)] 3)) (fun j _ _ h => Below.heap_alloc wo _ j h)
      have bS := hb.out.alloc hws (.cells #[.int .i64 (4 * C - 2 * k), .int .i64 (2 * k + 1), .int .i64 (2 * k + 2), .int .i64 (4 * C - 2 * k - 1)] 3)
      have hgw : Hid (g < (wo.alloc (.cells #[.int .i64 (4 * C - 2 * k), .int .i64 (2 * k + 1), .int .i64 (2 * k + 2), .int .i64 (4 * C - 2 * k - 1)] 3)).heap.size) := by show _ < _; rw [hg]; simp
      have OP := Lib.hid oP
      have OS : Hid (OwnShU (wo.alloc (.cells #[.int .i64 (4 * C - 2 * k), .int .i64 (2 * k + 1), .int .i64 (2 * k + 2), .int .i64 (4 * C - 2 * k - 1)] 3)) w.heap.size g u3 (shN many k) us) := by rw [hg]; exact oS
      have BS := Lib.hid bS
      have CE := Lib.hid cE
      have hgb : w.heap.size ≤ g := by omega
      rw [← hg]
      clear oP oS bS ho hb hg cE hws
      go_loopw [7] (fun ji wi => ∃ j : Nat, j ≤ 4 ∧ ji = .int .i64 j ∧ Hid (wi.ownsRow w.heap.size 3 1 (.slice (some ⟨g, 0, none⟩) 4 4) 4 (pgJ many (4 * C - 2 * k) (2 * k + 1) (2 * k + 2) (4 * C - 2 * k - 1) j)) ∧ Hid (OwnShU wi w.heap.size g u3 (shN many k) us) ∧ Hid (Below w.heap.size w wi) ∧ Hid (g < wi.heap.size)) (fun ji _ => 4 - (intOf ji).toNat)
      case atStart => exact ⟨0, by omega, rfl, OP.out, OS.out, BS.out, hgw.out⟩
      case round =>
        obtain ⟨j, hj, rfl, hp, hs, hbi, hgi⟩ := hrel
        clear OP OS BS hgw
        by_cases hj4 : j < 4
        · obtain ⟨p, p1, p2, p3⟩ := pg_step many (4 * C - 2 * k) (2 * k + 1) (2 * k + 2) (4 * C - 2 * k - 1) j hj4
          have e1 := (hp.out.cellAt j (by omega)).trans p1
          have e2 := hp.out.frozenAt j
          by_cases hmp : many < p
          · have s0 := hp.out.stored j (.int .i64 0)
            rw [p2 hmp] at s0
            have S0 := Lib.hid s0.1
            have S1 : Hid (OwnShU _ w.heap.size g u3 (shN many k) us) := hs.out.kept (fun q _ h1 h2 => s0.2.block q h2 (by simp; omega))
            have S2 := Lib.hid (hbi.out.grown s0.2 hbi.out.size (fun q hq => by cases hq; exact hgb))
            have S3 : Hid (g < _) := Nat.lt_of_lt_of_le hgi.out s0.2.size
            clear s0 p1 p2 p3 hp hs hbi hgi
            go_wp2
            go_roundw
            case rel => exact ⟨j + 1, by omega, by go_num, S0.out, S1.out, S2.out, S3.out⟩
            case measure => simp [intOf]; omega
          · have S0 := hp.out
            rw [p3 hmp] at S0
            have S0' := Lib.hid S0
            clear S0 p1 p2 p3 hp
            go_wp2
            go_roundw
            case rel => exact ⟨j + 1, by omega, by go_num, S0'.out, hs.out, hbi.out, hgi.out⟩
            case measure => simp [intOf]; omega
        · obtain rfl : j = 4 := by omega
          have oV := hs.out.2.1
          rw [shN_len] at oV
          have hp2 := hp.out
          rw [pg_end, ← CE.out] at hp2
          have hwi := hbi.out.size
          have OV := Lib.hid oV
          have HP := Lib.hid hp2
          clear oV hp2 hp
          go_wp2_with (at_builtin; refine append_mine _ rfl _ _ 48 rfl w.heap.size 59 i0 (.agg #[.slice none 0 0]) 1 24 Try.underlying48 hi hz0 hz1 hz2 rfl (by decide) _ _ _ rfl (OV.out.alloc _) ⟨wr.heap.size, 0, none⟩ 1 1 [.slice (some ⟨g, 0, none⟩) 4 4] rfl rfl (by simpa using cells_new wr [_] _) (by intro u hu; simp at hu; subst hu; rfl) (by unfold maxLen; omega) (by omega) (by simp; omega) ?_; intro v' w5 hown' hgrow hmv)
          have q1 := hs.out.kept (w' := wr.alloc (.cells #[.slice (some ⟨g, 0, none⟩) 4 4] 59)) (fun q _ _ h => Below.heap_alloc wr _ q h)
          have q2 := OwnShU.snoc (x := shPg many k) q1 (Nat.le_refl g) (by have := hgi.out; simp; omega) (HP.out.alloc _) hgrow hmv (by rw [shN_len]; exact hown')
          rw [← shN_succ] at q2
          have Q2 : Hid (OwnShU w5 w.heap.size w5.heap.size v' (shN many (k + 1)) (us ++ [.slice (some ⟨g, 0, none⟩) 4 4])) := q2
          have bf := (hbi.out.alloc hwi (.cells #[.slice (some ⟨g, 0, none⟩) 4 4] 59)).grown hgrow (by simp; omega) (fun q hq => (OV.out.lt q hq).1)
          clear q1 q2 hmv hown' hgrow
          go_roundw
          case rel => exact ⟨k + 1, _, by omega, by go_num, by show _ ≤ _; omega, Q2.out, bf⟩
          case measure => simp [intOf]; omega
    · go_wp2_with (go_at_call 15; refine (CNT.out _).mono ?_; rintro e w' ⟨rfl, rfl⟩)
      go_ret
      refine ⟨_, rfl, ⟨us, ?_⟩, hb.out⟩
      have e : shs many = shN many k := by unfold shs; rw [← HC.out, show C.toNat = k by have h : k ≤ C.toNat := hkC.out; omega]
      rw [e]
      exact ho.out
end Go.Proofs.Ytgbbodmggbeflaa

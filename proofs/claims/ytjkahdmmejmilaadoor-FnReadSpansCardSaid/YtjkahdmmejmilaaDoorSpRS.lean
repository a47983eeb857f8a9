/-
  PROVED HERE: what ReadSpans of the reference returns. Conditions: each theorem's own.
-/
import Derived.Test.YtjkahdmmejmilaaDoorSpRd
import Derived.Test.YtjkahdmmejmilaaDoorDigs
import Derived.Test.YtjkahdmmejmilaaDoorSpTxt
import Derived.Test.YtjkahdmmejmilaaDoorSpanC
import Derived.Deep.Onto
set_option linter.unusedVariables false
set_option linter.unusedSimpArgs false
namespace Go.Proofs.YtjkahdmmejmilaaDoor
open Go.RowKit

theorem ne_u8 (c : UInt8) (k : Nat) (hk : k < 256) (h : c.toNat ≠ k) : c ≠ UInt8.ofNat k := by
  intro e
  apply h
  rw [e, UInt8.toNat_ofNat']
  omega
theorem eq_u8 (c : UInt8) (k : Nat) (h : c.toNat = k) : c = UInt8.ofNat k := by
  rw [← h]
  simp
theorem bs_inj {a b : List UInt8} (h : bs a = bs b) : a = b := by
  have := congrArg (fun x => x.data.toList) h
  simpa using this
theorem owns_lit3 (w : World) (base : Nat) (E : TypeId) (sz n : Nat) (l : List Value) (hb : base ≤ w.heap.size) (hn : n ≤ maxLen) (hl : l.length = n * sz) : (w.alloc (.cells l.toArray E)).ownsRow base E sz (.slice (some ⟨w.heap.size, 0, none⟩) n n) n l :=
  ⟨hl, .inr ⟨w.heap.size, n, l.toArray, rfl, hb, heap_alloc_new w _, Nat.le_refl _, hn, by simpa using hl, by rw [← hl]; simp⟩⟩
/-- It returns what is read of the text, in a row of its own. -/
def RetSp (l : List UInt8) (w : World) (e : Ending) (w' : World) : Prop :=
  ∃ (xs : List DSpan) (v : Value) (b : Bool), e = .returned (.tuple #[v, .bool b]) ∧ SpRes l xs b ∧ w'.ownsRow w.heap.size 41 2 v xs.length (xs.flatMap encSpan) ∧ Below w.heap.size w w'

set_option maxRecDepth 100000 in
set_option maxHeartbeats 16000000 in
theorem specReadSp_any (l : List UInt8) (hl : l.length ≤ 1048600) (w : World) : Calls Tryd.prog 17 #[.string (bs l)] w (RetSp l w) := by
  obtain ⟨i0, hi, hz0, hz1, hz2⟩ := info_parts info_Span
  obtain ⟨n, hn⟩ : ∃ n, n = l.length := ⟨_, rfl⟩
  have HN := Lib.hid hn
  have hs : (bs l).size = n := by rw [hn]; simp [ByteArray.size]
  have IX := Lib.hid (fun k (hk : k < n) => idx_byte l k (by rw [← hn]; exact hk))
  rw [← hn] at hl
  clear hn
  go_enter Tryd.func17, Tryd.ntmps17
  go_wp2
  have B0 := Lib.hid ((Below.refl w.heap.size w).alloc (Nat.le_refl _) (.cells #[] 41))
  have O0 : Hid ((w.alloc (.cells #[] 41)).ownsRow w.heap.size 41 2 (.slice (some ⟨w.heap.size, 0, none⟩) 0 0) ([] : List DSpan).length (([] : List DSpan).flatMap encSpan)) := World.ownsRow_made w #[] 0 (Nat.le_refl _) (Nat.zero_le _) rfl
  go_loopw [4, 5] (fun o av wr => ∃ (a : Nat) (ys : List DSpan), a ≤ n + 1 ∧ av = .int .i64 a ∧ ys.length ≤ a ∧ Hid (SpInv l ys a) ∧ Hid (wr.ownsRow w.heap.size 41 2 o ys.length (ys.flatMap encSpan)) ∧ Hid (Below w.heap.size w wr)) (fun _ av _ => n + 1 - (intOf av).toNat)
  case atStart => exact ⟨0, [], by omega, rfl, by simp, SpInv.start l, O0.out, B0.out⟩
  case round =>
    obtain ⟨a, ys, ha, rfl, hya, hinv, ho, hb⟩ := hrel
    clear O0 B0
    by_cases hlt : a < n
    · have hlt' : (a : Int) < (n : Int) := by omega
      have DG : Hid (Calls Tryd.prog 33 #[.string (bs l), .int .i64 (a : Int)] wr (DigPost l a wr)) := digits_any l a (by have := HN.out; omega) (by have := HN.out; omega) wr
      go_wp2_with (go_at_call 33; refine (DG.out).mono ?_)
      rintro e w1 ⟨dk, N, rfl, hdt, hN, hN9, hdd, b1⟩
      have HA : Hid (DigAll l a dk) := ⟨hdt, hdd⟩
      have HNV := Lib.hid hN
      have OX := Lib.hid (owns_lit3 w1 w1.heap.size 41 2 1 [.int .i64 N, .int .i64 N] (Nat.le_refl _) (by unfold maxLen; omega) rfl)
      have B1 := Lib.hid (below_next hb.out b1 (Nat.le_refl _))
      have O1 := Lib.hid (owns_below ho.out b1)
      have hws := B1.out.size
      have hjn : a + dk ≤ n := by have := hdt.2.1; have := HN.out; omega
      clear hdt hdd hN b1 hb ho DG
      have OXA : Hid ((w1.alloc (.cells #[.int .i64 N, .int .i64 N] 41)).ownsRow w1.heap.size 41 2 (.slice (some ⟨w1.heap.size, 0, none⟩) 1 1) 1 [.int .i64 N, .int .i64 N]) := OX.out
      have BA : Hid (Below w.heap.size w (w1.alloc (.cells #[.int .i64 N, .int .i64 N] 41))) := B1.out.alloc hws _
      have OA : Hid ((w1.alloc (.cells #[.int .i64 N, .int .i64 N] 41)).ownsRow w.heap.size 41 2 u4 ys.length (ys.flatMap encSpan)) := O1.out.alloc _
      have LT : Hid (∀ q, u4.ownBlock = some q → q < w1.heap.size) := fun q hq => (O1.out.lt q hq).2
      clear OX B1 O1
      obtain ⟨j, hj⟩ : ∃ j, j = a + dk := ⟨_, rfl⟩
      have HJ := Lib.hid hj
      rw [← hj] at hjn ⊢
      by_cases hdk : dk = 0
      · have NB := Lib.hid (hinv.out.bad0 (by rw [← HN.out]; exact hlt) HA.out hdk)
        have hee : ((j : Int) == (a : Int)) = true := by rw [hj, hdk]; simp
        have hws2 := BA.out.size
        clear HA HNV hinv OXA OA hj
        go_wp2
        go_ret2
        exact ⟨[], _, false, rfl, .inr ⟨rfl, rfl, NB.out⟩, by simpa using World.ownsRow_made (e := 41) (size := 2) (w1.alloc (.cells #[.int .i64 N, .int .i64 N] 41)) #[] 0 hws2 (Nat.zero_le _) rfl, BA.out.alloc hws2 _⟩
      · have hee : ((j : Int) == (a : Int)) = false := by simp; omega
        clear hj
        by_cases hjlt : j < n
        · have hjlt' : (j : Int) < (n : Int) := by omega
          have ix := IX.out j hjlt (j : Int) rfl
          obtain ⟨c0, hc0⟩ : ∃ c0, c0 = l.getD j 0 := ⟨_, rfl⟩
          rw [← hc0] at ix
          obtain ⟨c, hc⟩ : ∃ c, c = c0.toNat := ⟨_, rfl⟩
          rw [← hc] at ix
          have HC := Lib.hid hc
          have HC0 := Lib.hid hc0
          clear hc hc0
          by_cases h45 : c = 45
          · have hcz : (c : Int) = 45 := by omega
            rw [hcz] at ix
            clear hcz
            have G45 : Hid (l.getD (a + dk) 0 = 45) := by show _ = _; rw [← HJ.out, ← HC0.out]; exact eq_u8 c0 45 (by rw [← HC.out]; exact h45)
            have DG : Hid (Calls Tryd.prog 33 #[.string (bs l), .int .i64 ((j : Int) + 1)] (w1.alloc (.cells #[.int .i64 N, .int .i64 N] 41)) (DigPost l (j + 1) (w1.alloc (.cells #[.int .i64 N, .int .i64 N] 41)))) := digits_any l (j + 1) (by have := HN.out; omega) (by have := HN.out; omega) (w1.alloc (.cells #[.int .i64 N, .int .i64 N] 41))
            go_wp2_with (go_at_call 33; refine (DG.out).mono ?_)
            rintro e w2 ⟨d2, M, rfl, hdt, hM, hM9, hdd, b2⟩
            have HA2 : Hid (DigAll l (a + dk + 1) d2) := by rw [← HJ.out]; exact ⟨hdt, hdd⟩
            have HMV := Lib.hid hM
            have hj2n : j + 1 + d2 ≤ n := by have := hdt.2.1; have := HN.out; omega
            have OX2 := Lib.hid (owns_below OXA.out b2)
            have yc0 : w2.cell? ⟨w1.heap.size, 0, none⟩ = some (.int .i64 N) := OX2.out.cellAt 0 (by omega)
            have yc1 : w2.cell? ⟨w1.heap.size, 1, none⟩ = some (.int .i64 N) := OX2.out.cellAt 1 (by omega)
            have yz1 := OX2.out.frozenAt 1
            have st := OX2.out.stored 1 (.int .i64 M)
            have yc2 : (w2.setCell ⟨w1.heap.size, 1, none⟩ (.int .i64 M)).cell? ⟨w1.heap.size, 1, none⟩ = some (.int .i64 M) := st.1.cellAt 1 (by omega)
            have B2 := Lib.hid (below_next BA.out b2 (Nat.le_refl _))
            have BS : Hid (Below w.heap.size w (w2.setCell ⟨w1.heap.size, 1, none⟩ (.int .i64 M))) := B2.out.grown st.2 B2.out.size (fun q hq => by cases hq; exact hws)
            have OS : Hid ((w2.setCell ⟨w1.heap.size, 1, none⟩ (.int .i64 M)).ownsRow w.heap.size 41 2 u4 ys.length (ys.flatMap encSpan)) := (owns_below OA.out b2).kept st.2 (by
              cases e : u4.ownBlock with
              | none => exact .inl rfl
              | some q =>
                right
                have := LT.out q e
                simp [Value.ownBlock]
                omega)
            have INV := Lib.hid (hinv.out.two (by rw [← HN.out]; exact hlt) HA.out G45.out (by rw [← HJ.out, ← HN.out]; exact hjlt) HA2.out)
            rw [← HNV.out] at INV
            rw [show digV ((l.drop (a + dk + 1)).take d2) = M by rw [← HJ.out]; exact HMV.out.symm] at INV
            have hwsS := BS.out.size
            have hgw2 : w.heap.size ≤ w2.heap.size := B2.out.size
            clear b2 hdt hdd hM DG st ix
            obtain ⟨j2, hj2⟩ : ∃ j2, j2 = j + 1 + d2 := ⟨_, rfl⟩
            have INV : Hid (SpInv l (ys ++ [⟨N, M⟩]) (j2 + 1)) := by rw [hj2, HJ.out]; exact INV.out
            have HJ2 := Lib.hid hj2
            rw [← hj2] at hj2n ⊢
            clear hj2
            by_cases hj3 : j2 < n
            · have hj3' : (j2 : Int) < (n : Int) := by omega
              have iy := IX.out j2 hj3 (j2 : Int) rfl
              obtain ⟨e0, he0⟩ : ∃ e0, e0 = l.getD j2 0 := ⟨_, rfl⟩
              rw [← he0] at iy
              obtain ⟨f, hf⟩ : ∃ f, f = e0.toNat := ⟨_, rfl⟩
              rw [← hf] at iy
              by_cases h44 : f = 44
              · have hfz : (f : Int) = 44 := by omega
                rw [hfz] at iy
                clear hfz hf he0
                go_wp2_with (at_builtin; go_loud ( refine wpList_append_own _ rfl _ _ 25 rfl w.heap.size 41 i0 (.agg #[.int .i64 0, .int .i64 0]) 2 16 Tryd.underlying25 hi hz0 hz1 hz2 rfl (by decide) _ _ _ rfl (OS.out.alloc _) ⟨w2.heap.size, 0, none⟩ 1 1 [.int .i64 N, .int .i64 M] rfl rfl (by simpa using cells_new (w2.setCell ⟨w1.heap.size, 1, none⟩ (.int .i64 M)) [_, _] _) (by intro u hu; simp at hu; rcases hu with rfl | rfl <;> rfl) (by unfold maxLen; omega) (by omega) (by simp; omega) ?_; intro v' w9 hown' hgrow _))
                have O9 : Hid (w9.ownsRow w.heap.size 41 2 v' (ys ++ [(⟨N, M⟩ : DSpan)]).length ((ys ++ [(⟨N, M⟩ : DSpan)]).flatMap encSpan)) := by
                  show World.ownsRow _ _ _ _ _ _ _
                  rw [List.length_append, List.length_singleton, List.flatMap_append]
                  exact hown'
                have B9 := Lib.hid ((BS.out.alloc hwsS _).grown hgrow (by simp; omega) (fun q hq => (OS.out.lt q hq).1))
                clear hown' hgrow
                go_roundw
                case rel => exact ⟨j2 + 1, _, by omega, by go_num, by have := HJ.out; have := HJ2.out; simp; omega, INV.out, O9.out, B9.out⟩
                case measure => have := HJ.out; have := HJ2.out; simp [intOf]; omega
              · have hfz : ((f : Int) != 44) = true := by simp; omega
                have NB := Lib.hid (hinv.out.bad2 (by rw [← HN.out]; exact hlt) HA.out (by rw [← HJ.out, ← HN.out]; exact hjlt) G45.out HA2.out (by rw [← HJ.out, ← HJ2.out, ← HN.out]; exact hj3) (by rw [← HJ.out, ← HJ2.out, ← he0]; exact ne_u8 e0 44 (by decide) (by rw [← hf]; exact h44)))
                clear hf he0
                go_wp2_with (at_builtin; go_loud ( refine wpList_append_own _ rfl _ _ 25 rfl w.heap.size 41 i0 (.agg #[.int .i64 0, .int .i64 0]) 2 16 Tryd.underlying25 hi hz0 hz1 hz2 rfl (by decide) _ _ _ rfl (OS.out.alloc _) ⟨w2.heap.size, 0, none⟩ 1 1 [.int .i64 N, .int .i64 M] rfl rfl (by simpa using cells_new (w2.setCell ⟨w1.heap.size, 1, none⟩ (.int .i64 M)) [_, _] _) (by intro u hu; simp at hu; rcases hu with rfl | rfl <;> rfl) (by unfold maxLen; omega) (by omega) (by simp; omega) ?_; intro v' w9 hown' hgrow _))
                have O9 : Hid (w9.ownsRow w.heap.size 41 2 v' (ys ++ [(⟨N, M⟩ : DSpan)]).length ((ys ++ [(⟨N, M⟩ : DSpan)]).flatMap encSpan)) := by
                  show World.ownsRow _ _ _ _ _ _ _
                  rw [List.length_append, List.length_singleton, List.flatMap_append]
                  exact hown'
                have B9 := Lib.hid ((BS.out.alloc hwsS _).grown hgrow (by simp; omega) (fun q hq => (OS.out.lt q hq).1))
                clear hown' hgrow
                have hws9 := B9.out.size
                go_wp2
                go_ret2
                exact ⟨[], _, false, rfl, .inr ⟨rfl, rfl, NB.out⟩, World.ownsRow_made w9 #[] 0 hws9 (Nat.zero_le _) rfl, B9.out.alloc hws9 _⟩
            · have hj3' : ¬ (j2 : Int) < (n : Int) := by omega
              go_wp2_with (at_builtin; go_loud ( refine wpList_append_own _ rfl _ _ 25 rfl w.heap.size 41 i0 (.agg #[.int .i64 0, .int .i64 0]) 2 16 Tryd.underlying25 hi hz0 hz1 hz2 rfl (by decide) _ _ _ rfl (OS.out.alloc _) ⟨w2.heap.size, 0, none⟩ 1 1 [.int .i64 N, .int .i64 M] rfl rfl (by simpa using cells_new (w2.setCell ⟨w1.heap.size, 1, none⟩ (.int .i64 M)) [_, _] _) (by intro u hu; simp at hu; rcases hu with rfl | rfl <;> rfl) (by unfold maxLen; omega) (by omega) (by simp; omega) ?_; intro v' w9 hown' hgrow _))
              have O9 : Hid (w9.ownsRow w.heap.size 41 2 v' (ys ++ [(⟨N, M⟩ : DSpan)]).length ((ys ++ [(⟨N, M⟩ : DSpan)]).flatMap encSpan)) := by
                show World.ownsRow _ _ _ _ _ _ _
                rw [List.length_append, List.length_singleton, List.flatMap_append]
                exact hown'
              have B9 := Lib.hid ((BS.out.alloc hwsS _).grown hgrow (by simp; omega) (fun q hq => (OS.out.lt q hq).1))
              clear hown' hgrow
              go_roundw
              case rel => exact ⟨j2 + 1, _, by omega, by go_num, by have := HJ.out; have := HJ2.out; simp; omega, INV.out, O9.out, B9.out⟩
              case measure => have := HJ.out; have := HJ2.out; simp [intOf]; omega
          · have hcz : ((c : Int) == 45) = false := by simp; omega
            have N45 : Hid (l.getD (a + dk) 0 ≠ 45) := by show _ ≠ _; rw [← HJ.out, ← HC0.out]; exact ne_u8 c0 45 (by decide) (by rw [← HC.out]; exact h45)
            have INV := Lib.hid (hinv.out.one (by rw [← HN.out]; exact hlt) HA.out (fun e => N45.out e.2))
            rw [← HNV.out, ← HJ.out] at INV
            have hwsS := BA.out.size
            by_cases h44 : c = 44
            · have hfz : ((c : Int) != 44) = false := by simp; omega
              go_wp2_with (at_builtin; go_loud ( refine wpList_append_own _ rfl _ _ 25 rfl w.heap.size 41 i0 (.agg #[.int .i64 0, .int .i64 0]) 2 16 Tryd.underlying25 hi hz0 hz1 hz2 rfl (by decide) _ _ _ rfl (OA.out.alloc _) ⟨w1.heap.size + 1, 0, none⟩ 1 1 [.int .i64 N, .int .i64 N] rfl rfl (by simpa using cells_new (w1.alloc (.cells #[.int .i64 N, .int .i64 N] 41)) [_, _] _) (by intro u hu; simp at hu; rcases hu with rfl | rfl <;> rfl) (by unfold maxLen; omega) (by omega) (by simp; omega) ?_; intro v' w9 hown' hgrow _))
              have O9 : Hid (w9.ownsRow w.heap.size 41 2 v' (ys ++ [(⟨N, N⟩ : DSpan)]).length ((ys ++ [(⟨N, N⟩ : DSpan)]).flatMap encSpan)) := by
                show World.ownsRow _ _ _ _ _ _ _
                rw [List.length_append, List.length_singleton, List.flatMap_append]
                exact hown'
              have B9 := Lib.hid ((BA.out.alloc hwsS _).grown hgrow (by simp; omega) (fun q hq => (OA.out.lt q hq).1))
              clear hown' hgrow
              go_roundw
              case rel => exact ⟨j + 1, _, by omega, by go_num, by have := HJ.out; simp; omega, INV.out, O9.out, B9.out⟩
              case measure => have := HJ.out; simp [intOf]; omega
            · have hfz : ((c : Int) != 44) = true := by simp; omega
              have NB := Lib.hid (hinv.out.bad1 (by rw [← HN.out]; exact hlt) HA.out (by rw [← HJ.out, ← HN.out]; exact hjlt) N45.out (by rw [← HJ.out, ← HC0.out]; exact ne_u8 c0 44 (by decide) (by rw [← HC.out]; exact h44)))
              go_wp2_with (at_builtin; go_loud ( refine wpList_append_own _ rfl _ _ 25 rfl w.heap.size 41 i0 (.agg #[.int .i64 0, .int .i64 0]) 2 16 Tryd.underlying25 hi hz0 hz1 hz2 rfl (by decide) _ _ _ rfl (OA.out.alloc _) ⟨w1.heap.size + 1, 0, none⟩ 1 1 [.int .i64 N, .int .i64 N] rfl rfl (by simpa using cells_new (w1.alloc (.cells #[.int .i64 N, .int .i64 N] 41)) [_, _] _) (by intro u hu; simp at hu; rcases hu with rfl | rfl <;> rfl) (by unfold maxLen; omega) (by omega) (by simp; omega) ?_; intro v' w9 hown' hgrow _))
              have O9 : Hid (w9.ownsRow w.heap.size 41 2 v' (ys ++ [(⟨N, N⟩ : DSpan)]).length ((ys ++ [(⟨N, N⟩ : DSpan)]).flatMap encSpan)) := by
                show World.ownsRow _ _ _ _ _ _ _
                rw [List.length_append, List.length_singleton, List.flatMap_append]
                exact hown'
              have B9 := Lib.hid ((BA.out.alloc hwsS _).grown hgrow (by simp; omega) (fun q hq => (OA.out.lt q hq).1))
              clear hown' hgrow
              have hws9 := B9.out.size
              go_wp2
              go_ret2
              exact ⟨[], _, false, rfl, .inr ⟨rfl, rfl, NB.out⟩, World.ownsRow_made w9 #[] 0 hws9 (Nat.zero_le _) rfl, B9.out.alloc hws9 _⟩
        · have hjlt' : ¬ (j : Int) < (n : Int) := by omega
          have INV := Lib.hid (hinv.out.one (by rw [← HN.out]; exact hlt) HA.out (fun e => hjlt (by have := e.1; have := HN.out; have := HJ.out; omega)))
          rw [← HNV.out, ← HJ.out] at INV
          have hwsS := BA.out.size
          go_wp2_with (at_builtin; go_loud ( refine wpList_append_own _ rfl _ _ 25 rfl w.heap.size 41 i0 (.agg #[.int .i64 0, .int .i64 0]) 2 16 Tryd.underlying25 hi hz0 hz1 hz2 rfl (by decide) _ _ _ rfl (OA.out.alloc _) ⟨w1.heap.size + 1, 0, none⟩ 1 1 [.int .i64 N, .int .i64 N] rfl rfl (by simpa using cells_new (w1.alloc (.cells #[.int .i64 N, .int .i64 N] 41)) [_, _] _) (by intro u hu; simp at hu; rcases hu with rfl | rfl <;> rfl) (by unfold maxLen; omega) (by omega) (by simp; omega) ?_; intro v' w9 hown' hgrow _))
          have O9 : Hid (w9.ownsRow w.heap.size 41 2 v' (ys ++ [(⟨N, N⟩ : DSpan)]).length ((ys ++ [(⟨N, N⟩ : DSpan)]).flatMap encSpan)) := by
            show World.ownsRow _ _ _ _ _ _ _
            rw [List.length_append, List.length_singleton, List.flatMap_append]
            exact hown'
          have B9 := Lib.hid ((BA.out.alloc hwsS _).grown hgrow (by simp; omega) (fun q hq => (OA.out.lt q hq).1))
          clear hown' hgrow
          go_roundw
          case rel => exact ⟨j + 1, _, by omega, by go_num, by have := HJ.out; simp; omega, INV.out, O9.out, B9.out⟩
          case measure => have := HJ.out; simp [intOf]; omega
    · have hlt' : ¬ (a : Int) < (n : Int) := by omega
      have SV := Lib.hid (specSpansValid_any u4 ys wr (SRow.of_owns encSpan_len rfl ho.out))
      have FIN := Lib.hid (hinv.out.fin (by rw [← HN.out]; omega))
      clear hinv
      cases hsp : spB ys
      · have NB : Hid (∀ xs, ¬ SpIs xs l) := fun xs h => by
          have e := FIN.out xs h
          rw [e] at h
          have h1 := h.1
          rw [hsp] at h1
          cases h1
        rw [hsp] at SV
        clear hsp FIN
        go_wp2_with (go_at_call 13; refine (SV.out).mono ?_)
        rintro e w1 ⟨rfl, b1⟩
        have B1 := Lib.hid (below_next hb.out b1 (Nat.le_refl _))
        have hws := B1.out.size
        clear b1 SV ho hb
        go_wp2
        go_ret2
        exact ⟨[], _, false, rfl, .inr ⟨rfl, rfl, NB.out⟩, World.ownsRow_made w1 #[] 0 hws (Nat.zero_le _) rfl, B1.out.alloc hws _⟩
      · rw [hsp] at SV
        have HSP := Lib.hid hsp
        clear hsp
        go_wp2_with (go_at_call 13; refine (SV.out).mono ?_)
        rintro e w1 ⟨rfl, b1⟩
        have B1 := Lib.hid (below_next hb.out b1 (Nat.le_refl _))
        have O1 := Lib.hid (owns_below ho.out b1)
        have ST := Lib.hid (specTxt_any u4 ys w1 (SRow.of_owns encSpan_len rfl O1.out))
        obtain ⟨X, hX⟩ : ∃ X, X = spTxt ys := ⟨_, rfl⟩
        rw [← hX] at ST
        have HX := Lib.hid hX
        clear b1 SV ho hb hX
        go_wp2_with (go_at_call 8; refine (ST.out).mono ?_)
        rintro e w2 ⟨rfl, b2⟩
        have B2 := Lib.hid (below_next B1.out b2 (Nat.le_refl _))
        have O2 := Lib.hid (owns_below O1.out b2)
        have hws := B2.out.size
        clear b2 ST B1 O1
        by_cases hXl : X = l
        · have ST := hXl
          have R : Hid (SpRes l ys true) := .inl ⟨rfl, HSP.out, by rw [← HX.out]; exact hXl⟩
          clear ST HX HSP FIN
          subst hXl
          go_wp2
          go_ret2
          exact ⟨ys, _, true, rfl, R.out, O2.out, B2.out⟩
        · have hcmp : (X == l) = false := by simpa using hXl
          have NB : Hid (∀ xs, ¬ SpIs xs l) := fun xs h => by
            have e := FIN.out xs h
            rw [e] at h
            exact hXl (HX.out.trans h.2)
          clear hXl HX HSP FIN
          go_wp2
          go_ret2
          exact ⟨[], _, false, rfl, .inr ⟨rfl, rfl, NB.out⟩, World.ownsRow_made w2 #[] 0 hws (Nat.zero_le _) rfl, B2.out.alloc hws _⟩
end Go.Proofs.YtjkahdmmejmilaaDoor

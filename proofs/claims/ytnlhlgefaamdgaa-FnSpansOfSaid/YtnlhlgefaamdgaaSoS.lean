/-
  PROVED HERE: what SpansOf of the reference returns. Conditions: each theorem's own.
-/
import Derived.Test.YtnlhlgefaamdgaaSoQ
import Derived.Test.YtnlhlgefaamdgaaSpanC
import Derived.Test.YtnlhlgefaamdgaaMine
import Derived.BigQuiet
import Derived.Deep.Cut
import Derived.Deep.Onto
set_option linter.unusedVariables false
set_option linter.unusedSimpArgs false
namespace Go.Proofs.Ytnlhlgefaamdgaa
open Go.RowKit
set_option maxRecDepth 100000

def pgB (zs : List Int) : Bool := zs.all fun z => inB z 1 999
def soB (zs : List Int) : Bool := pgB zs && decide ((spFold (pgs zs)).length ≤ 10)
def soR (zs : List Int) : List DSpan := if soB zs = true then spFold (pgs zs) else []
/-- It returns a row of ranges of its own, and whether there is one. -/
def OwnSpB (xs : List DSpan) (b : Bool) (w : World) (e : Ending) (w' : World) : Prop := ∃ v, e = .returned (.tuple #[v, .bool b]) ∧ w'.ownsRow w.heap.size 40 2 v xs.length (xs.flatMap encSpan) ∧ Below w.heap.size w w'
theorem spAdd_len (xs : List DSpan) (n : Int) : (spAdd xs n).length ≤ xs.length + 1 := by
  rcases snoc_or xs with rfl | ⟨ys, x, rfl⟩
  · simp [spAdd_nil]
  · rw [spAdd_snoc]; split <;> simp
theorem spFoldTo_len (zs : List Int) : ∀ k, (spFold (pgsTo zs k)).length ≤ k
  | 0 => by simp [pgsTo, spFold]
  | k + 1 => by
    have h := spFoldTo_len zs k
    rw [spFoldTo_succ]
    split
    · have := spAdd_len (spFold (pgsTo zs k)) ((k : Int) + 1); omega
    · omega
theorem pgsTo_all (zs : List Int) : pgsTo zs 999 = pgs zs := rfl
theorem take_has (zs : List Int) (n : Int) (j : Nat) (h : j < zs.length) : (zs.take (j + 1)).contains n = ((zs.take j).contains n || decide (zs.getD j 0 = n)) := by
  rw [List.take_succ_eq_append_getElem h]
  have e : zs.getD j 0 = zs[j] := by simp [List.getD, h]
  rw [e, List.contains_append]
  congr 1
  by_cases h1 : zs[j] = n
  · subst h1; simp
  · have h2 : ¬ n = zs[j] := fun e => h1 e.symm
    simp [h1, h2]
/-- Where the last range ends with n - 1 it is lengthened in place. -/
theorem spAdd_put (ys : List DSpan) (x : DSpan) (n : Int) (h : x.f1 = n - 1) : (spAdd (ys ++ [x]) n).flatMap encSpan = ((ys ++ [x]).flatMap encSpan).set (ys.length * 2 + 1) (.int .i64 n) := by
  rw [spAdd_snoc, if_pos h, List.flatMap_append, List.flatMap_append]
  have e : (ys.flatMap encSpan).length = ys.length * 2 := flatMap_len encSpan 2 ys (fun y _ => encSpan_len y)
  rw [List.set_append_right _ _ (by omega), e]
  rw [show ys.length * 2 + 1 - ys.length * 2 = 1 by omega]
  rfl

theorem span_last (ys : List DSpan) (x : DSpan) : ((ys ++ [x]).flatMap encSpan)[ys.length * 2 + 1]? = some (.int .i64 x.f1) := by
  have e : (ys.flatMap encSpan).length = ys.length * 2 := flatMap_len encSpan 2 ys (fun y _ => encSpan_len y)
  rw [List.flatMap_append, List.getElem?_append_right (by omega), e, show ys.length * 2 + 1 - ys.length * 2 = 1 by omega]
  rfl

set_option maxHeartbeats 4000000 in
theorem specSpansOf_any (v : Value) (zs : List Int) (w : World) (h : IRow w v zs) (hl : zs.length ≤ 1048576) : Calls Try.prog 5 #[v] w (OwnSpB (soR zs) (soB zs) w) := by
  obtain ⟨i0, hi, hz0, hz1, hz2⟩ := info_parts info_Span
  obtain ⟨a, ca, rfl, _, h3⟩ := h
  obtain ⟨n, hn⟩ : ∃ n, n = zs.length := ⟨_, rfl⟩
  have H3 := Lib.hid h3
  rw [← hn] at hl ⊢
  have HN := Lib.hid hn
  clear h3 hn
  have O0 : Hid ((w.alloc (.cells #[] 40)).ownsRow w.heap.size 40 2 (.slice (some ⟨w.heap.size, 0, none⟩) 0 0) 0 []) := World.ownsRow_made w #[] 0 (Nat.le_refl _) (Nat.zero_le _) rfl
  have B0 := Lib.hid ((Below.refl w.heap.size w).alloc (Nat.le_refl _) (.cells #[] 40))
  go_enter Try.func5, Try.ntmps5
  go_wp2
  go_loopw [4, 5] (fun o i wr => ∃ k : Nat, k ≤ 999 ∧ i = .int .i64 ((k : Int) + 1) ∧ Hid (0 < k → pgB zs = true) ∧ Hid (wr.ownsRow w.heap.size 40 2 o (spFold (pgsTo zs k)).length ((spFold (pgsTo zs k)).flatMap encSpan)) ∧ Hid (Below w.heap.size w wr)) (fun _ i _ => 1000 - (intOf i).toNat)
  case atStart => exact ⟨0, by omega, rfl, fun h => absurd h (Nat.lt_irrefl _), O0.out, B0.out⟩
  case round =>
    obtain ⟨k, hk, rfl, hall, ho, hb⟩ := hrel
    clear O0 B0
    by_cases hlt : k < 999
    · have hwr : w.heap.size ≤ wr.heap.size := hb.out.size
      go_wp2
      rw [show decide ((k : Int) + 1 ≤ 999) = true from decide_eq_true (by omega)]
      go_loopw [6, 7] (fun f i wx => ∃ j : Nat, j ≤ n ∧ i = .int .i64 j ∧ f = .bool ((zs.take j).contains ((k : Int) + 1)) ∧ Hid (∀ z ∈ zs.take j, inB z 1 999 = true) ∧ wx = wr) (fun _ i _ => n - (intOf i).toNat)
      case atStart => exact ⟨0, Nat.zero_le _, rfl, by simp, (fun z hz => by simp at hz), rfl⟩
      case round =>
        obtain ⟨j, hj, rfl, rfl, hin, rfl⟩ := hrel
        by_cases hjn : j < n
        · have hj' : j < zs.length := by rw [← HN.out]; exact hjn
          obtain ⟨b, off, rfl, hc⟩ := H3.out j hj'
          have hbl : b < w.heap.size := World.block_lt_of_cell? w _ hc
          have TH := Lib.hid (take_has zs ((k : Int) + 1) j hj')
          have e1 : wr.cell? ⟨b, off + j, none⟩ = some (.int .i64 (zs.getD j 0)) := (hb.out.cell (p := ⟨b, off + j, none⟩) hbl).trans hc
          have IN : Hid (∀ z ∈ zs.take (j + 1), z = zs.getD j 0 ∨ z ∈ zs.take j) := fun z hz => by
            rw [List.take_succ_eq_append_getElem hj', List.mem_append, List.mem_singleton] at hz
            rcases hz with hz | hz
            · exact .inr hz
            · exact .inl (by rw [hz]; simp [List.getD, hj'])
          have MZ : Hid (zs.getD j 0 ∈ zs) := by
            show _ ∈ _
            rw [show zs.getD j 0 = zs[j] by simp [List.getD, hj']]
            exact List.getElem_mem hj'
          obtain ⟨z, hz⟩ : ∃ z, z = zs.getD j 0 := ⟨_, rfl⟩
          obtain ⟨F, hF⟩ : ∃ F, F = (zs.take j).contains ((k : Int) + 1) := ⟨_, rfl⟩
          rw [← hz] at e1 TH IN MZ
          rw [← hF] at TH ⊢
          clear hc hz hF
          have BAD : Hid (inB z 1 999 = false → soB zs = false ∧ soR zs = []) := fun e => by
            have h1 : pgB zs = false := by
              unfold pgB
              rw [List.all_eq_false]
              exact ⟨z, MZ.out, by rw [e]; decide⟩
            have h2 : soB zs = false := by unfold soB; rw [h1]; rfl
            exact ⟨h2, by unfold soR; rw [h2]; rfl⟩
          clear MZ H3 HN
          cases F
          · have LI := Lib.hid (fun w => l1In_q z 1 999 w)
            cases hv : inB z 1 999
            · obtain ⟨f1, f2⟩ := BAD.out hv
              rw [hv] at LI
              clear BAD TH IN hv
              go_wp2_with (go_at_call 18; refine (LI.out _).mono ?_; rintro e w' ⟨rfl, rfl⟩)
              go_ret2
              exact ⟨_, by rw [f1]; rfl, by rw [f2]; exact World.ownsRow_made _ #[] 0 hwr (Nat.zero_le _) rfl, hb.out.alloc hwr _⟩
            · have TH' := TH.out
              have HV := Lib.hid hv
              rw [hv] at LI
              clear BAD TH hv
              go_wp2_with (go_at_call 18; refine (LI.out _).mono ?_; rintro e w' ⟨rfl, rfl⟩)
              have IN' : Hid (∀ y ∈ zs.take (j + 1), inB y 1 999 = true) := fun y hy => by
                rcases IN.out y hy with h | h
                · rw [h]; exact HV.out
                · exact hin.out y h
              exact ⟨⟨j + 1, by omega, by go_num, by rw [TH']; first | rfl | simp [Bool.beq_eq_decide_eq], IN', trivial⟩, by simp [intOf]; omega⟩
          · have LI := Lib.hid (fun w => l1In_q z 1 999 w)
            cases hv : inB z 1 999
            · obtain ⟨f1, f2⟩ := BAD.out hv
              rw [hv] at LI
              clear BAD TH IN hv
              go_wp2_with (go_at_call 18; refine (LI.out _).mono ?_; rintro e w' ⟨rfl, rfl⟩)
              go_ret2
              exact ⟨_, by rw [f1]; rfl, by rw [f2]; exact World.ownsRow_made _ #[] 0 hwr (Nat.zero_le _) rfl, hb.out.alloc hwr _⟩
            · have TH' := TH.out
              have HV := Lib.hid hv
              rw [hv] at LI
              clear BAD TH hv
              go_wp2_with (go_at_call 18; refine (LI.out _).mono ?_; rintro e w' ⟨rfl, rfl⟩)
              have IN' : Hid (∀ y ∈ zs.take (j + 1), inB y 1 999 = true) := fun y hy => by
                rcases IN.out y hy with h | h
                · rw [h]; exact HV.out
                · exact hin.out y h
              exact ⟨⟨j + 1, by omega, by go_num, by rw [TH']; first | rfl | simp [Bool.beq_eq_decide_eq], IN', trivial⟩, by simp [intOf]; omega⟩
        · obtain rfl : j = n := by omega
          have hT : zs.take j = zs := List.take_of_length_le (by rw [← HN.out]; exact Nat.le_refl _)
          have PG : Hid (pgB zs = true) := by
            show _ = _
            unfold pgB
            rw [List.all_eq_true]
            have := hin.out
            rwa [hT] at this
          rw [hT]
          have FSQ := Lib.hid (spFoldTo_succ zs k)
          have PL := spFoldTo_len zs k
          obtain ⟨F, hF⟩ : ∃ F, F = zs.contains ((k : Int) + 1) := ⟨_, rfl⟩
          obtain ⟨P, hP⟩ : ∃ P, P = spFold (pgsTo zs k) := ⟨_, rfl⟩
          rw [← hF, ← hP] at FSQ
          rw [← hP] at ho PL
          obtain ⟨ao, co, rfl⟩ : ∃ a c, u4 = .slice a P.length c := by
            rcases ho.out.2 with ⟨h1, h2⟩ | ⟨g, cap, cur, h1, _⟩
            · exact ⟨none, 0, by rw [h1, h2]⟩
            · exact ⟨_, _, h1⟩
          obtain ⟨L, hL⟩ : ∃ L, L = P.length := ⟨_, rfl⟩
          rw [← hL] at ho PL ⊢
          have HL := Lib.hid hL
          rw [← hF]
          clear hT hin hF hP hL H3 HN
          cases F
          · have FSQ := FSQ.out
            rw [if_neg (by decide)] at FSQ
            go_wp2
            exact ⟨⟨k + 1, by omega, by go_num, (fun _ => PG.out), by rw [FSQ, ← HL.out]; exact ho, hb⟩, by simp [intOf]; omega⟩
          · have FSQ := FSQ.out
            rw [if_pos rfl] at FSQ
            rcases snoc_or P with rfl | ⟨ys, x, rfl⟩
            · obtain rfl : L = 0 := HL.out
              rw [spAdd_nil] at FSQ
              have FSQ := Lib.hid FSQ
              clear PL
              go_wp2_with (at_builtin; refine append_mine _ rfl _ _ 23 rfl w.heap.size 40 i0 (.agg #[.int .i64 0, .int .i64 0]) 2 16 Try.underlying23 hi hz0 hz1 hz2 rfl (by decide) _ _ _ rfl (ho.out.alloc _) ⟨wr.heap.size, 0, none⟩ 1 1 [.int .i64 ((k : Int) + 1), .int .i64 ((k : Int) + 1)] rfl rfl (by simpa using cells_new wr [_, _] _) (by intro u hu; simp at hu; rcases hu with rfl | rfl <;> rfl) (by unfold maxLen; simp) (by simp) (by simp; omega) ?_; intro v' w5 hown' hgrow hmv)
              have bf := (hb.out.alloc hwr (.cells #[.int .i64 ((k : Int) + 1), .int .i64 ((k : Int) + 1)] 40)).grown hgrow (by simp; omega) (fun j hj => (ho.out.lt j hj).1)
              clear hmv
              exact ⟨⟨k + 1, by omega, by go_num, (fun _ => PG.out), by rw [FSQ.out]; exact hown', bf⟩, by simp [intOf]; omega⟩
            · obtain ⟨m, hm⟩ : ∃ m, m = ys.length := ⟨_, rfl⟩
              obtain rfl : L = m + 1 := by rw [HL.out, hm]; simp
              obtain ⟨g, rfl⟩ : ∃ g, ao = some ⟨g, 0, none⟩ := by
                rcases ho.out.2 with ⟨_, h2⟩ | ⟨g, cap, cur, h1, _⟩
                · omega
                · cases h1
                  exact ⟨g, rfl⟩
              have e1 : wr.cell? ⟨g, m * 2 + 1, none⟩ = some (.int .i64 x.f1) := (ho.out.cellAt (m * 2 + 1) (by omega)).trans (by rw [hm]; exact span_last ys x)
              have z1 := ho.out.frozenAt (m * 2 + 1)
              have wp : IntKind.i64.wrap (((m + 1 : Nat) : Int) - 1) = ((m : Nat) : Int) := by rw [IntWalk.i64_in _ (by omega)]; omega
              obtain ⟨y, hy⟩ : ∃ y, y = x.f1 := ⟨_, rfl⟩
              rw [← hy] at e1
              by_cases hxy : y = (k : Int)
              · subst hxy
                have PUT := spAdd_put ys x ((k : Int) + 1) (by omega)
                have ST := ho.out.stored (m * 2 + 1) (.int .i64 ((k : Int) + 1))
                rw [hm, ← PUT, ← FSQ, ← hm] at ST
                have ST := Lib.hid ST
                have GLT : Hid (∀ j, Value.ownBlock (.slice (some ⟨g, 0, none⟩) (m + 1) co) = some j → w.heap.size ≤ j) := fun j hj => (ho.out.lt j hj).1
                have PLN : Hid ((spFold (pgsTo zs (k + 1))).length = m + 1) := by
                  show _ = _
                  rw [FSQ, spAdd_snoc, if_pos (by omega), hm]
                  simp
                clear hm FSQ PUT hy ho
                go_wp2
                go_roundw
                case rel => exact ⟨k + 1, by omega, by go_num, (fun _ => PG.out), by rw [PLN.out]; exact ST.out.1, hb.out.grown ST.out.2 hwr (fun j hj => GLT.out j hj)⟩
                case measure => simp [intOf]; omega
              · have FSQ := FSQ
                rw [spAdd_snoc, if_neg (by omega)] at FSQ
                have FSQ := Lib.hid FSQ
                clear hm hy
                go_wp2_with (at_builtin; refine append_mine _ rfl _ _ 23 rfl w.heap.size 40 i0 (.agg #[.int .i64 0, .int .i64 0]) 2 16 Try.underlying23 hi hz0 hz1 hz2 rfl (by decide) _ _ _ rfl (ho.out.alloc _) ⟨wr.heap.size, 0, none⟩ 1 1 [.int .i64 ((k : Int) + 1), .int .i64 ((k : Int) + 1)] rfl rfl (by simpa using cells_new wr [_, _] _) (by intro u hu; simp at hu; rcases hu with rfl | rfl <;> rfl) (by unfold maxLen; omega) (by omega) (by simp; omega) ?_; intro v' w5 hown' hgrow hmv)
                have bf := (hb.out.alloc hwr (.cells #[.int .i64 ((k : Int) + 1), .int .i64 ((k : Int) + 1)] 40)).grown hgrow (by simp; omega) (fun j hj => (ho.out.lt j hj).1)
                clear hmv
                go_roundw
                case rel => exact ⟨k + 1, by omega, by go_num, (fun _ => PG.out), by rw [FSQ.out, List.flatMap_append, List.length_append, ← HL.out]; exact hown', bf⟩
                case measure => simp [intOf]; omega
    · obtain rfl : k = 999 := by omega
      have hwr : w.heap.size ≤ wr.heap.size := hb.out.size
      have hp : pgB zs = true := hall.out (by omega)
      rw [pgsTo_all] at ho
      have HS : Hid (soB zs = decide ((spFold (pgs zs)).length ≤ 10)) := by show _ = _; unfold soB; rw [hp]; rfl
      have HR : Hid (soR zs = if decide ((spFold (pgs zs)).length ≤ 10) = true then spFold (pgs zs) else []) := by show _ = _; unfold soR; rw [HS.out]
      have PL : (spFold (pgs zs)).length ≤ 999 := by have := spFoldTo_len zs 999; rwa [pgsTo_all] at this
      obtain ⟨P, hP⟩ : ∃ P, P = spFold (pgs zs) := ⟨_, rfl⟩
      rw [← hP] at ho HS HR PL
      obtain ⟨ao, co, rfl⟩ : ∃ a c, u4 = .slice a P.length c := by
        rcases ho.out.2 with ⟨h1, h2⟩ | ⟨g, cap, cur, h1, _⟩
        · exact ⟨none, 0, by rw [h1, h2]⟩
        · exact ⟨_, _, h1⟩
      obtain ⟨L, hL⟩ : ∃ L, L = P.length := ⟨_, rfl⟩
      rw [← hL] at ho HS HR PL ⊢
      have HL := Lib.hid hL
      clear hL hP hp hall H3 HN
      by_cases h10 : L ≤ 10
      · have HS := HS.out
        have HR := HR.out
        rw [decide_eq_true h10] at HS HR
        rw [if_pos rfl] at HR
        have HS := Lib.hid HS
        have HR := Lib.hid HR
        go_wp2
        go_ret2
        exact ⟨_, by rw [HS.out]; rfl, by rw [HR.out, ← HL.out]; exact ho.out, hb.out⟩
      · have HS := HS.out
        have HR := HR.out
        rw [decide_eq_false h10] at HS HR
        rw [if_neg (by decide)] at HR
        have HS := Lib.hid HS
        have HR := Lib.hid HR
        go_wp2
        go_ret2
        exact ⟨_, by rw [HS.out]; rfl, by rw [HR.out]; exact World.ownsRow_made _ #[] 0 hwr (Nat.zero_le _) rfl, hb.out.alloc hwr _⟩
end Go.Proofs.Ytnlhlgefaamdgaa

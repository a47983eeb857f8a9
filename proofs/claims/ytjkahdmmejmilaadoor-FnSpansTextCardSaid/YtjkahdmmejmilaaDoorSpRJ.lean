/-
  PROVED HERE: what ReadSpans of the program returns. Conditions: each theorem's own.
-/
import Derived.Test.YtjkahdmmejmilaaDoorSpRI
set_option linter.unusedVariables false
set_option linter.unusedSimpArgs false
namespace Go.Proofs.YtjkahdmmejmilaaDoor
open Go.RowKit

/-- The ranges that have been read so far: their texts are the words. -/
def SpSo (l : List UInt8) (ys : List DSpan) : Prop := ys.map runT = (spl l).take ys.length ∧ ∀ x ∈ ys, (1 ≤ x.f0 ∧ x.f0 ≤ 999) ∧ 1 ≤ x.f1 ∧ x.f1 ≤ 999
theorem SpSo.nil (l : List UInt8) : SpSo l [] := ⟨rfl, fun x hx => by cases hx⟩
theorem SpSo.snoc {l : List UInt8} {ys : List DSpan} {f t : Int} (h : SpSo l ys) (hk : ys.length < (spl l).length) (hr : RunRes ((spl l)[ys.length]) f t true) : SpSo l (ys ++ [⟨f, t⟩]) := by
  obtain ⟨h1, h2⟩ := h
  obtain ⟨a, b, c, d, e⟩ := hr.1 rfl
  refine ⟨?_, fun x hx => ?_⟩
  · rw [List.map_append, h1, List.length_append, List.length_singleton, List.take_succ_eq_append_getElem hk, List.map_singleton, e]
  · rw [List.mem_append] at hx
    rcases hx with hx | hx
    · exact h2 x hx
    · rw [List.mem_singleton.1 hx]
      exact ⟨⟨a, b⟩, c, d⟩
theorem sp_bad {l : List UInt8} {k : Nat} {f t : Int} (hl : l ≠ []) (hk : k < (spl l).length) (hr : RunRes ((spl l)[k]) f t false) (xs : List DSpan) : ¬ SpIs xs l := by
  intro h
  have hw := spl_words h hl
  have hkx : k < xs.length := by rw [hw, List.length_map] at hk; exact hk
  have e : (spl l)[k] = runT xs[k] := by simp only [hw, List.getElem_map]
  have hx := (spB_all h.1).2 _ (List.getElem_mem hkx)
  have := (hr.2 xs[k] (by omega) (by omega) e.symm).1
  cases this
theorem sp_end {l : List UInt8} {ys : List DSpan} (hl : l ≠ []) (h : SpSo l ys) (hn : ys.length = (spl l).length) (hb : spB ys = false) (xs : List DSpan) : ¬ SpIs xs l := by
  intro hx
  have hw := spl_words hx hl
  have e : ys.map runT = xs.map runT := by rw [h.1, hn, List.take_length, hw]
  have he := runT_inj ys xs h.2 (fun x hm => by have := (spB_all hx.1).2 x hm; omega) e
  rw [he] at hb
  have := hx.1
  rw [hb] at this
  cases this
theorem sp_good {l : List UInt8} {ys : List DSpan} (h : SpSo l ys) (hn : ys.length = (spl l).length) (hb : spB ys = true) : SpIs ys l := spl_sound (by rw [h.1, hn, List.take_length]) hb

set_option maxRecDepth 100000 in
set_option maxHeartbeats 8000000 in
theorem implReadSp_any (l : List UInt8) (hl : l.length ≤ 1048600) (w : World) (hm : RdTab w) : Calls Tryd.prog 15 #[.string (bs l)] w (RetSp l w) := by
  obtain ⟨i0, hi, hz0, hz1, hz2⟩ := info_parts info_Span
  by_cases hl0 : l = []
  · subst hl0
    clear hm
    have R : Hid (SpRes [] [] true) := .inl ⟨rfl, rfl, rfl⟩
    go_enter Tryd.func15, Tryd.ntmps15
    go_wp2
    go_ret2
    exact ⟨[], _, true, rfl, R.out, World.ownsRow_nil _ _ _ _, Below.refl _ _⟩
  · have hle : (l == []) = false := by simpa using hl0
    have hie : l.isEmpty = false := by cases l with
      | nil => exact absurd rfl hl0
      | cons x t => rfl
    have SP := Lib.hid (split_any l hl w hm.1)
    have TAB := Lib.hid hm
    have BAD := Lib.hid (fun (k : Nat) (f t : Int) (hk : k < (spl l).length) hr xs => sp_bad (f := f) (t := t) hl0 hk hr xs)
    have END := Lib.hid (fun (ys : List DSpan) h hn hb xs => sp_end (ys := ys) hl0 h hn hb xs)
    have hnw := spl_len l
    have hcl := Lib.count_le l [44]
    have MEM := Lib.hid (spl_mem l.length l (Nat.le_refl _))
    have GOOD := Lib.hid (fun (ys : List DSpan) h hn hb => sp_good (l := l) (ys := ys) h hn hb)
    have SNOC := Lib.hid (fun (ys : List DSpan) (f t : Int) h hk hr => SpSo.snoc (l := l) (ys := ys) (f := f) (t := t) h hk hr)
    have S0 := Lib.hid (SpSo.nil l)
    obtain ⟨W, hW⟩ : ∃ W, W = spl l := ⟨_, rfl⟩
    have HW := Lib.hid hW
    rw [← hW] at SP hnw BAD
    obtain ⟨n, hn⟩ : ∃ n, n = W.length := ⟨_, rfl⟩
    rw [← hn] at SP hnw
    have hn9 : n ≤ 1048700 := by omega
    have HN := Lib.hid hn
    clear hm hW hn hnw hcl
    go_enter Tryd.func15, Tryd.ntmps15
    go_wp2_with (go_at_call 31; refine (SP.out).mono ?_)
    rintro e w1 ⟨rfl, hw1⟩
    obtain ⟨g, hg⟩ : ∃ g, g = w.heap.size := ⟨_, rfl⟩
    have B1 : Hid (Below w.heap.size w w1) := by rw [hw1]; exact (Below.refl _ _).alloc (Nat.le_refl _) _
    have hg1 : g < w1.heap.size := by rw [hw1, hg]; simp
    have CE : Hid (∀ k (hk : k < W.length), w1.cell? ⟨g, k, none⟩ = some (.string (bs W[k]))) := fun k hk => by
      rw [hw1, hg, World.cell?_alloc_at _ _ _ _ rfl]
      simp [hk]
    have hs1 : w.heap.size ≤ w1.heap.size := B1.out.size
    rw [← hg]
    clear hw1 hg SP
    go_wp2
    go_loopw [4, 15] (fun o av wr => ∃ ys : List DSpan, ys.length ≤ n ∧ av = .int .i64 ys.length ∧ Hid (SpSo l ys) ∧ Hid (wr.ownsRow w1.heap.size 41 2 o ys.length (ys.flatMap encSpan)) ∧ Hid (Below w1.heap.size w1 wr)) (fun _ av _ => n - (intOf av).toNat)
    case atStart => exact ⟨[], Nat.zero_le _, rfl, S0.out, World.ownsRow_nil _ _ _ _, Below.refl _ _⟩
    case round =>
      obtain ⟨ys, hy, rfl, hso, ho, hb⟩ := hrel
      clear S0
      by_cases hlt : ys.length < n
      · have hk : ys.length < W.length := by rw [← HN.out]; exact hlt
        have ce := CE.out ys.length hk
        have hwl : W[ys.length].length ≤ l.length := MEM.out _ (by rw [← HW.out]; exact List.getElem_mem hk)
        have RU := Lib.hid (implRun_any W[ys.length] (by omega) wr (TAB.out.below (B1.out.trans (hb.out.mono hs1)) (Nat.le_refl _)))
        have RES : Hid (∀ f t, RunRes W[ys.length] f t true → SpSo l (ys ++ [⟨f, t⟩])) := fun f t hr => SNOC.out ys f t hso.out (by rw [← HW.out]; exact hk) (by simpa only [← HW.out] using hr)
        have RBD : Hid (∀ f t, RunRes W[ys.length] f t false → ∀ xs, ¬ SpIs xs l) := fun f t hr => BAD.out ys.length f t hk hr
        obtain ⟨wd, hwd⟩ : ∃ wd, wd = W[ys.length] := ⟨_, rfl⟩
        rw [← hwd] at ce RU RES RBD
        have d0 : wr.cell? ⟨g, ys.length, none⟩ = some (.string (bs wd)) := (hb.out.cell (p := ⟨g, ys.length, none⟩) hg1).trans ce
        obtain ⟨k, hkk⟩ : ∃ k, k = ys.length := ⟨_, rfl⟩
        have HK := Lib.hid hkk
        rw [← hkk] at d0 hlt hy ⊢
        clear ce hwd hk hwl hkk
        go_wp2_with (go_at_call 32; refine (RU.out).mono ?_)
        rintro e w2 ⟨f, t, b, rfl, hr, b2⟩
        have HR := Lib.hid hr
        have B2 := Lib.hid (below_next hb.out b2 (Nat.le_refl _))
        have O2 : Hid (w2.ownsRow w1.heap.size 41 2 u4 k (ys.flatMap encSpan)) := by rw [HK.out]; exact owns_below ho.out b2
        have hws := B2.out.size
        clear hr b2 ho hb RU d0
        cases b
        · have NB := Lib.hid (RBD.out f t HR.out)
          clear RES RBD HR
          go_wp2
          go_ret2
          exact ⟨[], _, false, rfl, .inr ⟨rfl, rfl, NB.out⟩, World.ownsRow_nil _ _ _ _, B1.out.trans (B2.out.mono hs1)⟩
        · have SO := Lib.hid (RES.out f t HR.out)
          clear RES RBD HR
          go_wp2_with (at_builtin; refine wpList_append_own _ rfl _ _ 25 rfl w1.heap.size 41 i0 (.agg #[.int .i64 0, .int .i64 0]) 2 16 Tryd.underlying25 hi hz0 hz1 hz2 rfl (by decide) _ _ _ rfl (O2.out.alloc _) ⟨w2.heap.size, 0, none⟩ 1 1 [.int .i64 f, .int .i64 t] rfl rfl (cells_new _ [_, _] _) (by intro u hu; simp at hu; rcases hu with rfl | rfl <;> rfl) (by unfold maxLen; omega) (by omega) (by simp; omega) ?_; intro v' w9 hown' hgrow _)
          have O9 : Hid (w9.ownsRow w1.heap.size 41 2 v' (ys ++ [(⟨f, t⟩ : DSpan)]).length ((ys ++ [(⟨f, t⟩ : DSpan)]).flatMap encSpan)) := by
            show World.ownsRow _ _ _ _ _ _ _
            rw [List.length_append, List.length_singleton, List.flatMap_append, ← HK.out]
            exact hown'
          have B9 := Lib.hid ((B2.out.alloc hws _).grown hgrow (by simp; omega) (fun q hq => (O2.out.lt q hq).1))
          have LE : Hid ((ys ++ [(⟨f, t⟩ : DSpan)]).length = k + 1) := by show _ = _; rw [List.length_append, List.length_singleton, ← HK.out]
          clear hown' hgrow O2 B2
          go_roundw
          case rel => exact ⟨_, by rw [LE.out]; omega, by rw [LE.out]; go_num, SO.out, O9.out, B9.out⟩
          case measure => simp [intOf]; omega
      · have hyn : ys.length = n := by omega
        have SV := Lib.hid (implSpansValid_any u4 ys wr (SRow.of_owns encSpan_len rfl ho.out))
        have hend : ys.length = (spl l).length := by rw [hyn, HN.out, HW.out]
        have FB := Lib.hid (fun hb => END.out ys hso.out hend hb)
        have FG := Lib.hid (fun hb => GOOD.out ys hso.out hend hb)
        have O := Lib.hid (World.ownsRow.mono ho.out hs1)
        obtain ⟨k, hkk⟩ : ∃ k, k = ys.length := ⟨_, rfl⟩
        have HK := Lib.hid hkk
        rw [← hkk] at hlt hy ⊢
        clear hend hyn hso ho hkk
        cases hsp : spB ys
        · have NB := Lib.hid (FB.out hsp)
          rw [hsp] at SV
          clear hsp FB FG
          go_wp2_with (go_at_call 23; refine (SV.out).mono ?_)
          rintro e w2 ⟨rfl, b2⟩
          have B2 := Lib.hid (B1.out.trans ((below_next hb.out b2 (Nat.le_refl _)).mono hs1))
          clear b2
          go_wp2
          go_ret2
          exact ⟨[], _, false, rfl, .inr ⟨rfl, rfl, NB.out⟩, World.ownsRow_nil _ _ _ _, B2.out⟩
        · have YB := Lib.hid (FG.out hsp)
          rw [hsp] at SV
          clear hsp FB FG
          go_wp2_with (go_at_call 23; refine (SV.out).mono ?_)
          rintro e w2 ⟨rfl, b2⟩
          have B2 := Lib.hid (B1.out.trans ((below_next hb.out b2 (Nat.le_refl _)).mono hs1))
          have O2 := Lib.hid (owns_below O.out b2)
          clear b2
          go_wp2
          go_ret2
          exact ⟨ys, _, true, rfl, .inl ⟨rfl, YB.out⟩, O2.out, B2.out⟩
end Go.Proofs.YtjkahdmmejmilaaDoor

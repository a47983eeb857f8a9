/-
  PROVED HERE: lines of contents in plain Lean: what is read back is the title, and no other has the line. Conditions: each theorem's own.
-/
import Derived.Test.YtfallcoehmmbeaaGreatDoorLineS
import Derived.Test.YtfallcoehmmbeaaGreatDoorDigP
import Derived.Lib.LastIndexByte
import Derived.Lib.TrimByte
set_option linter.unusedVariables false
set_option linter.unusedSimpArgs false
namespace Go.Proofs.YtfallcoehmmbeaaGreatDoor
open Go.RowKit

/-- The title has this line. -/
def CtIs (l : List UInt8) (lev pg : Int) (line : List UInt8) : Prop := lnOk l lev pg line.length = true ∧ lnTxt l lev pg line.length = line
/-- How a line of contents lies. -/
structure CtLn (l : List UInt8) (lev pg : Int) (a P : Nat) (D line : List UInt8) : Prop where
  ok : titOk l lev pg = true
  lv : 2 * lev = a
  p3 : 3 ≤ P
  dg : D = Lib.decDigits pg.toNat
  eq : line = List.replicate a 32 ++ (l ++ (32 :: (List.replicate P 46 ++ 32 :: D)))
theorem CtIs.ln {l line : List UInt8} {lev pg : Int} (h : CtIs l lev pg line) : ∃ a P D, CtLn l lev pg a P D line := by
  obtain ⟨h1, h2⟩ := h
  have hok : titOk l lev pg = true := by
    unfold lnOk at h1
    simp only [Bool.and_eq_true] at h1
    exact h1.1
  have hp : 3 ≤ lnPts l lev pg line.length := by
    unfold lnOk at h1
    simp only [Bool.and_eq_true, decide_eq_true_eq] at h1
    exact h1.2.2
  have hb := titOk_in hok
  refine ⟨(2 * lev).toNat, (lnPts l lev pg line.length).toNat, Lib.decDigits pg.toNat, hok, by omega, by omega, rfl, ?_⟩
  unfold lnTxt at h2
  rw [if_pos h1] at h2
  refine h2.symm.trans ?_
  unfold lnHead lnTail
  simp only [List.append_assoc, List.cons_append, List.nil_append]

section
variable {l line D : List UInt8} {lev pg : Int} {a P : Nat}
theorem CtLn.len (h : CtLn l lev pg a P D line) : line.length = a + l.length + 1 + P + 1 + D.length := by
  rw [h.eq]; simp; omega
theorem CtLn.get (h : CtLn l lev pg a P D line) (j : Nat) : line[j]? = if j < a then some 32 else if j < a + l.length then l[j - a]? else if j = a + l.length then some 32 else if j < a + l.length + 1 + P then some 46 else if j = a + l.length + 1 + P then some 32 else D[j - (a + l.length + 1 + P) - 1]? := by
  rw [h.eq, List.getElem?_append, List.length_replicate]
  by_cases h1 : j < a
  · rw [if_pos h1, if_pos h1, List.getElem?_replicate, if_pos h1]
  · rw [if_neg h1, if_neg h1, List.getElem?_append]
    by_cases h2 : j < a + l.length
    · rw [if_pos (by omega), if_pos h2]
    · rw [if_neg (by omega), if_neg h2]
      by_cases h3 : j = a + l.length
      · rw [if_pos h3, show j - a - l.length = 0 by omega]; rfl
      · rw [if_neg h3]
        obtain ⟨k, hk⟩ : ∃ k, j - a - l.length = k + 1 := ⟨j - a - l.length - 1, by omega⟩
        rw [hk, List.getElem?_cons_succ, List.getElem?_append, List.length_replicate]
        by_cases h4 : j < a + l.length + 1 + P
        · rw [if_pos (by omega), if_pos h4, List.getElem?_replicate, if_pos (by omega)]
        · rw [if_neg (by omega), if_neg h4]
          by_cases h5 : j = a + l.length + 1 + P
          · rw [if_pos h5, show k - P = 0 by omega]; rfl
          · rw [if_neg h5]
            obtain ⟨m, hm⟩ : ∃ m, k - P = m + 1 := ⟨k - P - 1, by omega⟩
            rw [hm, List.getElem?_cons_succ, show j - (a + l.length + 1 + P) - 1 = m by omega]

/-- where the spaces end · where the last space stands · where the points begin -/
def S1 (line : List UInt8) (s : Nat) : Prop := s ≤ line.length ∧ (∀ j, j < s → line.getD j 0 = 32) ∧ (s < line.length → line.getD s 0 ≠ 32)
def S2 (line : List UInt8) (q : Nat) : Prop := q < line.length ∧ (∀ j, q < j → j < line.length → line.getD j 0 ≠ 32) ∧ (0 < q → line.getD q 0 = 32)
def S3 (line : List UInt8) (q p : Nat) : Prop := p ≤ q ∧ (∀ j, p ≤ j → j < q → line.getD j 0 = 46) ∧ (0 < p → line.getD (p - 1) 0 ≠ 46)
theorem S1.uniq {s t : Nat} (h : S1 line s) (k : S1 line t) : s = t := by
  rcases Nat.lt_trichotomy s t with hh | hh | hh
  · exact absurd (k.2.1 s hh) (h.2.2 (by have := k.1; omega))
  · exact hh
  · exact absurd (h.2.1 t hh) (k.2.2 (by have := h.1; omega))
theorem S2.uniq {s t : Nat} (h : S2 line s) (k : S2 line t) : s = t := by
  rcases Nat.lt_trichotomy s t with hh | hh | hh
  · exact absurd (k.2.2 (by omega)) (h.2.1 t hh k.1)
  · exact hh
  · exact absurd (h.2.2 (by omega)) (k.2.1 s hh h.1)
theorem S3.uniq {q s t : Nat} (h : S3 line q s) (k : S3 line q t) : s = t := by
  rcases Nat.lt_trichotomy s t with hh | hh | hh
  · exact absurd (h.2.1 (t - 1) (by omega) (by have := k.1; omega)) (k.2.2 (by omega))
  · exact hh
  · exact absurd (k.2.1 (s - 1) (by omega) (by have := h.1; omega)) (h.2.2 (by omega))
theorem tit_first (h : titOk l lev pg = true) : l.getD 0 0 ≠ 32 := by
  have hb := titOk_in h
  unfold titOk at h
  simp only [Bool.and_eq_true, Bool.not_eq_true'] at h
  have := (badAny_false l).1 h.1 0 (by omega)
  unfold badK at this
  simp only [Bool.or_eq_false_iff, Bool.and_eq_false_iff, beq_eq_false_iff_ne] at this
  rcases this.2 with h2 | h2
  · exact h2
  · exact absurd rfl h2.1
theorem CtLn.getD (h : CtLn l lev pg a P D line) (j : Nat) : line.getD j 0 = if j < a then 32 else if j < a + l.length then l.getD (j - a) 0 else if j = a + l.length then 32 else if j < a + l.length + 1 + P then 46 else if j = a + l.length + 1 + P then 32 else D.getD (j - (a + l.length + 1 + P) - 1) 0 := by
  rw [List.getD, h.get]
  repeat' split
  all_goals rfl
theorem CtLn.s1 (h : CtLn l lev pg a P D line) : S1 line a := by
  have hl := h.len
  have hb := titOk_in h.ok
  refine ⟨by omega, fun j hj => by rw [h.getD, if_pos hj], fun _ => ?_⟩
  rw [h.getD, if_neg (by omega), if_pos (by omega), Nat.sub_self]
  exact tit_first h.ok
theorem CtLn.s2 (h : CtLn l lev pg a P D line) : S2 line (a + l.length + 1 + P) := by
  have hl := h.len
  refine ⟨by omega, fun j hj hj2 => ?_, fun _ => by rw [h.getD, if_neg (by omega), if_neg (by omega), if_neg (by omega), if_neg (by omega), if_pos rfl]⟩
  rw [h.getD, if_neg (by omega), if_neg (by omega), if_neg (by omega), if_neg (by omega), if_neg (by omega), h.dg]
  refine dec_ne32 _ _ ?_
  rw [← h.dg]
  omega
theorem CtLn.s3 (h : CtLn l lev pg a P D line) : S3 line (a + l.length + 1 + P) (a + l.length + 1) := by
  refine ⟨by omega, fun j h1 h2 => by rw [h.getD, if_neg (by omega), if_neg (by omega), if_neg (by omega), if_pos h2], fun _ => ?_⟩
  rw [Nat.add_sub_cancel, h.getD, if_neg (by omega), if_neg (by omega), if_pos rfl]
  decide
theorem CtLn.rest (h : CtLn l lev pg a P D line) : line.drop a = l ++ (32 :: (List.replicate P 46 ++ 32 :: D)) := by
  rw [h.eq, List.drop_append_of_le_length (by simp), List.drop_of_length_le (by simp), List.nil_append]
theorem CtLn.text (h : CtLn l lev pg a P D line) : (line.drop a).take l.length = l := by
  rw [h.rest, List.take_append_of_le_length (Nat.le_refl _), List.take_length]
theorem CtLn.head (h : CtLn l lev pg a P D line) : (line.drop a).take (l.length + 1 + P) = l ++ (32 :: List.replicate P 46) := by
  rw [h.rest, show l ++ (32 :: (List.replicate P 46 ++ 32 :: D)) = (l ++ (32 :: List.replicate P 46)) ++ 32 :: D by simp, List.take_append_of_le_length (by simp; omega), List.take_of_length_le (by simp; omega)]
theorem CtLn.tail (h : CtLn l lev pg a P D line) : line.drop (a + l.length + 1 + P + 1) = D := by
  rw [h.eq, show List.replicate a 32 ++ (l ++ (32 :: (List.replicate P 46 ++ 32 :: D))) = (List.replicate a 32 ++ (l ++ (32 :: (List.replicate P 46 ++ [32])))) ++ D by simp, List.drop_append_of_le_length (by simp; omega), List.drop_of_length_le (by simp; omega), List.nil_append]
end
theorem digV_inj {u v : Nat} (h : Lib.decDigits u = Lib.decDigits v) : u = v := by rw [← digV_dec u, ← digV_dec v, h]
/-- No two titles have one line. -/
theorem CtIs.uniq {l l' line : List UInt8} {lev lev' pg pg' : Int} (h : CtIs l lev pg line) (h' : CtIs l' lev' pg' line) : l = l' ∧ lev = lev' ∧ pg = pg' := by
  obtain ⟨a, P, D, k⟩ := h.ln
  obtain ⟨a', P', D', k'⟩ := h'.ln
  obtain rfl := k.s1.uniq k'.s1
  have e2 := k.s2.uniq k'.s2
  have s3 := k.s3
  rw [e2] at s3
  have e3 := s3.uniq k'.s3
  have hl : l.length = l'.length := by omega
  have t := k.text
  rw [hl, k'.text] at t
  have d := k.tail
  rw [e2, k'.tail, k.dg, k'.dg] at d
  have := digV_inj d
  have b := titOk_in k.ok
  have b' := titOk_in k'.ok
  have := k.lv
  have := k'.lv
  exact ⟨t.symm, by omega, by omega⟩
/-- What is read of a line: its title, and true; or nothing, and false. -/
def CtRes (line l : List UInt8) (lev pg : Int) (b : Bool) : Prop := (b = true ∧ CtIs l lev pg line) ∨ (b = false ∧ l = [] ∧ lev = 0 ∧ pg = 0 ∧ ∀ l' lev' pg', ¬ CtIs l' lev' pg' line)
theorem CtRes.uniq {line l l' : List UInt8} {lev lev' pg pg' : Int} {b b' : Bool} (h : CtRes line l lev pg b) (h' : CtRes line l' lev' pg' b') : l = l' ∧ lev = lev' ∧ pg = pg' ∧ b = b' := by
  rcases h with ⟨e, h⟩ | ⟨e, h1, h2, h3, h4⟩
  · rcases h' with ⟨e', h'⟩ | ⟨_, _, _, _, k4⟩
    · obtain ⟨x, y, z⟩ := h.uniq h'
      exact ⟨x, y, z, by rw [e, e']⟩
    · exact absurd h (k4 _ _ _)
  · rcases h' with ⟨_, h'⟩ | ⟨e', k1, k2, k3, _⟩
    · exact absurd h' (h4 _ _ _)
    · exact ⟨by rw [h1, k1], by rw [h2, k2], by rw [h3, k3], by rw [e, e']⟩

/-- the reference's candidate -/
theorem ct_spec {line l : List UInt8} {lev pg : Int} {s q p k : Nat} (h1 : S1 line s) (h2 : S2 line q) (h3 : S3 line q p)
    (hk : k ≤ 4 ∧ q + 1 + k ≤ line.length ∧ (k = 4 ∨ q + 1 + k = line.length ∨ isDig (line.getD (q + 1 + k) 0) = false)) (h : CtIs l lev pg line) :
    s < p - 1 ∧ (line.drop s).take (p - 1 - s) = l ∧ ((s / 2 : Nat) : Int) = lev ∧ (digV ((line.drop (q + 1)).take k) : Int) = pg ∧ q + 1 + k = line.length := by
  obtain ⟨a, P, D, n⟩ := h.ln
  obtain rfl := h1.uniq n.s1
  obtain rfl := h2.uniq n.s2
  obtain rfl := h3.uniq n.s3
  have hb := titOk_in n.ok
  have hl := n.len
  have hlv := n.lv
  have hd := dec_len3 pg.toNat (by omega)
  rw [← n.dg] at hd
  have hkD : k = D.length := by
    rcases hk.2.2 with h | h | h
    · omega
    · omega
    · by_cases hlt : k < D.length
      · exfalso
        have g := n.getD (s + l.length + 1 + P + 1 + k)
        rw [if_neg (by omega), if_neg (by omega), if_neg (by omega), if_neg (by omega), if_neg (by omega), show s + l.length + 1 + P + 1 + k - (s + l.length + 1 + P) - 1 = k by omega] at g
        rw [g] at h
        have hm := dec_dig pg.toNat (D.getD k 0) (by rw [← n.dg, List.getD, List.getElem?_eq_getElem hlt]; exact List.getElem_mem hlt)
        unfold isDig at h
        rw [decide_eq_true hm.1, decide_eq_true hm.2] at h
        cases h
      · omega
  refine ⟨by omega, ?_, by omega, ?_, by omega⟩
  · rw [show s + l.length + 1 - 1 - s = l.length by omega]
    exact n.text
  · rw [n.tail, hkD, List.take_length, n.dg, digV_dec]
    omega
theorem trimLeft_s1 : ∀ line : List UInt8, ∃ s, S1 line s ∧ Lib.trimLeftB line 32 = line.drop s
  | [] => ⟨0, ⟨Nat.le_refl _, fun j h => absurd h (Nat.not_lt_zero _), fun h => absurd h (Nat.not_lt_zero _)⟩, rfl⟩
  | c :: t => by
    by_cases hc : c = 32
    · obtain ⟨s, ⟨h1, h2, h3⟩, h4⟩ := trimLeft_s1 t
      refine ⟨s + 1, ⟨by simp; omega, fun j hj => ?_, fun h => ?_⟩, ?_⟩
      · cases j with
        | zero => exact hc
        | succ j => exact h2 j (by omega)
      · exact h3 (by simpa using h)
      · unfold Lib.trimLeftB at h4 ⊢
        rw [List.dropWhile_cons, if_pos (by simp [hc]), h4]
        rfl
    · refine ⟨0, ⟨Nat.zero_le _, fun j h => absurd h (Nat.not_lt_zero _), fun _ => hc⟩, ?_⟩
      unfold Lib.trimLeftB
      rw [List.dropWhile_cons, if_neg (by simp [hc])]
      rfl
/-- the program's candidate -/
theorem ct_impl {line l : List UInt8} {lev pg : Int} {s i : Nat} (h1 : S1 line s) (hi : i < (line.drop s).length) (hi1 : (line.drop s).getD i 0 = 32) (hi2 : ∀ j, i < j → j < (line.drop s).length → (line.drop s).getD j 0 ≠ 32) (h : CtIs l lev pg line) :
    Lib.trimSuffix (Lib.trimRightB ((line.drop s).take i) 46) [32] = l ∧ ((s / 2 : Nat) : Int) = lev ∧ Lib.atoiAll ((line.drop s).drop (i + 1)) = .ok pg := by
  obtain ⟨a, P, D, n⟩ := h.ln
  obtain rfl := h1.uniq n.s1
  have hb := titOk_in n.ok
  have hl := n.len
  have hlv := n.lv
  have hdl : (line.drop s).length = line.length - s := by simp
  have hg : ∀ j, (line.drop s).getD j 0 = line.getD (s + j) 0 := fun j => by simp [List.getD, List.getElem?_drop]
  have h2 : S2 line (s + i) := by
    refine ⟨by omega, fun j hj hj2 => ?_, fun _ => by rw [← hg]; exact hi1⟩
    have := hi2 (j - s) (by omega) (by omega)
    rw [hg, show s + (j - s) = j by omega] at this
    exact this
  have e2 := h2.uniq n.s2
  have ei : i = l.length + 1 + P := by omega
  subst ei
  refine ⟨?_, by omega, ?_⟩
  · rw [n.head]
    have er : Lib.trimRightB (l ++ (32 :: List.replicate P 46)) 46 = l ++ [32] := by
      rw [Lib.trimRightB_take _ 46 (l.length + 1) (by simp) (fun j b hj hb => ?_) (fun b _ hb => ?_)]
      · rw [show l ++ (32 :: List.replicate P 46) = (l ++ [32]) ++ List.replicate P 46 by simp, List.take_append_of_le_length (by simp), List.take_of_length_le (by simp)]
      · rw [List.getElem?_append_right (by omega)] at hb
        obtain ⟨q, hq⟩ : ∃ q, j - l.length = q + 1 := ⟨j - l.length - 1, by omega⟩
        rw [hq, List.getElem?_cons_succ, List.getElem?_replicate] at hb
        split at hb
        · exact (Option.some.inj hb).symm
        · cases hb
      · rw [Nat.add_sub_cancel, List.getElem?_append_right (by omega), Nat.sub_self] at hb
        have : b = 32 := (Option.some.inj hb).symm
        rw [this]
        decide
    rw [er]
    unfold Lib.trimSuffix
    have hs : Lib.hasSuffix (l ++ [32]) [32] = true := by
      unfold Lib.hasSuffix
      rw [List.isSuffixOf_iff_suffix]
      exact List.suffix_append l [32]
    rw [if_pos hs]
    simp
  · rw [List.drop_drop, show s + (l.length + 1 + P + 1) = s + l.length + 1 + P + 1 by omega, n.tail, n.dg, atoi_dec _ (by omega)]
    congr 1
    omega
theorem ct_none {line : List UInt8} {s : Nat} (h1 : S1 line s) (hno : ∀ j, j < (line.drop s).length → (line.drop s).getD j 0 ≠ 32) (l : List UInt8) (lev pg : Int) : ¬ CtIs l lev pg line := by
  intro h
  obtain ⟨a, P, D, n⟩ := h.ln
  obtain rfl := h1.uniq n.s1
  have hl := n.len
  have hdl : (line.drop s).length = line.length - s := by simp
  have := hno (l.length) (by omega)
  apply this
  rw [show (line.drop s).getD l.length 0 = line.getD (s + l.length) 0 by simp [List.getD, List.getElem?_drop], n.getD, if_neg (by omega), if_neg (by omega), if_pos rfl]
theorem ct_specA {line l : List UInt8} {lev pg : Int} {s q p : Nat} (h1 : S1 line s) (h2 : S2 line q) (h3 : S3 line q p) (h : CtIs l lev pg line) : s < p - 1 := by
  obtain ⟨a, P, D, n⟩ := h.ln
  obtain rfl := h1.uniq n.s1
  obtain rfl := h2.uniq n.s2
  obtain rfl := h3.uniq n.s3
  have hb := titOk_in n.ok
  omega
theorem ct_empty (l : List UInt8) (lev pg : Int) : ¬ CtIs l lev pg [] := by
  intro h
  obtain ⟨a, P, D, n⟩ := h.ln
  have := n.len
  rw [List.length_nil] at this
  omega
/-- It returns what is read of the line. -/
def RetCt (line : List UInt8) (w : World) (e : Ending) (w' : World) : Prop :=
  ∃ (l : List UInt8) (lev pg : Int) (b : Bool), e = .returned (.tuple #[.agg #[.string (bs l), .int .i64 lev, .int .i64 pg], .bool b]) ∧ CtRes line l lev pg b ∧ Below w.heap.size w w'
theorem CtRes.none {line : List UInt8} (h : ∀ l' lev' pg', ¬ CtIs l' lev' pg' line) : CtRes line [] 0 0 false := .inr ⟨rfl, rfl, rfl, rfl, h⟩
theorem CtRes.some {line l : List UInt8} {lev pg : Int} (h : CtIs l lev pg line) : CtRes line l lev pg true := .inl ⟨rfl, h⟩
theorem bs_slice (l : List UInt8) (a b : Nat) : (bs l).extract a b = bs ((l.drop a).take (b - a)) := by
  apply ByteArray.ext
  simp [bs, ByteArray.data_extract]
theorem bs_inj {a b : List UInt8} (h : bs a = bs b) : a = b := by
  have := congrArg (fun x => x.data.toList) h
  simpa using this
end Go.Proofs.YtfallcoehmmbeaaGreatDoor

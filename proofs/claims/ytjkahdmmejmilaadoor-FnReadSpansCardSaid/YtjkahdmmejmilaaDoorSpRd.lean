/-
  PROVED HERE: texts of ranges, read back, in plain Lean. Conditions: each theorem's own.
-/
import Derived.Test.YtjkahdmmejmilaaDoorSpTxtP
import Derived.Test.YtjkahdmmejmilaaDoorDigP
import Derived.Lib.Split
import Derived.Lib.IndexMore
set_option linter.unusedVariables false
set_option linter.unusedSimpArgs false
namespace Go.Proofs.YtjkahdmmejmilaaDoor
open Go.RowKit

/-- These are the valid ranges of the text. -/
def SpIs (xs : List DSpan) (s : List UInt8) : Prop := spB xs = true ∧ spTxt xs = s
def spJ (xs : List DSpan) : List UInt8 := Lib.join (xs.map runT) [44]
def spTl (xs : List DSpan) : List UInt8 := Lib.joinTail [44] (xs.map runT)
theorem SpIs.join {xs : List DSpan} {s : List UInt8} (h : SpIs xs s) : s = spJ xs := by
  obtain ⟨h1, h2⟩ := h
  unfold spTxt at h2
  rw [if_pos h1] at h2
  unfold accT at h2
  rw [List.take_length] at h2
  exact h2.symm
theorem SpIs.of {xs : List DSpan} (h : spB xs = true) : SpIs xs (spJ xs) := by
  refine ⟨h, ?_⟩
  unfold spTxt
  rw [if_pos h]
  unfold accT
  rw [List.take_length]
  rfl
theorem spJ_nil : spJ [] = [] := rfl
theorem spJ_cons (x : DSpan) (t : List DSpan) : spJ (x :: t) = runT x ++ spTl t := by
  unfold spJ spTl
  rw [List.map_cons, Lib.join_cons]
theorem spTl_nil : spTl [] = [] := rfl
theorem spTl_cons (x : DSpan) (t : List DSpan) : spTl (x :: t) = 44 :: spJ (x :: t) := by
  rw [spJ_cons]
  unfold spTl Lib.joinTail
  simp
theorem dec_ne (u : Nat) (k : UInt8) (hk : k.toNat < 48) : ∀ c ∈ Lib.decDigits u, c ≠ k := by
  intro c hc e
  have := (dec_dig u c hc).1
  rw [e] at this
  omega
theorem runT_pos (x : DSpan) (h0 : x.f0 ≤ 999) : 0 < (runT x).length := by
  have := dec_len3 x.f0.toNat (by omega)
  unfold runT
  split
  · omega
  · rw [List.length_append]; omega
theorem runT_comma (x : DSpan) : ∀ c ∈ runT x, c ≠ 44 := by
  intro c hc
  unfold runT at hc
  split at hc
  · exact dec_ne _ 44 (by decide) c hc
  · rw [List.mem_append, List.mem_cons] at hc
    rcases hc with hc | rfl | hc
    · exact dec_ne _ 44 (by decide) c hc
    · decide
    · exact dec_ne _ 44 (by decide) c hc
theorem drop_head {s R : List UInt8} {e : Nat} {c : UInt8} (h : s.drop e = c :: R) : e < s.length ∧ s.getD e 0 = c ∧ s.drop (e + 1) = R := by
  have hl : e < s.length := by
    have := congrArg List.length h
    simp at this
    omega
  rw [List.drop_eq_getElem_cons hl] at h
  injection h with h1 h2
  exact ⟨hl, by simp [List.getD, hl, h1], h2⟩
theorem drop_none {s : List UInt8} {e : Nat} (h : s.drop e = []) : s.length ≤ e := by
  have := congrArg List.length h
  simp at this
  omega
/-- Behind a range stands a comma, or nothing. -/
theorem tl_next {s : List UInt8} {t : List DSpan} {e : Nat} (h : s.drop e = spTl t) : (e < s.length → s.getD e 0 = 44) ∧ s.drop (e + 1) = spJ t := by
  cases t with
  | nil =>
    have := drop_none h
    exact ⟨fun hl => by omega, by rw [List.drop_of_length_le (by omega)]; rfl⟩
  | cons y r =>
    rw [spTl_cons] at h
    obtain ⟨h1, h2, h3⟩ := drop_head h
    exact ⟨fun _ => h2, h3⟩
/-- How far digits go, and that they are digits. -/
def DigAll (l : List UInt8) (a k : Nat) : Prop := (k ≤ 4 ∧ a + k ≤ l.length ∧ (k = 4 ∨ a + k = l.length ∨ isDig (l.getD (a + k) 0) = false)) ∧ ∀ c ∈ (l.drop a).take k, 48 ≤ c.toNat ∧ c.toNat ≤ 57
theorem dig_read {s R : List UInt8} {a u dk : Nat} (hu : u ≤ 999) (h : s.drop a = Lib.decDigits u ++ R) (hR : ∀ c, R.head? = some c → isDig c = false) (hd : DigAll s a dk) : dk = (Lib.decDigits u).length ∧ digV ((s.drop a).take dk) = u := by
  have hl := dec_len3 u hu
  obtain ⟨⟨h4, hle, hend⟩, hall⟩ := hd
  have hlen := congrArg List.length h
  rw [List.length_drop, List.length_append] at hlen
  have hg : ∀ j, s.getD (a + j) 0 = (s.drop a).getD j 0 := fun j => by simp [List.getD, List.getElem?_drop]
  have key : dk = (Lib.decDigits u).length := by
    rcases Nat.lt_trichotomy dk (Lib.decDigits u).length with hlt | he | hgt
    · exfalso
      have hdg : isDig (s.getD (a + dk) 0) = true := by
        rw [hg, h]
        have e : (Lib.decDigits u ++ R).getD dk 0 = (Lib.decDigits u).getD dk 0 := by
          simp only [List.getD_eq_getElem?_getD]
          rw [List.getElem?_append_left hlt]
        rw [e]
        have := dec_dig u ((Lib.decDigits u).getD dk 0) (by rw [List.getD, List.getElem?_eq_getElem hlt]; exact List.getElem_mem hlt)
        unfold isDig
        rw [decide_eq_true this.1, decide_eq_true this.2]
        rfl
      rcases hend with e | e | e
      · omega
      · omega
      · rw [hdg] at e; cases e
    · exact he
    · exfalso
      cases R with
      | nil => simp at hlen; omega
      | cons c r =>
        have hc := hR c rfl
        have hm : c ∈ (s.drop a).take dk := by
          rw [h, List.take_append, List.mem_append]
          right
          obtain ⟨q, hq⟩ : ∃ q, dk - (Lib.decDigits u).length = q + 1 := ⟨dk - (Lib.decDigits u).length - 1, by omega⟩
          rw [hq, List.take_succ_cons]
          exact List.mem_cons_self
        have := hall c hm
        unfold isDig at hc
        rw [decide_eq_true this.1, decide_eq_true this.2] at hc
        cases hc
  refine ⟨key, ?_⟩
  rw [h, key, List.take_append_of_le_length (Nat.le_refl _), List.take_length, digV_dec]
theorem tl_head (t : List DSpan) : ∀ c, (spTl t).head? = some c → c = 44 := by
  intro c h
  cases t with
  | nil => cases h
  | cons y r =>
    rw [spTl_cons] at h
    exact (Option.some.inj h).symm
/-- One range more is read. -/
theorem sp_step {s : List UInt8} {x : DSpan} {t : List DSpan} {a dk : Nat} (hx : 1 ≤ x.f0 ∧ x.f0 ≤ x.f1 ∧ x.f1 ≤ 999) (h : s.drop a = spJ (x :: t)) (hd : DigAll s a dk) :
    0 < dk ∧ (digV ((s.drop a).take dk) : Int) = x.f0 ∧
      ((x.f0 = x.f1 ∧ (a + dk < s.length → s.getD (a + dk) 0 = 44) ∧ s.drop (a + dk + 1) = spJ t) ∨
       (x.f0 ≠ x.f1 ∧ a + dk < s.length ∧ s.getD (a + dk) 0 = 45 ∧ ∀ d2, DigAll s (a + dk + 1) d2 → (digV ((s.drop (a + dk + 1)).take d2) : Int) = x.f1 ∧ (a + dk + 1 + d2 < s.length → s.getD (a + dk + 1 + d2) 0 = 44) ∧ s.drop (a + dk + 1 + d2 + 1) = spJ t)) := by
  rw [spJ_cons] at h
  have hl := dec_len3 x.f0.toNat (by omega)
  by_cases he : x.f0 = x.f1
  · have e : runT x = Lib.decDigits x.f0.toNat := by unfold runT; rw [if_pos he]
    rw [e] at h
    obtain ⟨k1, k2⟩ := dig_read (by omega) h (fun c hc => by rw [tl_head t c hc]; decide) hd
    have hdr : s.drop (a + dk) = spTl t := by
      rw [← List.drop_drop, h, k1, List.drop_append_of_le_length (Nat.le_refl _), List.drop_length, List.nil_append]
    obtain ⟨n1, n2⟩ := tl_next hdr
    exact ⟨by omega, by rw [k2]; omega, .inl ⟨he, n1, n2⟩⟩
  · have e : runT x = Lib.decDigits x.f0.toNat ++ (45 :: Lib.decDigits x.f1.toNat) := by unfold runT; rw [if_neg he]
    rw [e, List.append_assoc] at h
    obtain ⟨k1, k2⟩ := dig_read (by omega) h (fun c hc => by have : c = 45 := (Option.some.inj hc).symm; rw [this]; decide) hd
    have hdr : s.drop (a + dk) = 45 :: (Lib.decDigits x.f1.toNat ++ spTl t) := by
      rw [← List.drop_drop, h, k1, List.drop_append_of_le_length (Nat.le_refl _), List.drop_length, List.nil_append, List.cons_append]
    obtain ⟨m1, m2, m3⟩ := drop_head hdr
    refine ⟨by omega, by rw [k2]; omega, .inr ⟨he, m1, m2, fun d2 hd2 => ?_⟩⟩
    obtain ⟨k3, k4⟩ := dig_read (by omega) m3 (fun c hc => by rw [tl_head t c hc]; decide) hd2
    have hdr2 : s.drop (a + dk + 1 + d2) = spTl t := by
      rw [← List.drop_drop, m3, k3, List.drop_append_of_le_length (Nat.le_refl _), List.drop_length, List.nil_append]
    obtain ⟨n1, n2⟩ := tl_next hdr2
    exact ⟨by rw [k4]; omega, n1, n2⟩
/-- Where the reading stands: the ranges that were read are the first ones of whatever ranges have the text. -/
def SpInv (s : List UInt8) (ys : List DSpan) (a : Nat) : Prop := ∀ xs, SpIs xs s → ys = xs.take ys.length ∧ ys.length ≤ xs.length ∧ s.drop a = spJ (xs.drop ys.length)
theorem SpInv.start (s : List UInt8) : SpInv s [] 0 := fun xs h => ⟨rfl, Nat.zero_le _, h.join⟩
theorem spJ_pos {xs : List DSpan} (h : ∀ x ∈ xs, x.f0 ≤ 999) (hs : spJ xs = []) : xs = [] := by
  cases xs with
  | nil => rfl
  | cons x t =>
    rw [spJ_cons] at hs
    have := runT_pos x (h x (by simp))
    have := congrArg List.length hs
    rw [List.length_append, List.length_nil] at this
    omega
/-- The first range that has not been read. -/
theorem SpInv.next {s : List UInt8} {ys xs : List DSpan} {a : Nat} (h : SpInv s ys a) (hx : SpIs xs s) (ha : a < s.length) : ∃ x t, xs.drop ys.length = x :: t ∧ 1 ≤ x.f0 ∧ x.f0 ≤ x.f1 ∧ x.f1 ≤ 999 ∧ s.drop a = spJ (x :: t) ∧ xs.take (ys.length + 1) = ys ++ [x] ∧ ys.length < xs.length ∧ xs.drop (ys.length + 1) = t := by
  obtain ⟨h1, h2, h3⟩ := h xs hx
  have hall := (spB_all hx.1).2
  have hlt : ys.length < xs.length := by
    rcases Nat.lt_or_ge ys.length xs.length with hh | hh
    · exact hh
    · rw [List.drop_of_length_le hh, spJ_nil] at h3
      have := drop_none h3
      omega
  have hm := hall _ (List.getElem_mem hlt)
  have hd := List.drop_eq_getElem_cons hlt
  refine ⟨xs[ys.length], xs.drop (ys.length + 1), hd, hm.1, hm.2.1, hm.2.2, by rw [h3, hd], ?_, hlt, rfl⟩
  rw [List.take_succ_eq_append_getElem hlt, ← h1]
theorem SpInv.one {s : List UInt8} {ys : List DSpan} {a dk : Nat} (h : SpInv s ys a) (ha : a < s.length) (hd : DigAll s a dk) (hn : ¬ (a + dk < s.length ∧ s.getD (a + dk) 0 = 45)) :
    SpInv s (ys ++ [⟨digV ((s.drop a).take dk), digV ((s.drop a).take dk)⟩]) (a + dk + 1) := by
  intro xs hx
  obtain ⟨x, t, e1, e2, e3, e4, e5, e6, e7, e8⟩ := h.next hx ha
  obtain ⟨q1, q2, q3⟩ := sp_step ⟨e2, e3, e4⟩ e5 hd
  rcases q3 with ⟨r1, r2, r3⟩ | ⟨r1, r2, r3, r4⟩
  · have ex : (⟨digV ((s.drop a).take dk), digV ((s.drop a).take dk)⟩ : DSpan) = x := by
      cases x
      simp only [DSpan.mk.injEq]
      simp only at q2 r1
      exact ⟨q2, by rw [q2, r1]⟩
    rw [ex, List.length_append, List.length_singleton, e6, e8]
    exact ⟨rfl, by omega, r3⟩
  · exact absurd ⟨r2, r3⟩ hn
theorem SpInv.two {s : List UInt8} {ys : List DSpan} {a dk d2 : Nat} (h : SpInv s ys a) (ha : a < s.length) (hd : DigAll s a dk) (hn : s.getD (a + dk) 0 = 45) (hl : a + dk < s.length) (hd2 : DigAll s (a + dk + 1) d2) :
    SpInv s (ys ++ [⟨digV ((s.drop a).take dk), digV ((s.drop (a + dk + 1)).take d2)⟩]) (a + dk + 1 + d2 + 1) := by
  intro xs hx
  obtain ⟨x, t, e1, e2, e3, e4, e5, e6, e7, e8⟩ := h.next hx ha
  obtain ⟨q1, q2, q3⟩ := sp_step ⟨e2, e3, e4⟩ e5 hd
  rcases q3 with ⟨r1, r2, r3⟩ | ⟨r1, r2, r3, r4⟩
  · have := r2 hl
    rw [hn] at this
    exact absurd this (by decide)
  · obtain ⟨k1, k2, k3⟩ := r4 d2 hd2
    have ex : (⟨digV ((s.drop a).take dk), digV ((s.drop (a + dk + 1)).take d2)⟩ : DSpan) = x := by
      cases x
      simp only [DSpan.mk.injEq]
      simp only at q2 k1
      exact ⟨q2, k1⟩
    rw [ex, List.length_append, List.length_singleton, e6, e8]
    exact ⟨rfl, by omega, k3⟩
/-- Where the reading fails there are no such ranges. -/
theorem SpInv.bad0 {s : List UInt8} {ys : List DSpan} {a dk : Nat} (h : SpInv s ys a) (ha : a < s.length) (hd : DigAll s a dk) (h0 : dk = 0) (xs : List DSpan) : ¬ SpIs xs s := by
  intro hx
  obtain ⟨x, t, e1, e2, e3, e4, e5, e6, e7, e8⟩ := h.next hx ha
  obtain ⟨q1, q2, q3⟩ := sp_step ⟨e2, e3, e4⟩ e5 hd
  omega
theorem SpInv.bad1 {s : List UInt8} {ys : List DSpan} {a dk : Nat} (h : SpInv s ys a) (ha : a < s.length) (hd : DigAll s a dk) (hl : a + dk < s.length) (hn : s.getD (a + dk) 0 ≠ 45) (hc : s.getD (a + dk) 0 ≠ 44) (xs : List DSpan) : ¬ SpIs xs s := by
  intro hx
  obtain ⟨x, t, e1, e2, e3, e4, e5, e6, e7, e8⟩ := h.next hx ha
  obtain ⟨q1, q2, q3⟩ := sp_step ⟨e2, e3, e4⟩ e5 hd
  rcases q3 with ⟨r1, r2, r3⟩ | ⟨r1, r2, r3, r4⟩
  · exact hc (r2 hl)
  · exact hn r3
theorem SpInv.bad2 {s : List UInt8} {ys : List DSpan} {a dk d2 : Nat} (h : SpInv s ys a) (ha : a < s.length) (hd : DigAll s a dk) (hl0 : a + dk < s.length) (hn : s.getD (a + dk) 0 = 45) (hd2 : DigAll s (a + dk + 1) d2) (hl : a + dk + 1 + d2 < s.length) (hc : s.getD (a + dk + 1 + d2) 0 ≠ 44) (xs : List DSpan) : ¬ SpIs xs s := by
  intro hx
  obtain ⟨x, t, e1, e2, e3, e4, e5, e6, e7, e8⟩ := h.next hx ha
  obtain ⟨q1, q2, q3⟩ := sp_step ⟨e2, e3, e4⟩ e5 hd
  rcases q3 with ⟨r1, r2, r3⟩ | ⟨r1, r2, r3, r4⟩
  · have := r2 hl0
    rw [hn] at this
    exact absurd this (by decide)
  · exact hc ((r4 d2 hd2).2.1 hl)
theorem SpInv.fin {s : List UInt8} {ys : List DSpan} {a : Nat} (h : SpInv s ys a) (ha : s.length ≤ a) (xs : List DSpan) (hx : SpIs xs s) : xs = ys := by
  obtain ⟨h1, h2, h3⟩ := h xs hx
  rw [List.drop_of_length_le ha] at h3
  have := spJ_pos (fun x hm => by have := (spB_all hx.1).2 x (List.mem_of_mem_drop hm); omega) h3.symm
  have hl : xs.length ≤ ys.length := by
    have := congrArg List.length this
    simp at this
    omega
  rw [h1, List.take_of_length_le hl]
/-- What is read of a text: its ranges, and true; or nothing, and false. -/
def SpRes (s : List UInt8) (xs : List DSpan) (b : Bool) : Prop := (b = true ∧ SpIs xs s) ∨ (b = false ∧ xs = [] ∧ ∀ ys, ¬ SpIs ys s)

-- the program's way: words between commas
theorem idx_none (c : UInt8) : ∀ s : List UInt8, c ∉ s → Lib.index s [c] = -1
  | [], _ => rfl
  | b :: l, h => by
    simp only [List.mem_cons, not_or] at h
    unfold Lib.index
    have e : [c].isPrefixOf (b :: l) = false := by simp [List.isPrefixOf, h.1]
    rw [if_neg (by rw [e]; decide), if_pos (by rw [idx_none c l h.2]; decide)]
theorem idx_hit (c : UInt8) : ∀ (w r : List UInt8), c ∉ w → Lib.index (w ++ c :: r) [c] = (w.length : Nat)
  | [], r, _ => by
    rw [List.nil_append, Lib.index, if_pos (by simp [List.isPrefixOf])]
    rfl
  | b :: w, r, h => by
    simp only [List.mem_cons, not_or] at h
    rw [List.cons_append]
    unfold Lib.index
    have e : [c].isPrefixOf (b :: (w ++ c :: r)) = false := by simp [List.isPrefixOf, h.1]
    have ih := idx_hit c w r h.2
    rw [if_neg (by rw [e]; decide), if_neg (by rw [ih]; simp), ih]
    simp
def spl (s : List UInt8) : List (List UInt8) := Lib.splitK [44] 0 (Lib.count s [44]) s
theorem spl_none {s : List UInt8} (h : (44 : UInt8) ∉ s) : spl s = [s] := by
  unfold spl
  rw [Lib.count_miss (idx_none 44 s h)]
  rfl
theorem spl_cons {w r : List UInt8} (h : (44 : UInt8) ∉ w) : spl (w ++ 44 :: r) = w :: spl r := by
  have hi := idx_hit 44 w r h
  have hd : (w ++ 44 :: r).drop (w.length + 1) = r := by
    rw [show w ++ 44 :: r = (w ++ [44]) ++ r by simp, List.drop_append_of_le_length (by simp), List.drop_of_length_le (by simp), List.nil_append]
  have ht : (w ++ 44 :: r).take (w.length + 0) = w := by rw [Nat.add_zero, List.take_append_of_le_length (Nat.le_refl _), List.take_length]
  unfold spl
  rw [Lib.count_hit (by simp) hi, List.length_singleton, hd, Nat.add_comm, Lib.splitK, if_neg (by rw [hi]; simp), hi, Int.toNat_natCast, ht, List.length_singleton, hd]
theorem joinTail_ne (r : List (List UInt8)) (h : r ≠ []) : Lib.joinTail [44] r = 44 :: Lib.join r [44] := by
  cases r with
  | nil => exact absurd rfl h
  | cons y t =>
    rw [Lib.join_cons]
    unfold Lib.joinTail
    simp
theorem spl_join : ∀ (n : Nat) (s : List UInt8), s.length ≤ n → spl s ≠ [] ∧ Lib.join (spl s) [44] = s := by
  intro n
  induction n with
  | zero =>
    intro s hs
    obtain rfl : s = [] := List.eq_nil_of_length_eq_zero (by omega)
    rw [spl_none (by simp)]
    exact ⟨by simp, Lib.join_one _ _⟩
  | succ n ih =>
    intro s hs
    by_cases h : (44 : UInt8) ∈ s
    · obtain ⟨w, r, rfl, hw⟩ := List.eq_append_cons_of_mem h
      rw [spl_cons hw]
      obtain ⟨i1, i2⟩ := ih r (by simp at hs; omega)
      refine ⟨by simp, ?_⟩
      rw [Lib.join_cons, joinTail_ne _ i1, i2]
    · rw [spl_none h]
      exact ⟨by simp, Lib.join_one _ _⟩
theorem spl_spJ : ∀ (x : DSpan) (t : List DSpan), spl (spJ (x :: t)) = (x :: t).map runT
  | x, [] => by
    have e : spJ [x] = runT x := by rw [spJ_cons, spTl_nil, List.append_nil]
    rw [e, spl_none (fun h => runT_comma x 44 h rfl)]
    rfl
  | x, y :: r => by
    rw [spJ_cons, spTl_cons, spl_cons (fun h => runT_comma x 44 h rfl), spl_spJ y r]
    rfl
theorem cut_none {s : List UInt8} (h : (45 : UInt8) ∉ s) : Lib.cut s [45] = (s, [], false) := by
  unfold Lib.cut
  rw [idx_none 45 s h, if_neg (by decide)]
theorem cut_hit {w r : List UInt8} (h : (45 : UInt8) ∉ w) : Lib.cut (w ++ 45 :: r) [45] = (w, r, true) := by
  unfold Lib.cut
  rw [idx_hit 45 w r h, if_pos (by omega)]
  simp only [Int.toNat_natCast, List.length_singleton]
  rw [List.take_append_of_le_length (Nat.le_refl _), List.take_length, show w ++ 45 :: r = (w ++ [45]) ++ r by simp, List.drop_append_of_le_length (by simp), List.drop_of_length_le (by simp), List.nil_append]
/-- What readRun tries to read: the text ahead of the dash, and the one behind it (the same one, where there is none). -/
def runA (wd : List UInt8) : List UInt8 := (Lib.cut wd [45]).1
def runB (wd : List UInt8) : List UInt8 := if (Lib.cut wd [45]).2.2 = true then (Lib.cut wd [45]).2.1 else (Lib.cut wd [45]).1
theorem run_of {x : DSpan} (h0 : 1 ≤ x.f0 ∧ x.f0 ≤ 999) (h1 : 1 ≤ x.f1 ∧ x.f1 ≤ 999) : Lib.atoiAll (runA (runT x)) = .ok x.f0 ∧ Lib.atoiAll (runB (runT x)) = .ok x.f1 := by
  have n45 : ∀ u, (45 : UInt8) ∉ Lib.decDigits u := fun u h => dec_ne u 45 (by decide) 45 h rfl
  have a0 := atoi_dec x.f0.toNat (by omega)
  have a1 := atoi_dec x.f1.toNat (by omega)
  rw [show ((x.f0.toNat : Nat) : Int) = x.f0 by omega] at a0
  rw [show ((x.f1.toNat : Nat) : Int) = x.f1 by omega] at a1
  unfold runA runB runT
  by_cases he : x.f0 = x.f1
  · rw [if_pos he, cut_none (n45 _)]
    refine ⟨a0, ?_⟩
    show Lib.atoiAll (Lib.decDigits x.f0.toNat) = _
    rw [← he]
    exact a0
  · rw [if_neg he, cut_hit (n45 _)]
    exact ⟨a0, a1⟩
/-- What readRun finds. -/
def RunRes (wd : List UInt8) (f t : Int) (b : Bool) : Prop :=
  (b = true → 1 ≤ f ∧ f ≤ 999 ∧ 1 ≤ t ∧ t ≤ 999 ∧ runT ⟨f, t⟩ = wd) ∧ ∀ x : DSpan, 1 ≤ x.f0 ∧ x.f0 ≤ 999 → 1 ≤ x.f1 ∧ x.f1 ≤ 999 → runT x = wd → b = true ∧ f = x.f0 ∧ t = x.f1
/-- All words have been read, and the ranges are valid: it is their text. -/
theorem spl_sound {s : List UInt8} {ys : List DSpan} (h : ys.map runT = spl s) (hb : spB ys = true) : SpIs ys s := by
  have e : spJ ys = s := by
    unfold spJ
    rw [h]
    exact (spl_join s.length s (Nat.le_refl _)).2
  rw [← e]
  exact SpIs.of hb
theorem spl_words {s : List UInt8} {xs : List DSpan} (h : SpIs xs s) (hs : s ≠ []) : spl s = xs.map runT := by
  have e := h.join
  cases xs with
  | nil => exact absurd e hs
  | cons x t => rw [e]; exact spl_spJ x t
theorem SpIs.uniq {xs ys : List DSpan} {s : List UInt8} (h : SpIs xs s) (k : SpIs ys s) : xs = ys := by
  by_cases hs : s = []
  · have e1 := h.join
    have e2 := k.join
    rw [hs] at e1 e2
    rw [spJ_pos (fun x hm => by have := (spB_all h.1).2 x hm; omega) e1.symm, spJ_pos (fun x hm => by have := (spB_all k.1).2 x hm; omega) e2.symm]
  · have e : xs.map runT = ys.map runT := by rw [← spl_words h hs, ← spl_words k hs]
    have hl : xs.length = ys.length := by have := congrArg List.length e; simpa using this
    refine List.ext_getElem hl fun i h1 h2 => ?_
    have hx := (spB_all h.1).2 _ (List.getElem_mem h1)
    have hy := (spB_all k.1).2 _ (List.getElem_mem h2)
    have er : runT xs[i] = runT ys[i] := by
      have := congrArg (fun l => l[i]?) e
      simpa [h1, h2] using this
    obtain ⟨p1, p2⟩ := run_of (x := xs[i]) (by omega) (by omega)
    obtain ⟨q1, q2⟩ := run_of (x := ys[i]) (by omega) (by omega)
    rw [er, q1] at p1
    rw [er, q2] at p2
    injection p1 with p1
    injection p2 with p2
    generalize xs[i] = a at p1 p2 ⊢
    generalize ys[i] = b at p1 p2 ⊢
    cases a
    cases b
    simp only at p1 p2
    rw [p1, p2]
theorem SpRes.uniq {s : List UInt8} {xs ys : List DSpan} {b c : Bool} (h : SpRes s xs b) (k : SpRes s ys c) : xs = ys ∧ b = c := by
  rcases h with ⟨h1, h2⟩ | ⟨h1, h2, h3⟩
  · rcases k with ⟨k1, k2⟩ | ⟨k1, k2, k3⟩
    · exact ⟨h2.uniq k2, by rw [h1, k1]⟩
    · exact absurd h2 (k3 _)
  · rcases k with ⟨k1, k2⟩ | ⟨k1, k2, k3⟩
    · exact absurd k2 (h3 _)
    · exact ⟨by rw [h2, k2], by rw [h1, k1]⟩
end Go.Proofs.YtjkahdmmejmilaaDoor

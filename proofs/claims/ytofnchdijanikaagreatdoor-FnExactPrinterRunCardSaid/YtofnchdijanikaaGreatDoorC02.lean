/-
  PROVED HERE: what the printer's lines need, part C02. Conditions: each theorem's own.
-/
import Derived.Test.YtofnchdijanikaaGreatDoorC01
set_option linter.unusedVariables false
set_option linter.unusedSimpArgs false
set_option maxRecDepth 100000
namespace Go.Proofs.YtofnchdijanikaaGreatDoor
def lineC (xs : List DItem) (wd most : Int) (a to : Nat) : Option (Int × Int) :=
 if lineB xs a to = true then
  if (setB (lineG xs a to) wd).1 < 0 ∨ most < (setB (lineG xs a to) wd).1 then none
  else some (costV (setB (lineG xs a to) wd).1 (it xs to).cost, looksV (setB (lineG xs a to) wd).2 (setB (lineG xs a to) wd).1)
 else none
def between (xs : List DItem) (a to : Nat) (bf lk : Int) : Int :=
 if 0 < a then (if ((it xs (a - 1)).mark && (it xs to).mark) = true then 3000 else 0) + (if 1 < max (bf - lk) (lk - bf) then 3000 else 0) else 0
def stepB (xs : List DItem) (wd most : Int) (T : Nat → Int → Option (Int × Nat)) (a : Nat) (bf : Int) (acc : Option (Int × Nat)) (to : Nat) : Option (Int × Nat) :=
 match lineC xs wd most a to with
 | none => acc
 | some (c, lk) =>
  match T (to + 1) lk with
  | none => acc
  | some (r, _) =>
   match acc with
   | none => some (c + r + between xs a to bf lk, to)
   | some (m, u) => if c + r + between xs a to bf lk < m then some (c + r + between xs a to bf lk, to) else some (m, u)
def chooseTo (xs : List DItem) (wd most : Int) (T : Nat → Int → Option (Int × Nat)) (a : Nat) (bf : Int) : Nat → Option (Int × Nat)
 | 0 => none
 | k + 1 => stepB xs wd most T a bf (chooseTo xs wd most T a bf k) (xs.length - 1 - k)
def bestF (xs : List DItem) (wd most : Int) : Nat → Nat → Int → Option (Int × Nat)
 | 0, _, _ => none
 | f + 1, a, bf => if xs.length ≤ a then some (0, a) else chooseTo xs wd most (bestF xs wd most f) a bf (xs.length - a)
def best (xs : List DItem) (wd most : Int) (a : Nat) (bf : Int) : Option (Int × Nat) := bestF xs wd most (xs.length - a + 1) a bf
theorem chooseTo_congr (xs : List DItem) (wd most : Int) (T U : Nat → Int → Option (Int × Nat)) (a : Nat) (bf : Int) : ∀ k, k ≤ xs.length - a → (∀ b l, a < b → T b l = U b l) → chooseTo xs wd most T a bf k = chooseTo xs wd most U a bf k
 | 0, _, _ => rfl
 | k + 1, hk, h => by
  rw [chooseTo, chooseTo, chooseTo_congr xs wd most T U a bf k (by omega) h]
  unfold stepB
  have e : ∀ lk, T (xs.length - 1 - k + 1) lk = U (xs.length - 1 - k + 1) lk := fun lk => h _ _ (by omega)
  simp only [e]
theorem bestF_same (xs : List DItem) (wd most : Int) : ∀ (f g a : Nat) (bf : Int), xs.length - a + 1 ≤ f → xs.length - a + 1 ≤ g → bestF xs wd most f a bf = bestF xs wd most g a bf
 | 0, _, a, _, h, _ => by omega
 | f + 1, 0, a, _, _, h => by omega
 | f + 1, g + 1, a, bf, h1, h2 => by
  rw [bestF, bestF]
  by_cases hn : xs.length ≤ a
  ·rw [if_pos hn, if_pos hn]
  ·rw [if_neg hn, if_neg hn]
   exact chooseTo_congr xs wd most _ _ a bf _ (Nat.le_refl _) (fun b l hb => bestF_same xs wd most f g b l (by omega) (by omega))
theorem best_end (xs : List DItem) (wd most : Int) (a : Nat) (bf : Int) (h : xs.length ≤ a) : best xs wd most a bf = some (0, a) := by
 unfold best
 rw [bestF, if_pos h]
theorem best_at (xs : List DItem) (wd most : Int) (a : Nat) (bf : Int) (h : a < xs.length) : best xs wd most a bf = chooseTo xs wd most (best xs wd most) a bf (xs.length - a) := by
 unfold best
 rw [bestF, if_neg (by omega)]
 refine chooseTo_congr xs wd most _ _ a bf _ (Nat.le_refl _) (fun b l hb => ?_)
 exact bestF_same xs wd most _ _ b l (by omega) (by omega)
theorem lineB_le {xs : List DItem} {a to : Nat} (h : lineB xs a to = true) : a ≤ to := by
 unfold lineB at h
 simp only [Bool.and_eq_true, decide_eq_true_eq] at h
 exact h.1.2.1
theorem lineC_some {xs : List DItem} {wd most : Int} {a to : Nat} {c lk : Int} (h : lineC xs wd most a to = some (c, lk)) :
  lineB xs a to = true ∧ 0 ≤ (setB (lineG xs a to) wd).1 ∧ (setB (lineG xs a to) wd).1 ≤ most ∧ c = costV (setB (lineG xs a to) wd).1 (it xs to).cost ∧ lk = looksV (setB (lineG xs a to) wd).2 (setB (lineG xs a to) wd).1 := by
 unfold lineC at h
 split at h
 ·rename_i h1
  split at h
  ·cases h
  ·rename_i h2
   simp only [Option.some.injEq, Prod.mk.injEq] at h
   exact ⟨h1, by omega, by omega, h.1.symm, h.2.symm⟩
 ·cases h
theorem sq_bd (x B : Int) (h1 : -B ≤ x) (h2 : x ≤ B) : 0 ≤ x * x ∧ x * x ≤ B * B := by
 by_cases h : 0 ≤ x
 ·exact ⟨Int.mul_nonneg h h, Int.mul_le_mul h2 h2 h (by omega)⟩
 ·have e : x * x = (-x) * (-x) := by rw [Int.neg_mul_neg]
  rw [e]
  exact ⟨Int.mul_nonneg (by omega) (by omega), Int.mul_le_mul (by omega) (by omega) (by omega) (by omega)⟩
theorem costV_bd {b c : Int} (h1 : 0 ≤ b) (h2 : b ≤ 10000) (h3 : -10000 ≤ c) (h4 : c ≤ 10000) : 0 ≤ costV b c ∧ costV b c ≤ 200200100 := by
 unfold costV
 have a := sq_bd (10 + b) 10010 (by omega) (by omega)
 have d := sq_bd c 10000 (by omega) (by omega)
 split <;> omega
theorem item_cost {x : DItem} (h : ItemOk x) : -10000 ≤ x.cost ∧ x.cost ≤ 10000 := by
 rcases h.2 with h | h | h
 ·obtain ⟨_, _, _, _, h, _⟩ := h; omega
 ·obtain ⟨_, h, _⟩ := h; omega
 ·obtain ⟨_, _, _, _, h⟩ := h; omega
theorem lineC_bd {xs : List DItem} (hx : ItemsOk xs) {wd most : Int} (hm : most ≤ 10000) {a to : Nat} (ht : to < xs.length) {c lk : Int} (h : lineC xs wd most a to = some (c, lk)) : 0 ≤ c ∧ c ≤ 200200100 ∧ 0 ≤ lk ∧ lk ≤ 3 ∧ a ≤ to := by
 obtain ⟨h1, h2, h3, rfl, rfl⟩ := lineC_some h
 have hc := item_cost (it_ok hx to ht)
 have := costV_bd h2 (by omega) hc.1 hc.2
 have := looksV_bd (setB (lineG xs a to) wd).2 (setB (lineG xs a to) wd).1
 exact ⟨by omega, by omega, by omega, by omega, lineB_le h1⟩
theorem between_bd (xs : List DItem) (a to : Nat) (bf lk : Int) : 0 ≤ between xs a to bf lk ∧ between xs a to bf lk ≤ 6000 := by
 unfold between
 split
 ·split <;> split <;> decide
 ·decide
theorem between_zero (xs : List DItem) (to : Nat) (bf lk : Int) : between xs 0 to bf lk = 0 := by unfold between; rw [if_neg (by omega)]
def GoodB (xs : List DItem) (wd most : Int) (T : Nat → Int → Option (Int × Nat)) (a : Nat) (bf : Int) (lo : Nat) (r : Option (Int × Nat)) : Prop :=
 ∀ m to, r = some (m, to) → lo ≤ to ∧ to < xs.length ∧ a ≤ to ∧ ∃ c lk q u, lineC xs wd most a to = some (c, lk) ∧ T (to + 1) lk = some (q, u) ∧ m = c + q + between xs a to bf lk
theorem stepB_good {xs : List DItem} {wd most : Int} {T : Nat → Int → Option (Int × Nat)} {a : Nat} {bf : Int} {lo : Nat} {acc : Option (Int × Nat)} {to : Nat} (ht : to < xs.length) (hlo : to ≤ lo) (h : GoodB xs wd most T a bf lo acc) : GoodB xs wd most T a bf to (stepB xs wd most T a bf acc to) := by
 intro m u hr
 unfold stepB at hr
 split at hr
 ·obtain ⟨h1, h2⟩ := h m u hr
  exact ⟨by omega, h2⟩
 ·rename_i c lk hl
  split at hr
  ·obtain ⟨h1, h2⟩ := h m u hr
   exact ⟨by omega, h2⟩
  ·rename_i q v hq
   have new : ∀ m u, some (c + q + between xs a to bf lk, to) = some (m, u) → to ≤ u ∧ u < xs.length ∧ a ≤ u ∧ ∃ c lk q v, lineC xs wd most a u = some (c, lk) ∧ T (u + 1) lk = some (q, v) ∧ m = c + q + between xs a u bf lk := by
    intro m u e
    simp only [Option.some.injEq, Prod.mk.injEq] at e
    obtain ⟨rfl, rfl⟩ := e
    exact ⟨Nat.le_refl _, ht, lineB_le (lineC_some hl).1, c, lk, q, v, hl, hq, rfl⟩
   split at hr
   ·exact new m u hr
   ·split at hr
    ·exact new m u hr
    ·obtain ⟨h1, h2⟩ := h m u hr
     exact ⟨by omega, h2⟩
theorem chooseTo_good (xs : List DItem) (wd most : Int) (T : Nat → Int → Option (Int × Nat)) (a : Nat) (bf : Int) : ∀ k, k ≤ xs.length → GoodB xs wd most T a bf (xs.length - k) (chooseTo xs wd most T a bf k)
 | 0, _ => fun m to h => by cases h
 | k + 1, hk => by
  have := stepB_good (to := xs.length - 1 - k) (by omega) (by omega) (chooseTo_good xs wd most T a bf k (by omega))
  rw [show xs.length - (k + 1) = xs.length - 1 - k by omega]
  exact this
theorem best_next {xs : List DItem} {wd most : Int} {a : Nat} {bf m : Int} {to : Nat} (ha : a < xs.length) (h : best xs wd most a bf = some (m, to)) :
  a ≤ to ∧ to < xs.length ∧ ∃ c lk q u, lineC xs wd most a to = some (c, lk) ∧ best xs wd most (to + 1) lk = some (q, u) ∧ m = c + q + between xs a to bf lk := by
 rw [best_at xs wd most a bf ha] at h
 obtain ⟨h1, h2, h3, h4⟩ := chooseTo_good xs wd most (best xs wd most) a bf (xs.length - a) (by omega) m to h
 exact ⟨h3, h2, h4⟩
theorem best_bd {xs : List DItem} (hx : ItemsOk xs) {wd most : Int} (hm : most ≤ 10000) : ∀ (f a : Nat) (bf m : Int) (to : Nat), xs.length - a ≤ f → best xs wd most a bf = some (m, to) → 0 ≤ m ∧ m ≤ 200300000 * (xs.length - a : Nat) := by
 intro f
 induction f with
 | zero =>
  intro a bf m to hf h
  rw [best_end xs wd most a bf (by omega)] at h
  cases h
  exact ⟨Int.le_refl _, by omega⟩
 | succ f ih =>
  intro a bf m to hf h
  by_cases ha : a < xs.length
  ·obtain ⟨h1, h2, c, lk, q, u, hl, hq, rfl⟩ := best_next ha h
   have b1 := lineC_bd hx hm h2 hl
   have b2 := between_bd xs a to bf lk
   have b3 := ih (to + 1) lk q u (by omega) hq
   omega
  ·rw [best_end xs wd most a bf (by omega)] at h
   cases h
   exact ⟨Int.le_refl _, by omega⟩
theorem chooseTo_zero (xs : List DItem) (wd most : Int) (T : Nat → Int → Option (Int × Nat)) (bf bf' : Int) : ∀ k, chooseTo xs wd most T 0 bf k = chooseTo xs wd most T 0 bf' k
 | 0 => rfl
 | k + 1 => by
  rw [chooseTo, chooseTo, chooseTo_zero xs wd most T bf bf' k]
  unfold stepB
  simp only [between_zero]
theorem best_zero (xs : List DItem) (wd most bf bf' : Int) : best xs wd most 0 bf = best xs wd most 0 bf' := by
 by_cases h : 0 < xs.length
 ·rw [best_at _ _ _ _ _ h, best_at _ _ _ _ _ h]
  exact chooseTo_zero _ _ _ _ _ _ _
 ·rw [best_end _ _ _ _ _ (by omega), best_end _ _ _ _ _ (by omega)]
def pathF (xs : List DItem) (wd most : Int) : Nat → Nat → Int → List Nat
 | 0, _, _ => []
 | f + 1, a, bf =>
  if xs.length ≤ a then [] else
  match best xs wd most a bf with
  | none => []
  | some (_, to) => to :: pathF xs wd most f (to + 1) (looksV (setB (lineG xs a to) wd).2 (setB (lineG xs a to) wd).1)
def path (xs : List DItem) (wd most : Int) (a : Nat) (bf : Int) : List Nat := pathF xs wd most (xs.length - a) a bf
theorem pathF_same (xs : List DItem) (wd most : Int) : ∀ (f g a : Nat) (bf : Int), xs.length - a ≤ f → xs.length - a ≤ g → pathF xs wd most f a bf = pathF xs wd most g a bf
 | 0, 0, a, _, _, _ => rfl
 | 0, g + 1, a, bf, h, _ => by rw [pathF, pathF, if_pos (by omega)]
 | f + 1, 0, a, bf, _, h => by rw [pathF, pathF, if_pos (by omega)]
 | f + 1, g + 1, a, bf, h1, h2 => by
  rw [pathF, pathF]
  by_cases ha : xs.length ≤ a
  ·rw [if_pos ha, if_pos ha]
  ·rw [if_neg ha, if_neg ha]
   cases hb : best xs wd most a bf with
   | none => rfl
   | some p =>
    obtain ⟨m, to⟩ := p
    have := best_next (by omega) hb
    simp only
    rw [pathF_same xs wd most f g (to + 1) _ (by omega) (by omega)]
theorem path_end (xs : List DItem) (wd most : Int) (a : Nat) (bf : Int) (h : xs.length ≤ a) : path xs wd most a bf = [] := by
 unfold path
 rw [show xs.length - a = 0 by omega]
 rfl
theorem path_at {xs : List DItem} {wd most : Int} {a : Nat} {bf m : Int} {to : Nat} (ha : a < xs.length) (h : best xs wd most a bf = some (m, to)) :
  path xs wd most a bf = to :: path xs wd most (to + 1) (looksV (setB (lineG xs a to) wd).2 (setB (lineG xs a to) wd).1) := by
 have hn := best_next ha h
 unfold path
 obtain ⟨f, hf⟩ : ∃ f, xs.length - a = f + 1 := ⟨xs.length - a - 1, by omega⟩
 rw [hf, pathF, if_neg (by omega), h]
 simp only
 rw [pathF_same xs wd most f (xs.length - (to + 1)) (to + 1) _ (by omega) (by omega)]
def bestBreaks (xs : List DItem) (wd most : Int) : Option (List Nat) := (best xs wd most 0 1).map fun _ => path xs wd most 0 1
end Go.Proofs.YtofnchdijanikaaGreatDoor
namespace Go.Proofs.YtofnchdijanikaaGreatDoor
def hyI : DItem := ⟨3, 3, 0, 0, 0, 50, true⟩
def boxI (w : Int) : DItem := ⟨1, w, 0, 0, 0, 0, false⟩
def gluI : DItem := ⟨2, 4, 3, 1, 0, 0, false⟩
def endI : List DItem := [⟨3, 0, 0, 0, 0, 10000, false⟩, ⟨2, 0, 1, 0, 1, 0, false⟩, ⟨3, 0, 0, 0, 0, -10000, false⟩]
def wordTo (ps : List (List UInt8)) : Nat → List DItem
 | 0 => []
 | k + 1 => wordTo ps k ++ ((if 0 < k then [hyI] else []) ++ [boxI (width (ps.getD k []))])
def wordI (ps : List (List UInt8)) : List DItem := wordTo ps ps.length
def paraTo (ws ps : List (List UInt8)) : Nat → List DItem
 | 0 => []
 | k + 1 => paraTo ws ps k ++ ((if 0 < k then [gluI] else []) ++ wordI (parts (ws.getD k []) ps))
def paraI (ws ps : List (List UInt8)) : List DItem := paraTo ws ps ws.length ++ endI
def textsTo (ws ps : List (List UInt8)) : Nat → List (List UInt8)
 | 0 => []
 | k + 1 => textsTo ws ps k ++ parts (ws.getD k []) ps
def texts (ws ps : List (List UInt8)) : List (List UInt8) := textsTo ws ps ws.length
def boxes (xs : List DItem) : Nat := (xs.filter fun x => decide (x.kind = 1)).length
theorem boxes_app (a b : List DItem) : boxes (a ++ b) = boxes a + boxes b := by unfold boxes; rw [List.filter_append, List.length_append]
theorem wordTo_boxes (ps : List (List UInt8)) : ∀ k, boxes (wordTo ps k) = k
 | 0 => rfl
 | k + 1 => by
  rw [wordTo, boxes_app, boxes_app, wordTo_boxes ps k]
  have : boxes (if 0 < k then [hyI] else []) = 0 := by split <;> rfl
  rw [this]
  rfl
theorem paraTo_boxes (ws ps : List (List UInt8)) : ∀ k, boxes (paraTo ws ps k) = (textsTo ws ps k).length
 | 0 => rfl
 | k + 1 => by
  rw [paraTo, textsTo, boxes_app, boxes_app, paraTo_boxes ws ps k, List.length_append]
  have : boxes (if 0 < k then [gluI] else []) = 0 := by split <;> rfl
  rw [this]
  unfold wordI
  rw [wordTo_boxes]
  omega
theorem paraI_boxes (ws ps : List (List UInt8)) : boxes (paraI ws ps) = (texts ws ps).length := by
 unfold paraI texts
 rw [boxes_app, paraTo_boxes]
 rfl
theorem wordTo_len (ps : List (List UInt8)) : ∀ k, (wordTo ps k).length ≤ 2 * k
 | 0 => Nat.le_refl _
 | k + 1 => by
  have := wordTo_len ps k
  rw [wordTo, List.length_append, List.length_append]
  split <;> simp <;> omega
theorem hyI_ok : ItemOk hyI := ⟨by unfold GlueOk hyI DItem.space; decide, .inr (.inr (by unfold hyI; decide))⟩
theorem gluI_ok : ItemOk gluI := ⟨by unfold GlueOk gluI DItem.space; decide, .inr (.inl (by unfold gluI; decide))⟩
theorem boxI_ok {w : Int} (h : 0 ≤ w ∧ w ≤ 1000) : ItemOk (boxI w) := ⟨⟨h.1, h.2, by show (0 : Int) ≤ 0; decide, by show (0 : Int) ≤ 1000; decide, by show (0 : Int) ≤ 0; decide, h.1, by show (0 : Int) ≤ 0; decide, by show (0 : Int) ≤ 1; decide⟩, .inl ⟨rfl, rfl, rfl, rfl, rfl, rfl⟩⟩
theorem endI_ok : ∀ x ∈ endI, ItemOk x := by
 intro x hx
 unfold endI at hx
 simp only [List.mem_cons, List.not_mem_nil, or_false] at hx
 rcases hx with rfl | rfl | rfl
 ·exact ⟨by unfold GlueOk DItem.space; decide, .inr (.inr (by decide))⟩
 ·exact ⟨by unfold GlueOk DItem.space; decide, .inr (.inl (by decide))⟩
 ·exact ⟨by unfold GlueOk DItem.space; decide, .inr (.inr (by decide))⟩
theorem wordTo_ok (ps : List (List UInt8)) (h : ∀ x ∈ ps, wordB x = true) : ∀ k, k ≤ ps.length → ∀ x ∈ wordTo ps k, ItemOk x
 | 0, _ => fun x hx => by cases hx
 | k + 1, hk => fun x hx => by
  rw [wordTo, List.mem_append, List.mem_append, List.mem_singleton] at hx
  rcases hx with hx | hx | rfl
  ·exact wordTo_ok ps h k (by omega) x hx
  ·split at hx
   ·rw [List.mem_singleton] at hx; rw [hx]; exact hyI_ok
   ·cases hx
  ·have e : ps.getD k [] = ps[k] := by simp [List.getD, show k < ps.length by omega]
   have := width_bd (h ps[k] (List.getElem_mem (by omega)))
   rw [e]
   exact boxI_ok (by omega)
theorem paraTo_ok (ws ps : List (List UInt8)) (h : ∀ x ∈ ws, wordB x = true) : ∀ k, k ≤ ws.length → ∀ x ∈ paraTo ws ps k, ItemOk x
 | 0, _ => fun x hx => by cases hx
 | k + 1, hk => fun x hx => by
  rw [paraTo, List.mem_append, List.mem_append] at hx
  have e : ws.getD k [] = ws[k] := by simp [List.getD, show k < ws.length by omega]
  rcases hx with hx | hx | hx
  ·exact paraTo_ok ws ps h k (by omega) x hx
  ·split at hx
   ·rw [List.mem_singleton] at hx; rw [hx]; exact gluI_ok
   ·cases hx
  ·refine wordTo_ok _ ?_ _ (Nat.le_refl _) x hx
   rw [e]
   exact (parts_good ps (h ws[k] (List.getElem_mem (by omega)))).1
theorem paraI_ok {ws ps : List (List UInt8)} (h : ∀ x ∈ ws, wordB x = true) (hl : (paraI ws ps).length ≤ 60) : ItemsOk (paraI ws ps) :=
 ⟨hl, fun x hx => by
  unfold paraI at hx
  rw [List.mem_append] at hx
  rcases hx with hx | hx
  ·exact paraTo_ok ws ps h _ (Nat.le_refl _) x hx
  ·exact endI_ok x hx⟩
theorem textsTo_ok (ws ps : List (List UInt8)) (h : ∀ x ∈ ws, wordB x = true) : ∀ k, k ≤ ws.length → ∀ x ∈ textsTo ws ps k, wordB x = true
 | 0, _ => fun x hx => by cases hx
 | k + 1, hk => fun x hx => by
  rw [textsTo, List.mem_append] at hx
  have e : ws.getD k [] = ws[k] := by simp [List.getD, show k < ws.length by omega]
  rcases hx with hx | hx
  ·exact textsTo_ok ws ps h k (by omega) x hx
  ·rw [e] at hx
   exact (parts_good ps (h ws[k] (List.getElem_mem (by omega)))).1 x hx
def boxNo (xs : List DItem) (n : Nat) : Nat := boxes (xs.take n)
theorem boxNo_succ (xs : List DItem) (n : Nat) (h : n < xs.length) : boxNo xs (n + 1) = if (it xs n).kind = 1 then boxNo xs n + 1 else boxNo xs n := by
 unfold boxNo
 rw [List.take_succ_eq_append_getElem h, boxes_app, it_lt xs n h]
 unfold boxes
 by_cases h1 : xs[n].kind = 1
 ·simp [h1]
 ·simp [h1]
theorem boxNo_le (xs : List DItem) (n : Nat) : boxNo xs n ≤ boxes xs := by
 unfold boxNo boxes
 exact ((List.take_sublist n xs).filter _).length_le
theorem boxNo_lt (xs : List DItem) (n : Nat) (h : n < xs.length) (hk : (it xs n).kind = 1) : boxNo xs n < boxes xs := by
 have a := boxNo_le xs (n + 1)
 rw [boxNo_succ xs n h, if_pos hk] at a
 omega
def spTo (xs : List DItem) (tx : List (List UInt8)) (a : Nat) : Nat → List UInt8
 | 0 => []
 | k + 1 =>
  if (it xs (a + k)).kind = 1 then spTo xs tx a k ++ tx.getD (boxNo xs (a + k)) []
  else if (it xs (a + k)).kind = 2 ∧ 0 < (it xs (a + k)).w ∧ spTo xs tx a k ≠ [] then spTo xs tx a k ++ [32] else spTo xs tx a k
def imTo (xs : List DItem) (tx : List (List UInt8)) (s : Nat) : Nat → List UInt8
 | 0 => []
 | k + 1 =>
  if (it xs (s + k)).kind = 1 then imTo xs tx s k ++ tx.getD (boxNo xs (s + k)) []
  else if (it xs (s + k)).kind ≠ 3 ∧ 0 < (it xs (s + k)).w then imTo xs tx s k ++ [32] else imTo xs tx s k
theorem spTo_skip (xs : List DItem) (tx : List (List UInt8)) (a : Nat) : ∀ k, (∀ j, j < k → skipI (it xs (a + j)) = true) → spTo xs tx a k = []
 | 0, _ => rfl
 | k + 1, h => by
  have ih := spTo_skip xs tx a k (fun j hj => h j (by omega))
  have hs := h k (by omega)
  unfold skipI at hs
  rw [Bool.and_eq_true] at hs
  have h1 : ¬ (it xs (a + k)).kind = 1 := by have := hs.1; simpa using this
  rw [spTo, if_neg h1, ih]
  simp
theorem spTo_imTo (xs : List DItem) (tx : List (List UInt8)) (a s : Nat) (has : a ≤ s) (hsk : spTo xs tx a (s - a) = []) (h1 : (it xs s).kind = 1) (htx : tx.getD (boxNo xs s) [] ≠ []) (hx : ∀ k, (it xs k).kind = 2 ∨ (it xs k).kind = 3 ∨ (it xs k).kind = 1 ∨ (it xs k).kind = 0) (hz : ∀ k, (it xs k).kind = 0 → (it xs k).w = 0) :
  ∀ k, spTo xs tx a (s - a + (k + 1)) = imTo xs tx s (k + 1) ∧ imTo xs tx s (k + 1) ≠ []
 | 0 => by
  have e : a + (s - a) = s := by omega
  have e1 : spTo xs tx a (s - a + (0 + 1)) = spTo xs tx a (s - a) ++ tx.getD (boxNo xs s) [] := by
   show spTo xs tx a (s - a + 1) = _
   rw [spTo, e, if_pos h1]
  have e2 : imTo xs tx s (0 + 1) = [] ++ tx.getD (boxNo xs s) [] := by
   show imTo xs tx s 1 = _
   rw [imTo, Nat.add_zero, if_pos h1]
   rfl
  rw [e1, e2, hsk]
  exact ⟨rfl, by simpa using htx⟩
 | k + 1 => by
  obtain ⟨ih1, ih2⟩ := spTo_imTo xs tx a s has hsk h1 htx hx hz k
  have e : a + (s - a + (k + 1)) = s + (k + 1) := by omega
  have e1 : spTo xs tx a (s - a + (k + 1 + 1)) = imTo xs tx s (k + 1 + 1) := by
   show spTo xs tx a (s - a + (k + 1) + 1) = _
   rw [spTo, e, imTo, ih1]
   by_cases hb : (it xs (s + (k + 1))).kind = 1
   ·rw [if_pos hb, if_pos hb]
   ·rw [if_neg hb, if_neg hb]
    by_cases hw : 0 < (it xs (s + (k + 1))).w
    ·rcases hx (s + (k + 1)) with h | h | h | h
     ·rw [if_pos ⟨h, hw, ih2⟩, if_pos ⟨by omega, hw⟩]
     ·rw [if_neg (fun hh => by omega), if_neg (fun hh => hh.1 h)]
     ·exact absurd h hb
     ·have := hz _ h; omega
    ·rw [if_neg (fun hh => hw hh.2.1), if_neg (fun hh => hw hh.2)]
  refine ⟨e1, ?_⟩
  rw [imTo]
  split
  ·intro h
   exact ih2 (List.append_eq_nil_iff.1 h).1
  ·split
   ·intro h
    exact ih2 (List.append_eq_nil_iff.1 h).1
   ·exact ih2
def lineT (xs : List DItem) (tx : List (List UInt8)) (a to : Nat) : List UInt8 := spTo xs tx a (to - a) ++ (if (it xs to).mark = true then [45] else [])
theorem it_kind {xs : List DItem} (h : ItemsOk xs) (k : Nat) : (it xs k).kind = 2 ∨ (it xs k).kind = 3 ∨ (it xs k).kind = 1 ∨ (it xs k).kind = 0 := by
 by_cases hk : k < xs.length
 ·rcases (it_ok h k hk).2 with h | h | h
  ·exact .inr (.inr (.inl h.1))
  ·exact .inl h.1
  ·exact .inr (.inl h.1)
 ·have : it xs k = noI := by simp [it, List.getD, List.getElem?_eq_none (by omega : xs.length ≤ k)]
  rw [this]
  exact .inr (.inr (.inr rfl))
theorem it_zero {xs : List DItem} (h : ItemsOk xs) (k : Nat) (hk0 : (it xs k).kind = 0) : (it xs k).w = 0 := by
 by_cases hk : k < xs.length
 ·rcases (it_ok h k hk).2 with h | h | h
  ·have := h.1; omega
  ·have := h.1; omega
  ·have := h.1; omega
 ·have : it xs k = noI := by simp [it, List.getD, List.getElem?_eq_none (by omega : xs.length ≤ k)]
  rw [this]
  rfl
theorem lineT_prog {xs : List DItem} {tx : List (List UInt8)} (h : ItemsOk xs) (htx : ∀ x ∈ tx, x ≠ []) (hb : boxes xs = tx.length) {a to : Nat} (ht : to < xs.length) (hl : lineB xs a to = true) :
  lineT xs tx a to = imTo xs tx (start xs a) (to - start xs a) ++ (if (it xs to).mark = true then [45] else []) := by
 unfold lineT
 congr 1
 unfold lineB at hl
 simp only [Bool.and_eq_true, decide_eq_true_eq] at hl
 obtain ⟨⟨_, h1, h2⟩, h3⟩ := hl
 have hle := start_le xs a
 have hsk : spTo xs tx a (start xs a - a) = [] := spTo_skip xs tx a _ (fun j hj => (start_skipped xs _ a rfl (a + j) (by omega) (by omega)).2)
 by_cases he : start xs a = to
 ·rw [he] at hsk
  rw [hsk, he, Nat.sub_self]
  rfl
 ·have hs : start xs a < xs.length := by omega
  have hst : ¬ (start xs a < xs.length ∧ skipI (it xs (start xs a)) = true) := by
   intro hc
   have e1 := start_skip xs (start xs a) hc.1 hc.2
   have e2 : start xs (start xs a) = start xs a := by
    have key : ∀ m b, start xs b - b = m → start xs (start xs b) = start xs b := by
     intro m
     induction m with
     | zero =>
      intro b hb0
      have := start_le xs b
      have e : start xs b = b := by omega
      rw [e]
      exact e
     | succ m ih =>
      intro b hb0
      by_cases hc2 : b < xs.length ∧ skipI (it xs b) = true
      ·rw [start_skip xs b hc2.1 hc2.2]
       refine ih (b + 1) ?_
       rw [start_skip xs b hc2.1 hc2.2] at hb0
       have := start_le xs (b + 1)
       omega
      ·rw [start_stop xs b hc2] at hb0
       omega
    exact key _ a rfl
   rw [e2] at e1
   have := start_le xs (start xs a + 1)
   omega
  have hns : skipI (it xs (start xs a)) = false := by
   cases hq : skipI (it xs (start xs a))
   ·rfl
   ·exact absurd ⟨hs, hq⟩ hst
  have hnf : isForced (it xs (start xs a)) = false := by
   unfold noForced at h3
   rw [all_range] at h3
   have := h3 (start xs a - a) (by omega)
   rw [show a + (start xs a - a) = start xs a by omega] at this
   simpa using this
  have hk1 : (it xs (start xs a)).kind = 1 := by
   unfold skipI at hns
   rw [hnf] at hns
   simpa using hns
  have hlt : boxNo xs (start xs a) < tx.length := by rw [← hb]; exact boxNo_lt xs _ hs hk1
  have hne : tx.getD (boxNo xs (start xs a)) [] ≠ [] := by
   have e : tx.getD (boxNo xs (start xs a)) [] = tx[boxNo xs (start xs a)] := by simp [List.getD, hlt]
   rw [e]
   exact htx _ (List.getElem_mem hlt)
  obtain ⟨k, hk⟩ : ∃ k, to - start xs a = k + 1 := ⟨to - start xs a - 1, by omega⟩
  have := (spTo_imTo xs tx a (start xs a) hle hsk hk1 hne (it_kind h) (it_zero h) k).1
  rw [hk, ← this]
  congr 1
  omega
def linesT (xs : List DItem) (tx : List (List UInt8)) : Nat → List Nat → List (List UInt8)
 | _, [] => []
 | a, to :: t => lineT xs tx a to :: linesT xs tx (to + 1) t
theorem linesT_len (xs : List DItem) (tx : List (List UInt8)) : ∀ (t : List Nat) (a : Nat), (linesT xs tx a t).length = t.length
 | [], _ => rfl
 | to :: t, a => by rw [linesT, List.length_cons, linesT_len xs tx t, List.length_cons]
def paraL (ws ps : List (List UInt8)) (wd most : Int) : Option (List (List UInt8)) :=
 if (paraI ws ps).length ≤ 60 then (bestBreaks (paraI ws ps) wd most).map (linesT (paraI ws ps) (texts ws ps) 0) else none
end Go.Proofs.YtofnchdijanikaaGreatDoor
namespace Go.Proofs.YtofnchdijanikaaGreatDoor
def pgC (ks : List Bool) (L a to : Nat) : Option Int :=
 if L < to - a then none else if to = ks.length then some 0 else if ks.getD (to - 1) false = true then none else some (((L : Int) - ((to : Int) - a)) * ((L : Int) - ((to : Int) - a)))
def pgN (ks : List Bool) (L : Nat) (T : Nat → Option (Int × Nat)) (a to : Nat) : Option Int :=
 match pgC ks L a to with
 | none => none
 | some c => match T to with
  | none => none
  | some (r, _) => some (c + r)
def pgDn (ks : List Bool) (L : Nat) (T : Nat → Option (Int × Nat)) (a : Nat) : Nat → Option (Int × Nat)
 | 0 => none
 | k + 1 =>
  match pgN ks L T a (ks.length - k) with
  | none => pgDn ks L T a k
  | some m => match pgDn ks L T a k with
   | none => some (m, ks.length - k)
   | some (q, u) => if m < q then some (m, ks.length - k) else some (q, u)
def pgUp (ks : List Bool) (L : Nat) (T : Nat → Option (Int × Nat)) (a : Nat) : Nat → Option (Int × Nat)
 | 0 => none
 | k + 1 =>
  match pgN ks L T a (a + 1 + k) with
  | none => pgUp ks L T a k
  | some m => match pgUp ks L T a k with
   | none => some (m, a + 1 + k)
   | some (q, u) => if m ≤ q then some (m, a + 1 + k) else some (q, u)
def PgIs (f : Nat → Option Int) (S : Nat → Prop) (r : Option (Int × Nat)) : Prop :=
 (r = none → ∀ t, S t → f t = none) ∧ (∀ m u, r = some (m, u) → S u ∧ f u = some m ∧ ∀ t q, S t → f t = some q → m ≤ q ∧ (q = m → t ≤ u))
theorem PgIs.uniq {f : Nat → Option Int} {S : Nat → Prop} {r s : Option (Int × Nat)} (h : PgIs f S r) (k : PgIs f S s) : r = s := by
 cases r with
 | none =>
  cases s with
  | none => rfl
  | some p =>
   obtain ⟨m, u⟩ := p
   obtain ⟨a, b, _⟩ := k.2 m u rfl
   rw [h.1 rfl u a] at b
   cases b
 | some p =>
  obtain ⟨m, u⟩ := p
  obtain ⟨a, b, c⟩ := h.2 m u rfl
  cases s with
  | none =>
   rw [k.1 rfl u a] at b
   cases b
  | some p' =>
   obtain ⟨q, v⟩ := p'
   obtain ⟨a', b', c'⟩ := k.2 q v rfl
   obtain ⟨x1, x2⟩ := c v q a' b'
   obtain ⟨y1, y2⟩ := c' u m a b
   have e : m = q := by omega
   have e2 : u = v := by have := x2 e.symm; have := y2 e; omega
   rw [e, e2]
theorem pgDn_is (ks : List Bool) (L : Nat) (T : Nat → Option (Int × Nat)) (a : Nat) : ∀ k, k ≤ ks.length → PgIs (pgN ks L T a) (fun t => ks.length - k < t ∧ t ≤ ks.length) (pgDn ks L T a k)
 | 0, _ => ⟨fun _ t h => by omega, fun m u h => by cases h⟩
 | k + 1, hk => by
  have ih := pgDn_is ks L T a k (by omega)
  have cases' : ∀ t, ks.length - (k + 1) < t ∧ t ≤ ks.length → t = ks.length - k ∨ (ks.length - k < t ∧ t ≤ ks.length) := fun t h => by omega
  rw [pgDn]
  cases hf : pgN ks L T a (ks.length - k) with
  | none =>
   simp only
   refine ⟨fun hr t ht => ?_, fun m u hr => ?_⟩
   ·rcases cases' t ht with rfl | h
    ·exact hf
    ·exact ih.1 hr t h
   ·obtain ⟨s1, s2, s3⟩ := ih.2 m u hr
    refine ⟨by omega, s2, fun t q ht hq => ?_⟩
    rcases cases' t ht with rfl | h
    ·rw [hf] at hq; cases hq
    ·exact s3 t q h hq
  | some m0 =>
   simp only
   cases hd : pgDn ks L T a k with
   | none =>
    simp only
    refine ⟨fun hr => (by cases hr), fun m u hr => ?_⟩
    simp only [Option.some.injEq, Prod.mk.injEq] at hr
    obtain ⟨rfl, rfl⟩ := hr
    refine ⟨by omega, hf, fun t q ht hq => ?_⟩
    rcases cases' t ht with rfl | h
    ·rw [hf] at hq
     cases hq
     exact ⟨Int.le_refl _, fun _ => Nat.le_refl _⟩
    ·rw [ih.1 hd t h] at hq
     cases hq
   | some p =>
    obtain ⟨q0, u0⟩ := p
    obtain ⟨s1, s2, s3⟩ := ih.2 q0 u0 hd
    simp only
    split
    ·rename_i hlt
     refine ⟨fun hr => (by cases hr), fun m u hr => ?_⟩
     simp only [Option.some.injEq, Prod.mk.injEq] at hr
     obtain ⟨rfl, rfl⟩ := hr
     refine ⟨by omega, hf, fun t q ht hq => ?_⟩
     rcases cases' t ht with rfl | h
     ·rw [hf] at hq
      cases hq
      exact ⟨Int.le_refl _, fun _ => Nat.le_refl _⟩
     ·have := s3 t q h hq
      exact ⟨by omega, fun e => by omega⟩
    ·rename_i hlt
     refine ⟨fun hr => (by cases hr), fun m u hr => ?_⟩
     simp only [Option.some.injEq, Prod.mk.injEq] at hr
     obtain ⟨rfl, rfl⟩ := hr
     refine ⟨by omega, s2, fun t q ht hq => ?_⟩
     rcases cases' t ht with rfl | h
     ·rw [hf] at hq
      cases hq
      exact ⟨by omega, fun _ => by omega⟩
     ·exact s3 t q h hq
theorem pgUp_is (ks : List Bool) (L : Nat) (T : Nat → Option (Int × Nat)) (a : Nat) : ∀ k, PgIs (pgN ks L T a) (fun t => a < t ∧ t ≤ a + k) (pgUp ks L T a k)
 | 0 => ⟨fun _ t h => by omega, fun m u h => by cases h⟩
 | k + 1 => by
  have ih := pgUp_is ks L T a k
  have cases' : ∀ t, a < t ∧ t ≤ a + (k + 1) → t = a + 1 + k ∨ (a < t ∧ t ≤ a + k) := fun t h => by omega
  rw [pgUp]
  cases hf : pgN ks L T a (a + 1 + k) with
  | none =>
   simp only
   refine ⟨fun hr t ht => ?_, fun m u hr => ?_⟩
   ·rcases cases' t ht with rfl | h
    ·exact hf
    ·exact ih.1 hr t h
   ·obtain ⟨s1, s2, s3⟩ := ih.2 m u hr
    refine ⟨by omega, s2, fun t q ht hq => ?_⟩
    rcases cases' t ht with rfl | h
    ·rw [hf] at hq; cases hq
    ·exact s3 t q h hq
  | some m0 =>
   simp only
   cases hd : pgUp ks L T a k with
   | none =>
    simp only
    refine ⟨fun hr => (by cases hr), fun m u hr => ?_⟩
    simp only [Option.some.injEq, Prod.mk.injEq] at hr
    obtain ⟨rfl, rfl⟩ := hr
    refine ⟨by omega, hf, fun t q ht hq => ?_⟩
    rcases cases' t ht with rfl | h
    ·rw [hf] at hq
     cases hq
     exact ⟨Int.le_refl _, fun _ => Nat.le_refl _⟩
    ·rw [ih.1 hd t h] at hq
     cases hq
   | some p =>
    obtain ⟨q0, u0⟩ := p
    obtain ⟨s1, s2, s3⟩ := ih.2 q0 u0 hd
    simp only
    split
    ·rename_i hlt
     refine ⟨fun hr => (by cases hr), fun m u hr => ?_⟩
     simp only [Option.some.injEq, Prod.mk.injEq] at hr
     obtain ⟨rfl, rfl⟩ := hr
     refine ⟨by omega, hf, fun t q ht hq => ?_⟩
     rcases cases' t ht with rfl | h
     ·rw [hf] at hq
      cases hq
      exact ⟨Int.le_refl _, fun _ => Nat.le_refl _⟩
     ·have := s3 t q h hq
      exact ⟨by omega, fun e => by omega⟩
    ·rename_i hlt
     refine ⟨fun hr => (by cases hr), fun m u hr => ?_⟩
     simp only [Option.some.injEq, Prod.mk.injEq] at hr
     obtain ⟨rfl, rfl⟩ := hr
     refine ⟨by omega, s2, fun t q ht hq => ?_⟩
     rcases cases' t ht with rfl | h
     ·rw [hf] at hq
      cases hq
      exact ⟨by omega, fun e => by omega⟩
     ·exact s3 t q h hq
theorem pgUp_dn (ks : List Bool) (L : Nat) (T : Nat → Option (Int × Nat)) (a : Nat) (h : a ≤ ks.length) : pgUp ks L T a (ks.length - a) = pgDn ks L T a (ks.length - a) := by
 refine PgIs.uniq (pgUp_is ks L T a _) ?_
 have := pgDn_is ks L T a (ks.length - a) (by omega)
 have e : (fun t => a < t ∧ t ≤ a + (ks.length - a)) = (fun t => ks.length - (ks.length - a) < t ∧ t ≤ ks.length) := by
  funext t
  apply propext
  omega
 rw [e]
 exact this
theorem pgUp_stop (ks : List Bool) (L : Nat) (T : Nat → Option (Int × Nat)) (a k : Nat) (h : L ≤ k) : ∀ d, pgUp ks L T a (k + d) = pgUp ks L T a k
 | 0 => rfl
 | d + 1 => by
  show pgUp ks L T a ((k + d) + 1) = _
  rw [pgUp]
  have : pgN ks L T a (a + 1 + (k + d)) = none := by
   unfold pgN pgC
   rw [if_pos (by omega)]
  rw [this]
  exact pgUp_stop ks L T a k h d
def pgF (ks : List Bool) (L : Nat) : Nat → Nat → Option (Int × Nat)
 | 0, _ => none
 | f + 1, a => if ks.length ≤ a then some (0, 0) else pgDn ks L (pgF ks L f) a (ks.length - a)
def pgB (ks : List Bool) (L a : Nat) : Option (Int × Nat) := pgF ks L (ks.length - a + 1) a
theorem pgN_congr (ks : List Bool) (L : Nat) (T U : Nat → Option (Int × Nat)) (a to : Nat) (h : T to = U to) : pgN ks L T a to = pgN ks L U a to := by
 unfold pgN
 rw [h]
theorem pgDn_congr (ks : List Bool) (L : Nat) (T U : Nat → Option (Int × Nat)) (a : Nat) : ∀ k, k ≤ ks.length - a → (∀ b, a < b → T b = U b) → pgDn ks L T a k = pgDn ks L U a k
 | 0, _, _ => rfl
 | k + 1, hk, h => by
  rw [pgDn, pgDn, pgDn_congr ks L T U a k (by omega) h, pgN_congr ks L T U a _ (h _ (by omega))]
theorem pgUp_congr (ks : List Bool) (L : Nat) (T U : Nat → Option (Int × Nat)) (a : Nat) : ∀ k, (∀ b, a < b → T b = U b) → pgUp ks L T a k = pgUp ks L U a k
 | 0, _ => rfl
 | k + 1, h => by
  rw [pgUp, pgUp, pgUp_congr ks L T U a k h, pgN_congr ks L T U a _ (h _ (by omega))]
theorem pgF_same (ks : List Bool) (L : Nat) : ∀ (f g a : Nat), ks.length - a + 1 ≤ f → ks.length - a + 1 ≤ g → pgF ks L f a = pgF ks L g a
 | 0, _, a, h, _ => by omega
 | f + 1, 0, a, _, h => by omega
 | f + 1, g + 1, a, h1, h2 => by
  rw [pgF, pgF]
  by_cases hn : ks.length ≤ a
  ·rw [if_pos hn, if_pos hn]
  ·rw [if_neg hn, if_neg hn]
   exact pgDn_congr ks L _ _ a _ (Nat.le_refl _) (fun b hb => pgF_same ks L f g b (by omega) (by omega))
theorem pgB_end (ks : List Bool) (L a : Nat) (h : ks.length ≤ a) : pgB ks L a = some (0, 0) := by
 unfold pgB
 rw [pgF, if_pos h]
theorem pgB_at (ks : List Bool) (L a : Nat) (h : a < ks.length) : pgB ks L a = pgDn ks L (pgB ks L) a (ks.length - a) := by
 unfold pgB
 rw [pgF, if_neg (by omega)]
 exact pgDn_congr ks L _ _ a _ (Nat.le_refl _) (fun b hb => pgF_same ks L _ _ b (by omega) (by omega))
theorem pgB_up (ks : List Bool) (L a : Nat) (h : a < ks.length) : pgB ks L a = pgUp ks L (pgB ks L) a (ks.length - a) := by
 rw [pgB_at ks L a h, pgUp_dn ks L _ a (by omega)]
theorem pgB_next {ks : List Bool} {L a u : Nat} {m : Int} (h : a < ks.length) (hb : pgB ks L a = some (m, u)) : a < u ∧ u ≤ ks.length ∧ u ≤ a + L ∧ pgN ks L (pgB ks L) a u = some m := by
 rw [pgB_at ks L a h] at hb
 obtain ⟨h1, h2, _⟩ := (pgDn_is ks L (pgB ks L) a (ks.length - a) (by omega)).2 m u hb
 refine ⟨by omega, h1.2, ?_, h2⟩
 have h3 := h2
 unfold pgN pgC at h3
 by_cases hL : L < u - a
 ·rw [if_pos hL] at h3
  cases h3
 ·omega
theorem pgC_bd {ks : List Bool} {L a to : Nat} {c : Int} (hL : L ≤ 1000) (ha : a ≤ to) (h : pgC ks L a to = some c) : 0 ≤ c ∧ c ≤ 1000000 := by
 unfold pgC at h
 split at h
 ·cases h
 ·rename_i h1
  split at h
  ·cases h; decide
  ·split at h
   ·cases h
   ·cases h
    exact ⟨(sq_bd _ 1000 (by omega) (by omega)).1, (sq_bd _ 1000 (by omega) (by omega)).2⟩
theorem pgB_bd {ks : List Bool} {L : Nat} (hL : L ≤ 1000) : ∀ (f a : Nat) (m : Int) (u : Nat), ks.length - a ≤ f → pgB ks L a = some (m, u) → 0 ≤ m ∧ m ≤ 1000000 * (ks.length - a : Nat) := by
 intro f
 induction f with
 | zero =>
  intro a m u hf h
  rw [pgB_end ks L a (by omega)] at h
  cases h
  exact ⟨Int.le_refl _, by omega⟩
 | succ f ih =>
  intro a m u hf h
  by_cases ha : a < ks.length
  ·obtain ⟨h1, h2, _, h3⟩ := pgB_next ha h
   unfold pgN at h3
   cases hc : pgC ks L a u with
   | none => rw [hc] at h3; cases h3
   | some c =>
    rw [hc] at h3
    simp only at h3
    cases hr : pgB ks L u with
    | none => rw [hr] at h3; cases h3
    | some p =>
     obtain ⟨r, v⟩ := p
     rw [hr] at h3
     simp only [Option.some.injEq] at h3
     have b1 := pgC_bd hL (by omega) hc
     have b2 := ih u r v (by omega) hr
     omega
  ·rw [pgB_end ks L a (by omega)] at h
   cases h
   exact ⟨Int.le_refl _, by omega⟩
def pgPF (ks : List Bool) (L : Nat) : Nat → Nat → List Nat
 | 0, _ => []
 | f + 1, a =>
  if ks.length ≤ a then [] else
  match pgB ks L a with
  | none => []
  | some (_, u) => u :: pgPF ks L f u
def pgP (ks : List Bool) (L a : Nat) : List Nat := pgPF ks L (ks.length - a) a
theorem pgPF_same (ks : List Bool) (L : Nat) : ∀ (f g a : Nat), ks.length - a ≤ f → ks.length - a ≤ g → pgPF ks L f a = pgPF ks L g a
 | 0, 0, a, _, _ => rfl
 | 0, g + 1, a, h, _ => by rw [pgPF, pgPF, if_pos (by omega)]
 | f + 1, 0, a, _, h => by rw [pgPF, pgPF, if_pos (by omega)]
 | f + 1, g + 1, a, h1, h2 => by
  rw [pgPF, pgPF]
  by_cases ha : ks.length ≤ a
  ·rw [if_pos ha, if_pos ha]
  ·rw [if_neg ha, if_neg ha]
   cases hb : pgB ks L a with
   | none => rfl
   | some p =>
    obtain ⟨m, u⟩ := p
    have := pgB_next (by omega) hb
    simp only
    rw [pgPF_same ks L f g u (by omega) (by omega)]
theorem pgP_end (ks : List Bool) (L a : Nat) (h : ks.length ≤ a) : pgP ks L a = [] := by
 unfold pgP
 rw [show ks.length - a = 0 by omega]
 rfl
theorem pgP_at {ks : List Bool} {L a u : Nat} {m : Int} (ha : a < ks.length) (h : pgB ks L a = some (m, u)) : pgP ks L a = u :: pgP ks L u := by
 have hn := pgB_next ha h
 unfold pgP
 obtain ⟨f, hf⟩ : ∃ f, ks.length - a = f + 1 := ⟨ks.length - a - 1, by omega⟩
 rw [hf, pgPF, if_neg (by omega), h]
 simp only
 rw [pgPF_same ks L f (ks.length - u) u (by omega) (by omega)]
def bestP (ks : List Bool) (L : Nat) : Option (List Nat) := (pgB ks L 0).map fun _ => pgP ks L 0
theorem pgB_some {ks : List Bool} {L a u : Nat} {m : Int} (ha : a < ks.length) (h : pgB ks L a = some (m, u)) : ∃ r v, pgB ks L u = some (r, v) := by
 obtain ⟨_, _, _, h3⟩ := pgB_next ha h
 unfold pgN at h3
 cases hc : pgC ks L a u with
 | none => rw [hc] at h3; cases h3
 | some c =>
  rw [hc] at h3
  simp only at h3
  cases hr : pgB ks L u with
  | none => rw [hr] at h3; cases h3
  | some p => exact ⟨p.1, p.2, rfl⟩
def Ends (n : Nat) : Nat → List Nat → Prop
 | a, [] => a = n
 | a, u :: t => a < u ∧ u ≤ n ∧ Ends n u t
theorem pgP_ends {ks : List Bool} {L : Nat} : ∀ (f a : Nat), ks.length - a ≤ f → a ≤ ks.length → (∃ m u, pgB ks L a = some (m, u)) → Ends ks.length a (pgP ks L a) ∧ (pgP ks L a).length ≤ ks.length - a := by
 intro f
 induction f with
 | zero =>
  intro a hf ha h
  rw [pgP_end ks L a (by omega)]
  exact ⟨by show a = _; omega, Nat.zero_le _⟩
 | succ f ih =>
  intro a hf ha h
  by_cases hlt : a < ks.length
  ·obtain ⟨m, u, h⟩ := h
   obtain ⟨h1, h2, _, _⟩ := pgB_next hlt h
   obtain ⟨e1, e2⟩ := ih u (by omega) h2 (pgB_some hlt h)
   rw [pgP_at hlt h]
   exact ⟨⟨h1, h2, e1⟩, by simp only [List.length_cons]; omega⟩
  ·rw [pgP_end ks L a (by omega)]
   exact ⟨by show a = _; omega, Nat.zero_le _⟩
def keep1 (n i : Nat) : Bool := (decide (i = 0) && decide (2 ≤ n)) || (decide (i + 2 = n) && decide (3 ≤ n))
def keepN (n : Nat) : List Bool := (List.range n).map (keep1 n)
def keeps : List Nat → List Bool
 | [] => []
 | n :: t => keepN n ++ keeps t
theorem keepN_len (n : Nat) : (keepN n).length = n := by simp [keepN]
def sumN : List Nat → Nat
 | [] => 0
 | n :: t => n + sumN t
theorem keeps_len : ∀ l, (keeps l).length = sumN l
 | [] => rfl
 | n :: t => by rw [keeps, List.length_append, keepN_len, keeps_len t, sumN]
theorem keeps_snoc (n : Nat) : ∀ l, keeps (l ++ [n]) = keeps l ++ keepN n
 | [] => by simp [keeps]
 | m :: t => by rw [List.cons_append, keeps, keeps_snoc n t, keeps, List.append_assoc]
theorem sumN_snoc (n : Nat) : ∀ l, sumN (l ++ [n]) = sumN l + n
 | [] => by simp [sumN]
 | m :: t => by rw [List.cons_append, sumN, sumN_snoc n t, sumN]; omega
theorem sumN_take_le : ∀ (l : List Nat) (k : Nat), sumN (l.take k) ≤ sumN l
 | [], k => by simp [sumN]
 | n :: t, 0 => by simp [sumN]
 | n :: t, k + 1 => by
  have := sumN_take_le t k
  rw [List.take_succ_cons, sumN, sumN]
  omega
end Go.Proofs.YtofnchdijanikaaGreatDoor
namespace Go.Proofs.YtofnchdijanikaaGreatDoor
structure DBook where
 pars : List (List (List UInt8))
 pats : List (List UInt8)
 w : Int
 most : Int
 lines : Int
def parB (p : List (List UInt8)) : Bool := wordsB p && !decide (p.length = 0)
def bookB (b : DBook) : Bool := b.pars.all parB && (decide (b.pars.length ≤ 6) && patsB b.pats && inB b.w 0 1000 && inB b.most 0 10000 && inB b.lines 1 30)
structure BookOk (b : DBook) : Prop where
 pars : ∀ p ∈ b.pars, parB p = true
 six : b.pars.length ≤ 6
 pats : patsB b.pats = true
 w : 0 ≤ b.w ∧ b.w ≤ 1000
 most : 0 ≤ b.most ∧ b.most ≤ 10000
 lines : 1 ≤ b.lines ∧ b.lines ≤ 30
theorem bookB_true {b : DBook} (h : bookB b = true) : BookOk b := by
 unfold bookB at h
 simp only [Bool.and_eq_true, decide_eq_true_eq] at h
 obtain ⟨h1, ⟨⟨⟨h2, h3⟩, h4⟩, h5⟩, h6⟩ := h
 exact ⟨fun p hp => List.all_eq_true.1 h1 p hp, h2, h3, inB_true h4, inB_true h5, inB_true h6⟩
theorem parB_words {p : List (List UInt8)} (h : parB p = true) : (∀ x ∈ p, wordB x = true) ∧ p.length ≤ 12 ∧ 0 < p.length := by
 unfold parB wordsB at h
 simp only [Bool.and_eq_true, decide_eq_true_eq, Bool.not_eq_true', decide_eq_false_iff_not] at h
 exact ⟨fun x hx => List.all_eq_true.1 h.1.1 x hx, h.1.2, by omega⟩
def bookTo (b : DBook) : Nat → Option (List (List (List UInt8)))
 | 0 => some []
 | k + 1 =>
  match bookTo b k with
  | none => none
  | some acc =>
   match paraL (b.pars.getD k []) b.pats b.w b.most with
   | none => none
   | some l => some (acc ++ [l])
def bookL (b : DBook) : Option (List (List (List UInt8))) := bookTo b b.pars.length
theorem bookTo_none {b : DBook} {k : Nat} (h : bookTo b k = none) : ∀ d, bookTo b (k + d) = none
 | 0 => h
 | d + 1 => by
  show bookTo b ((k + d) + 1) = none
  rw [bookTo, bookTo_none h d]
theorem bookTo_bad {b : DBook} {k : Nat} (hk : k < b.pars.length) (h : paraL (b.pars.getD k []) b.pats b.w b.most = none) : bookL b = none := by
 have h1 : bookTo b (k + 1) = none := by
  rw [bookTo]
  split
  ·rfl
  ·rw [h]
 have := bookTo_none h1 (b.pars.length - (k + 1))
 unfold bookL
 rw [show b.pars.length = k + 1 + (b.pars.length - (k + 1)) by omega]
 exact this
theorem bookTo_good {b : DBook} {k : Nat} {acc : List (List (List UInt8))} {l : List (List UInt8)} (h : bookTo b k = some acc) (hl : paraL (b.pars.getD k []) b.pats b.w b.most = some l) : bookTo b (k + 1) = some (acc ++ [l]) := by
 rw [bookTo, h]
 simp only
 rw [hl]
theorem path_len (xs : List DItem) (wd most : Int) : ∀ (f a : Nat) (bf : Int), (pathF xs wd most f a bf).length ≤ f
 | 0, _, _ => Nat.le_refl _
 | f + 1, a, bf => by
  rw [pathF]
  split
  ·exact Nat.zero_le _
  ·split
   ·exact Nat.zero_le _
   ·have := path_len xs wd most f
    simp only [List.length_cons]
    have := this
    exact Nat.succ_le_succ (this _ _)
theorem paraI_pos (ws ps : List (List UInt8)) : 3 ≤ (paraI ws ps).length := by
 unfold paraI
 rw [List.length_append]
 have : endI.length = 3 := rfl
 omega
theorem paraL_len {ws ps : List (List UInt8)} {wd most : Int} {l : List (List UInt8)} (h : paraL ws ps wd most = some l) : 1 ≤ l.length ∧ l.length ≤ 60 := by
 unfold paraL at h
 split at h
 ·rename_i h60
  unfold bestBreaks at h
  rw [Option.map_map] at h
  cases hb : best (paraI ws ps) wd most 0 1 with
  | none => rw [hb] at h; cases h
  | some p =>
   obtain ⟨m, to⟩ := p
   rw [hb] at h
   simp only [Option.map_some, Function.comp, Option.some.injEq] at h
   rw [← h, linesT_len]
   have h3 := paraI_pos ws ps
   have e := path_at (xs := paraI ws ps) (wd := wd) (most := most) (a := 0) (bf := 1) (by omega) hb
   constructor
   ·rw [e]; simp
   ·unfold path
    have := path_len (paraI ws ps) wd most ((paraI ws ps).length - 0) 0 1
    omega
 ·cases h
def counts (ls : List (List (List UInt8))) : List Nat := ls.map List.length
theorem bookTo_len {b : DBook} : ∀ (k : Nat) (acc : List (List (List UInt8))), bookTo b k = some acc → acc.length = k ∧ (∀ l ∈ acc, 1 ≤ l.length ∧ l.length ≤ 60) ∧ acc.flatten.length = sumN (counts acc) ∧ acc.flatten.length ≤ 60 * k
 | 0, acc, h => by cases h; exact ⟨rfl, fun l hl => (by cases hl), rfl, Nat.le_refl _⟩
 | k + 1, acc, h => by
  rw [bookTo] at h
  cases hk : bookTo b k with
  | none => rw [hk] at h; cases h
  | some q =>
   rw [hk] at h
   simp only at h
   cases hl : paraL (b.pars.getD k []) b.pats b.w b.most with
   | none => rw [hl] at h; cases h
   | some l =>
    rw [hl] at h
    simp only [Option.some.injEq] at h
    subst h
    obtain ⟨a1, a2, a3, a4⟩ := bookTo_len k q hk
    have := paraL_len hl
    refine ⟨by simp [a1], fun x hx => ?_, ?_, ?_⟩
    ·rw [List.mem_append, List.mem_singleton] at hx
     rcases hx with hx | rfl
     ·exact a2 x hx
     ·exact this
    ·unfold counts
     rw [List.flatten_append, List.length_append, a3, List.map_append, List.map_cons, List.map_nil, sumN_snoc]
     simp [counts]
    ·rw [List.flatten_append, List.length_append]
     simp only [List.flatten_cons, List.flatten_nil, List.append_nil]
     omega
def cutP (l : List (List UInt8)) : Nat → List Nat → List (List (List UInt8))
 | _, [] => []
 | a, u :: t => (l.drop a).take (u - a) :: cutP l u t
theorem cutP_len (l : List (List UInt8)) : ∀ (t : List Nat) (a : Nat), (cutP l a t).length = t.length
 | [], _ => rfl
 | u :: t, a => by rw [cutP, List.length_cons, cutP_len l t, List.length_cons]
def bookP (b : DBook) : Option (List (List (List UInt8))) :=
 match bookL b with
 | none => none
 | some ls =>
  if ls.flatten.length ≤ 30 then
   match bestP (keeps (counts ls)) b.lines.toNat with
   | none => none
   | some t => some (cutP ls.flatten 0 t)
  else none
theorem spTo_len (xs : List DItem) (tx : List (List UInt8)) (h : ∀ x ∈ tx, x.length ≤ 20) (a : Nat) : ∀ k, (spTo xs tx a k).length ≤ 20 * k
 | 0 => Nat.le_refl _
 | k + 1 => by
  have ih := spTo_len xs tx h a k
  have hx : (tx.getD (boxNo xs (a + k)) []).length ≤ 20 := by
   by_cases hb : boxNo xs (a + k) < tx.length
   ·have e : tx.getD (boxNo xs (a + k)) [] = tx[boxNo xs (a + k)] := by simp [List.getD, hb]
    rw [e]
    exact h _ (List.getElem_mem hb)
   ·have e : tx.getD (boxNo xs (a + k)) [] = [] := by simp [List.getD, List.getElem?_eq_none (by omega : tx.length ≤ boxNo xs (a + k))]
    rw [e]
    exact Nat.zero_le _
  rw [spTo]
  split
  ·rw [List.length_append]; omega
  ·split
   ·rw [List.length_append]; simp; omega
   ·omega
theorem lineT_len (xs : List DItem) (tx : List (List UInt8)) (h : ∀ x ∈ tx, x.length ≤ 20) (a to : Nat) (ht : to ≤ 60) : (lineT xs tx a to).length ≤ 1201 := by
 have := spTo_len xs tx h a (to - a)
 unfold lineT
 rw [List.length_append]
 split
 ·simp; omega
 ·simp; omega
theorem linesT_mem (xs : List DItem) (tx : List (List UInt8)) (h : ∀ x ∈ tx, x.length ≤ 20) : ∀ (t : List Nat) (a : Nat), (∀ u ∈ t, u ≤ 60) → ∀ l ∈ linesT xs tx a t, l.length ≤ 1201
 | [], _, _, l, hl => by cases hl
 | u :: t, a, hu, l, hl => by
  rw [linesT, List.mem_cons] at hl
  rcases hl with rfl | hl
  ·exact lineT_len xs tx h a u (hu u (by simp))
  ·exact linesT_mem xs tx h t (u + 1) (fun v hv => hu v (List.mem_cons_of_mem _ hv)) l hl
theorem path_mem (xs : List DItem) (wd most : Int) : ∀ (f a : Nat) (bf : Int), ∀ u ∈ pathF xs wd most f a bf, u < xs.length
 | 0, _, _, u, h => by cases h
 | f + 1, a, bf, u, h => by
  rw [pathF] at h
  split at h
  ·cases h
  ·split at h
   ·cases h
   ·rename_i hb
    have := best_next (by omega) hb
    rw [List.mem_cons] at h
    rcases h with rfl | h
    ·exact this.2.1
    ·exact path_mem xs wd most f _ _ u h
theorem texts_short {ws ps : List (List UInt8)} (hw : ∀ x ∈ ws, wordB x = true) : ∀ x ∈ texts ws ps, x.length ≤ 20 ∧ x ≠ [] := by
 intro x hx
 have := wordB_true (textsTo_ok ws ps hw _ (Nat.le_refl _) x hx)
 exact ⟨this.2.2, fun e => by rw [e] at this; have := this.2.1; simp at this⟩
theorem paraL_short {ws ps : List (List UInt8)} {wd most : Int} {l : List (List UInt8)} (hw : ∀ x ∈ ws, wordB x = true) (h : paraL ws ps wd most = some l) : ∀ x ∈ l, x.length ≤ 1201 := by
 unfold paraL at h
 split at h
 ·rename_i h60
  unfold bestBreaks at h
  rw [Option.map_map] at h
  cases hb : best (paraI ws ps) wd most 0 1 with
  | none => rw [hb] at h; cases h
  | some p =>
   rw [hb] at h
   simp only [Option.map_some, Function.comp, Option.some.injEq] at h
   rw [← h]
   refine linesT_mem _ _ (fun x hx => (texts_short hw x hx).1) _ _ (fun u hu => ?_)
   have := path_mem _ _ _ _ _ _ u hu
   omega
 ·cases h
theorem bookTo_short {b : DBook} (hp : ∀ p ∈ b.pars, parB p = true) : ∀ (k : Nat) (acc : List (List (List UInt8))), k ≤ b.pars.length → bookTo b k = some acc → ∀ x ∈ acc.flatten, x.length ≤ 1201
 | 0, acc, _, h => by cases h; intro x hx; cases hx
 | k + 1, acc, hkl, h => by
  rw [bookTo] at h
  cases hk : bookTo b k with
  | none => rw [hk] at h; cases h
  | some q =>
   rw [hk] at h
   simp only at h
   cases hl : paraL (b.pars.getD k []) b.pats b.w b.most with
   | none => rw [hl] at h; cases h
   | some l =>
    rw [hl] at h
    simp only [Option.some.injEq] at h
    subst h
    intro x hx
    rw [List.flatten_append, List.mem_append] at hx
    rcases hx with hx | hx
    ·exact bookTo_short hp k q (by omega) hk x hx
    ·have e : b.pars.getD k [] = b.pars[k] := by simp [List.getD, show k < b.pars.length by omega]
     rw [e] at hl
     refine paraL_short (parB_words (hp _ (List.getElem_mem (by omega)))).1 hl x ?_
     simpa using hx
end Go.Proofs.YtofnchdijanikaaGreatDoor

/-
  PROVED HERE: a region whose operations come in whatever order their edges allow is met by one assertion for each operation, where every operation keeps the assertions of the others. Conditions: those of the theorem.
-/
import Derived.Orders
import Derived.WalkKit
import Derived.KernelRfl
set_option linter.unusedVariables false
set_option linter.unusedSimpArgs false
namespace Go.Proofs.Ytgbbodmggbeflaa

/-- How many of the first n are not listed. -/
def openB (listed : Array Bool) (n : Nat) : Nat := ((List.range n).filter fun i => !listed.getD i false).length

theorem filter_lt {p q : Nat → Bool} (hpq : ∀ i, q i = true → p i = true) : ∀ (l : List Nat), (∃ i ∈ l, p i = true ∧ q i = false) → (l.filter q).length < (l.filter p).length
  | [], h => by obtain ⟨_, hm, _⟩ := h; cases hm
  | x :: l, h => by
    obtain ⟨i, hm, hp, hq⟩ := h
    have hle : (l.filter q).length ≤ (l.filter p).length := by
      clear hm
      induction l with
      | nil => simp
      | cons y l ih =>
        simp only [List.filter_cons]
        by_cases h1 : q y = true
        · simp [h1, hpq y h1, ih]
        · by_cases h2 : p y = true
          · simp [h1, h2]; omega
          · simp [h1, h2, ih]
    simp only [List.filter_cons]
    rcases List.mem_cons.1 hm with rfl | hm
    · simp [hp, hq]; omega
    · have ih := filter_lt hpq l ⟨i, hm, hp, hq⟩
      by_cases h1 : q x = true
      · simp [h1, hpq x h1, ih]
      · by_cases h2 : p x = true
        · simp [h1, h2]; omega
        · simp [h1, h2, ih]

theorem openB_set {listed : Array Bool} {n i : Nat} (hi : i < n) (hs : listed.size = n) (hf : listed.getD i true = false) : openB (listed.setIfInBounds i true) n < openB listed n := by
  unfold openB
  refine filter_lt (fun j hj => ?_) _ ⟨i, List.mem_range.2 hi, ?_, ?_⟩
  · simp only [Array.getD_eq_getD_getElem?, Array.getElem?_setIfInBounds] at hj ⊢
    by_cases hij : i = j
    · subst hij; simp [hs, hi] at hj
    · simpa [hij] using hj
  · simp only [Array.getD_eq_getD_getElem?] at hf ⊢
    rw [Array.getElem?_eq_getElem (by omega)] at hf ⊢
    simpa using hf
  · simp [Array.getD_eq_getD_getElem?, hs, hi]

theorem openB_zero {listed : Array Bool} {n : Nat} (h : openB listed n = 0) : ∀ i, i < n → listed.getD i false = true := by
  intro i hi
  unfold openB at h
  have h2 := List.eq_nil_of_length_eq_zero h
  rw [List.filter_eq_nil_iff] at h2
  simpa using h2 i (List.mem_range.2 hi)

theorem openB_start (n : Nat) : openB (Array.replicate n false) n ≤ n := by
  unfold openB
  exact Nat.le_trans (List.length_filter_le _ _) (by simp)

section
variable {P : Program} {ops : Array Oper} {Q : Exit → Act → World → Prop}

/-- The frame at any time in the region: what no operation writes is as it was. -/
def Framed (dst : Nat → Nat) (n : Nat) (a0 a : Act) : Prop := a.tmps.size = a0.tmps.size ∧ a.defers = a0.defers ∧ ∀ t, (∀ i, i < n → dst i ≠ t) → a.tmps[t]? = a0.tmps[t]?

theorem Framed.put {dst : Nat → Nat} {n : Nat} {a0 a : Act} (h : Framed dst n a0 a) {i : Nat} (hi : i < n) (v : Value) : Framed dst n a0 (a.put (some (dst i)) v) := by
  refine ⟨by simpa [Act.put] using h.1, by simpa [Act.put] using h.2.1, fun t ht => ?_⟩
  rw [← h.2.2 t ht]
  simp only [Act.put]
  rw [Array.getElem?_setIfInBounds]
  simp [ht i hi]

theorem ready_mem {md : Region.Mode} {listed : Array Bool} {i : Nat} (h : i ∈ Region.ready md ops listed) :
    i < ops.size ∧ listed.getD i true = false ∧ ∀ o, ops[i]? = some o → ∀ e ∈ o.after, Region.binds md e = true → listed.getD e.on false = true := by
  unfold Region.ready at h
  rw [List.mem_filter] at h
  obtain ⟨h1, h2⟩ := h
  simp only [Bool.and_eq_true, Bool.not_eq_true'] at h2
  refine ⟨List.mem_range.1 h1, h2.1, fun o ho e he hb => ?_⟩
  have h3 := h2.2
  rw [ho] at h3
  simp only [Option.map_some, Option.getD_some] at h3
  have h4 := (Array.all_eq_true'.1 h3) e he
  rw [hb] at h4
  simpa using h4

/-- Where nothing may come up all has come up: the least that has not would be ready. -/
theorem ready_nil {listed : Array Bool} {n : Nat} (hn : ops.size = n) (hs : listed.size = n) (hlow : ∀ (i : Nat) (o : Oper), ops[i]? = some o → ∀ e ∈ o.after, Region.binds .any e = true → Edge.on e < i) (h : Region.ready .any ops listed = []) :
    ∀ i, i < n → listed.getD i false = true := by
  intro i
  induction i using Nat.strongRecOn with
  | ind i ih =>
    intro hi
    by_cases hf : listed.getD i false = true
    · exact hf
    · exfalso
      have hm : i ∈ Region.ready .any ops listed := by
        unfold Region.ready
        rw [List.mem_filter]
        refine ⟨List.mem_range.2 (by omega), ?_⟩
        have ho : ops[i]? = some ops[i] := Array.getElem?_eq_getElem (by omega)
        rw [ho]
        simp only [Option.map_some, Option.getD_some, Bool.and_eq_true, Bool.not_eq_true']
        refine ⟨?_, Array.all_eq_true'.2 fun e he => ?_⟩
        · simp only [Array.getD_eq_getD_getElem?] at hf ⊢
          rw [Array.getElem?_eq_getElem (by omega)] at hf ⊢
          simpa using hf
        · cases hb : Region.binds .any e
          · simp
          · have hlt := hlow i _ ho e he hb
            simp [ih e.on hlt (by omega)]
      rw [h] at hm
      cases hm

theorem wpOp_of {o : Oper} {i : Nat} {K : Act → World → Prop} {a : Act} {w : World} (ho : ops[i]? = some o) (hg : o.guard = none) (h : o.wp P a w K Q) : wpOp P ops Q i K a w := by
  unfold wpOp
  simp only [ho]
  rw [if_pos (by simp [Region.wanted, hg])]
  exact .inl h

theorem region_inv {id : Nat} (hm : P.follows .mixedOrders = true) (a0 : Act) (w0 : World) (n : Nat) (hn : ops.size = n)
    (I : Nat → World → Prop) (A : Nat → Value → World → Prop) (R : World → World → Prop)
    (hR : ∀ j v w w', R w w' → A j v w → A j v w')
    (dst : Nat → Nat) (hinj : ∀ i, i < n → ∀ j, j < n → dst i = dst j → i = j) (hsz : ∀ i, i < n → dst i < a0.tmps.size)
    (hlow : ∀ (i : Nat) (o : Oper), ops[i]? = some o → ∀ e ∈ o.after, Region.binds .any e = true → Edge.on e < i)
    (hmono : ∀ c w, c ≤ n → I c w → I n w)
    (hst : ∀ (c i : Nat) (o : Oper) (a : Act) (w : World), c < n → ops[i]? = some o → Framed dst n a0 a → I c w → (∀ e ∈ o.after, Region.binds .any e = true → A e.on (a.tmps.getD (dst e.on) undef) w) →
      wpOp P ops Q i (fun a' w' => ∃ v, a' = a.put (some (dst i)) v ∧ A i v w' ∧ R w w' ∧ I (c + 1) w') a w)
    (h0 : I 0 w0.drew)
    (hend : ∀ a w, Framed dst n a0 a → I n w → (∀ i, i < n → A i (a.tmps.getD (dst i) undef) w) → Q .normal a w) :
    (Code.region id ops true).wp P Q a0 w0 := by
  refine wp_region_any hm ?_
  rw [hn]
  have key : ∀ (f c : Nat) (listed : Array Bool) (a : Act) (w : World), f + c = n → listed.size = n → openB listed n ≤ f → Framed dst n a0 a → I c w →
      (∀ i, i < n → listed.getD i false = true → A i (a.tmps.getD (dst i) undef) w) → wpAny P .any ops Q f listed a w := by
    intro f
    induction f with
    | zero =>
      intro c listed a w hc hs ho hF hI hA
      have hall := openB_zero (Nat.le_zero.1 ho)
      refine ⟨?_, hend a w hF (hmono c w (by omega) hI) (fun i hi => hA i hi (hall i hi))⟩
      unfold Region.ready
      rw [List.filter_eq_nil_iff]
      intro i hi hcon
      simp only [Bool.and_eq_true, Bool.not_eq_true'] at hcon
      have hi' : i < n := by have := List.mem_range.1 hi; omega
      have h1 := hall i hi'
      have h2 := hcon.1
      simp only [Array.getD_eq_getD_getElem?] at h1 h2
      rw [Array.getElem?_eq_getElem (by omega)] at h1 h2
      simp at h1 h2
      rw [h1] at h2
      cases h2
    | succ f ih =>
      intro c listed a w hc hs ho hF hI hA
      refine ⟨fun hnil => hend a w hF (hmono c w (by omega) hI) (fun i hi => hA i hi (ready_nil hn hs hlow hnil i hi)), fun i hi => ?_⟩
      obtain ⟨h1, h2, h3⟩ := ready_mem hi
      have hop : ops[i]? = some ops[i] := Array.getElem?_eq_getElem h1
      have hi' : i < n := by omega
      refine wpOp_mono ?_ (hst c i ops[i] a w (by omega) hop hF hI (fun e he hb => hA e.on (by have := hlow i _ hop e he hb; omega) (h3 _ hop e he hb)))
      rintro a' w' ⟨v, rfl, hAi, hRw, hI'⟩
      have hd := hsz i hi'
      refine ih (c + 1) _ _ w' (by omega) (by simpa using hs) (by have := openB_set hi' hs h2; omega) (hF.put hi' v) hI' (fun j hj hl => ?_)
      by_cases hij : i = j
      · subst hij
        have e : (a.put (some (dst i)) v).tmps.getD (dst i) undef = v := by
          simp only [Act.put, Array.getD_eq_getD_getElem?]
          rw [Array.getElem?_setIfInBounds]
          simp [hF.1, hd]
        rw [e]
        exact hAi
      · have e : (a.put (some (dst i)) v).tmps.getD (dst j) undef = a.tmps.getD (dst j) undef := by
          simp only [Act.put, Array.getD_eq_getD_getElem?]
          rw [Array.getElem?_setIfInBounds]
          rw [if_neg (fun e => hij (hinj i hi' j hj e))]
        rw [e]
        refine hR j _ _ _ hRw (hA j hj ?_)
        simp only [Array.getD_eq_getD_getElem?] at hl ⊢
        rw [Array.getElem?_setIfInBounds] at hl
        simpa [hij] using hl
  exact key n 0 _ a0 _ (by omega) (by simp) (openB_start n) ⟨rfl, rfl, fun _ _ => rfl⟩ h0 (fun i hi hl => by simp [Array.getD_eq_getD_getElem?, hi] at hl)
end
end Go.Proofs.Ytgbbodmggbeflaa

/-
  PROVED HERE: a region whose operations come in whatever order their edges allow is met by one assertion for each operation and one for what has come up (some operations hand back nothing); what holds of a region outside a round holds in a round. Conditions: those of each theorem.
-/
import Derived.Test.YtgbbodmggbeflaaRegion
import Derived.OrdersIn
import Derived.TacticsIn
import Derived.RangeFuncCalls
set_option linter.unusedVariables false
set_option linter.unusedSimpArgs false
namespace Go.Proofs.Ytgbbodmggbeflaa

section
variable {P : Program} {ops : Array Oper} {Q : Exit → Act → World → Prop}

def valAt (a : Act) : Option Nat → Value
  | some t => a.tmps.getD t undef
  | none => undef
/-- What has come up is closed under what must come ahead. -/
def Closed (ops : Array Oper) (listed : Array Bool) : Prop := ∀ i o, listed.getD i false = true → ops[i]? = some o → ∀ e ∈ o.after, Region.binds .any e = true → listed.getD e.on false = true
def FramedO (dst : Nat → Option Nat) (n : Nat) (a0 a : Act) : Prop := a.tmps.size = a0.tmps.size ∧ a.defers = a0.defers ∧ ∀ t, (∀ i, i < n → dst i ≠ some t) → a.tmps[t]? = a0.tmps[t]?

theorem FramedO.put {dst : Nat → Option Nat} {n : Nat} {a0 a : Act} (h : FramedO dst n a0 a) {i : Nat} (hi : i < n) (v : Value) : FramedO dst n a0 (a.put (dst i) v) := by
  cases hd : dst i with
  | none => exact h
  | some d =>
    refine ⟨by simpa [Act.put] using h.1, by simpa [Act.put] using h.2.1, fun t ht => ?_⟩
    rw [← h.2.2 t ht]
    simp only [Act.put]
    rw [Array.getElem?_setIfInBounds]
    have : d ≠ t := fun e => ht i hi (by rw [hd, e])
    simp [this]

theorem any_inv (a0 : Act) (w0 : World) (n : Nat) (hn : ops.size = n)
    (I : Array Bool → World → Prop) (A : Nat → Value → World → Prop) (R : Nat → World → World → Prop)
    (hR : ∀ i j v w w', i < n → j < n → i ≠ j → R i w w' → A j v w → A j v w')
    (dst : Nat → Option Nat) (hinj : ∀ i, i < n → ∀ j, j < n → ∀ t, dst i = some t → dst j = some t → i = j) (hsz : ∀ i, i < n → ∀ t, dst i = some t → t < a0.tmps.size)
    (hlow : ∀ (i : Nat) (o : Oper), ops[i]? = some o → ∀ e ∈ o.after, Region.binds .any e = true → Edge.on e < i)
    (hst : ∀ (listed : Array Bool) (i : Nat) (o : Oper) (a : Act) (w : World), listed.size = n → Closed ops listed → listed.getD i false = false → ops[i]? = some o → FramedO dst n a0 a → I listed w →
      (∀ e ∈ o.after, Region.binds .any e = true → A e.on (valAt a (dst e.on)) w) →
      wpOp P ops Q i (fun a' w' => ∃ v, a' = a.put (dst i) v ∧ (dst i = none → v = undef) ∧ A i v w' ∧ R i w w' ∧ I (listed.setIfInBounds i true) w') a w)
    (h0 : I (Array.replicate n false) w0)
    (hend : ∀ listed a w, (∀ i, i < n → listed.getD i false = true) → FramedO dst n a0 a → I listed w → (∀ i, i < n → A i (valAt a (dst i)) w) → Q .normal a w) :
    wpAny P .any ops Q n (Array.replicate n false) a0 w0 := by
  have key : ∀ (f : Nat) (listed : Array Bool) (a : Act) (w : World), listed.size = n → openB listed n ≤ f → Closed ops listed → FramedO dst n a0 a → I listed w →
      (∀ i, i < n → listed.getD i false = true → A i (valAt a (dst i)) w) → wpAny P .any ops Q f listed a w := by
    intro f
    induction f with
    | zero =>
      intro listed a w hs ho _ hF hI hA
      have hall := openB_zero (Nat.le_zero.1 ho)
      refine ⟨?_, hend listed a w hall hF hI (fun i hi => hA i hi (hall i hi))⟩
      unfold Region.ready
      rw [List.filter_eq_nil_iff]
      intro i hi hcon
      simp only [Bool.and_eq_true, Bool.not_eq_true'] at hcon
      have hi' : i < n := by have := List.mem_range.1 hi; omega
      have h1 := hall i hi'
      have h2 := hcon.1
      simp only [Array.getD_eq_getD_getElem?] at h1 h2
      rw [Array.getElem?_eq_getElem (by omega)] at h1 h2
      simp at h1 h2
      rw [h1] at h2
      cases h2
    | succ f ih =>
      intro listed a w hs ho hC hF hI hA
      refine ⟨fun hnil => ?_, fun i hi => ?_⟩
      · have hall := ready_nil hn hs hlow hnil
        exact hend listed a w hall hF hI (fun i hi => hA i hi (hall i hi))
      obtain ⟨h1, h2, h3⟩ := ready_mem hi
      have hop : ops[i]? = some ops[i] := Array.getElem?_eq_getElem h1
      have hi' : i < n := by omega
      have h2' : listed.getD i false = false := by
        simp only [Array.getD_eq_getD_getElem?] at h2 ⊢
        rw [Array.getElem?_eq_getElem (by omega)] at h2 ⊢
        simpa using h2
      refine wpOp_mono ?_ (hst listed i ops[i] a w hs hC h2' hop hF hI (fun e he hb => hA e.on (by have := hlow i _ hop e he hb; omega) (h3 _ hop e he hb)))
      rintro a' w' ⟨v, rfl, hnone, hAi, hRw, hI'⟩
      have mono : ∀ j, listed.getD j false = true → (listed.setIfInBounds i true).getD j false = true := fun j hj => by
        simp only [Array.getD_eq_getD_getElem?] at hj ⊢
        rw [Array.getElem?_setIfInBounds]
        by_cases hij : i = j
        · subst hij; simp [hs, hi']
        · simpa [hij] using hj
      refine ih _ _ w' (by simpa using hs) (by have := openB_set hi' hs h2; omega) ?_ (hF.put hi' v) hI' (fun j hj hl => ?_)
      · intro j o hj ho' e he hb
        by_cases hij : i = j
        · subst hij
          exact mono _ (h3 o ho' e he hb)
        · refine mono _ (hC j o ?_ ho' e he hb)
          simp only [Array.getD_eq_getD_getElem?] at hj ⊢
          rw [Array.getElem?_setIfInBounds] at hj
          simpa [hij] using hj
      · by_cases hij : i = j
        · subst hij
          cases hd : dst i with
          | none => rw [show valAt _ none = v from (hnone hd).symm]; exact hAi
          | some d =>
            have hds := hsz i hi' d hd
            have e : valAt (a.put (some d) v) (some d) = v := by
              simp only [valAt, Act.put, Array.getD_eq_getD_getElem?]
              rw [Array.getElem?_setIfInBounds]
              simp [hF.1, hds]
            rw [e]
            exact hAi
        · have e : valAt (a.put (dst i) v) (dst j) = valAt a (dst j) := by
            cases hj' : dst j with
            | none => rfl
            | some t =>
              cases hi'' : dst i with
              | none => rfl
              | some d =>
                have hdt : d ≠ t := fun e => hij (hinj i hi' j hj d hi'' (by rw [hj', e]))
                simp only [valAt, Act.put, Array.getD_eq_getD_getElem?]
                rw [Array.getElem?_setIfInBounds]
                rw [if_neg hdt]
          rw [e]
          refine hR i j _ _ _ hi' hj hij hRw (hA j hj ?_)
          simp only [Array.getD_eq_getD_getElem?] at hl ⊢
          rw [Array.getElem?_setIfInBounds] at hl
          simpa [hij] using hl
  exact key n _ a0 _ (by simp) (openB_start n) (fun i o h => by simp [Array.getD_eq_getD_getElem?, Array.getElem?_replicate] at h; split at h <;> simp_all) ⟨rfl, rfl, fun _ _ => rfl⟩ h0 (fun i hi hl => by simp [Array.getD_eq_getD_getElem?, hi] at hl)

/-! ### Into a round -/
theorem rows_in {n : Nat} {row : String} {args : Array Value} {w : World} {R : Value → World → Prop} (h : Rows P row args w R) : RowsIn Fence.wide n P row args w R :=
  fun c cs _ => let ⟨v, w', r, s⟩ := h c cs; ⟨v, w', r, stepsIn_wide.2 s⟩
theorem oper_in {l n : Nat} {o : Oper} {a : Act} {w : World} {K K' : Act → World → Prop} (hnd : ∀ c, o.op ≠ .defer c) (hK : ∀ a w, K a w → K' a w) (h : o.wp P a w K Q) : o.wpIn (Fence.wide.inRound l) n P a w K' Q := by
  refine ⟨fun _ _ => trivial, ?_⟩
  show o.uponIn (Fence.wide.inRound l) n P a K' Q ((o.semAt (some l) a.eval).run P w)
  rw [Oper.semAt_some l a.eval o hnd]
  unfold Oper.wp at h
  generalize (execOp a.eval o).run P w = r at h ⊢
  cases r with
  | ok x w' =>
    cases x <;> simp only [Oper.upon, Oper.uponIn] at h ⊢ <;> first
      | exact hK _ _ h
      | exact ⟨fun e => (by cases e), CallsIn.inRound l (callsIn_wide.2 (h.mono fun e w'' he => by cases e <;> first | exact hK _ _ he | exact he))⟩
      | exact ⟨fun e => (by cases e), rows_in (n := n - 1) (h.mono fun v w'' he => hK _ _ he)⟩
  | halt x w' => cases x <;> simp only [Oper.upon, Oper.uponIn] at h ⊢ <;> exact h

theorem anyIn_of {md : Region.Mode} {l n : Nat} (hnd : ∀ (i : Nat) (o : Oper), ops[i]? = some o → ∀ c, o.op ≠ .defer c) (hQ : ¬ LetsOut Q) : ∀ (f : Nat) (listed : Array Bool) (a : Act) (w : World), wpAny P md ops Q f listed a w → wpAnyIn (Fence.wide.inRound l) n P md ops Q f listed a w
  | 0, _, _, _, h => h
  | f + 1, listed, a, w, h => by
    refine ⟨h.1, fun i hi => ?_⟩
    have h2 := h.2 i hi
    unfold wpOp at h2
    unfold wpOpIn
    split
    · rename_i ho
      rw [ho] at h2
      exact anyIn_of hnd hQ f _ a w h2
    · rename_i o ho
      rw [ho] at h2
      simp only at h2
      split
      · rename_i hw
        rw [if_pos hw] at h2
        rcases h2 with h2 | h2
        · exact oper_in (hnd i o ho) (fun a w => anyIn_of hnd hQ f _ a w) h2
        · exact absurd h2.2 hQ
      · rename_i hw
        rw [if_neg hw] at h2
        exact ⟨fun _ _ => trivial, anyIn_of hnd hQ f _ _ w h2⟩
theorem region_inRound {id l n : Nat} {a : Act} {w : World} (hm : P.follows .mixedOrders = true) (hnd : ∀ (i : Nat) (o : Oper), ops[i]? = some o → ∀ c, o.op ≠ .defer c) (hQ : ¬ LetsOut Q)
    (h : wpAny P .any ops Q ops.size (Array.replicate ops.size false) a w.drew) : (Code.region id ops true).wpIn (Fence.wide.inRound l) n P Q a w :=
  wpIn_region_any hm (anyIn_of hnd hQ _ _ a _ h)
theorem listIn_of {l n : Nat} (hQ : ¬ LetsOut Q) : ∀ (os : List Oper) (_ : ∀ o ∈ os, ∀ c, o.op ≠ .defer c) (a : Act) (w : World), wpList P ops Q os a w → wpListIn (Fence.wide.inRound l) n P ops Q os a w
  | [], _, _, _, h => h
  | o :: os, hnd, a, w, h => by
    unfold wpList at h
    unfold wpListIn
    split
    · rename_i hw
      rw [if_pos hw] at h
      rcases h with h | h
      · exact oper_in (hnd o List.mem_cons_self) (fun a w => listIn_of hQ os (fun o ho => hnd o (List.mem_cons_of_mem _ ho)) a w) h
      · exact absurd h.2 hQ
    · rename_i hw
      rw [if_neg hw] at h
      exact ⟨fun _ _ => trivial, listIn_of hQ os (fun o ho => hnd o (List.mem_cons_of_mem _ ho)) _ w h⟩
theorem lex_inRound {id l n : Nat} {os : List Oper} {a : Act} {w : World} (hnd : ∀ o ∈ os, ∀ c, o.op ≠ .defer c) (hQ : ¬ LetsOut Q) (h : wpList P os.toArray Q os a w) : (Code.region id os.toArray false).wpIn (Fence.wide.inRound l) n P Q a w :=
  wpIn_region_list (listIn_of hQ _ (by simpa using hnd) a w (by simpa using h))
end
end Go.Proofs.Ytgbbodmggbeflaa

/-
  PROVED HERE: the plain law of pages without lonely lines. Conditions: each lemma's own.
-/
import Derived.Test.YtaolkplecdbadaaLonely4
namespace Go.Proofs.Ytaolkplecdbadaa
open Go.RowKit

/-- A page that ends at n leaves a lonely line. -/
def badG : Int → List Int → Int → Bool
  | _, [], _ => false
  | f, t :: ts, n => (decide (1 < t - f) && ((n == f + 1) || (n == t - 1))) || badG t ts n
theorem badG_cons (f t : Int) (ts : List Int) (n : Int) : badG f (t :: ts) n = ((decide (1 < t - f) && ((n == f + 1) || (n == t - 1))) || badG t ts n) := rfl
theorem bad_gt : ∀ (ts : List Int) (f n : Int), ascB f ts = true → badG f ts n = true → f < n ∧ n < lastI f ts
  | [], f, n, _, h => by rw [badG] at h; cases h
  | t :: ts, f, n, ha, h => by
    rw [ascB, Bool.and_eq_true] at ha
    obtain ⟨h1, h2⟩ := ha
    have h1 := of_decide_eq_true h1
    have hl := (asc_bd t ts h2).1
    rw [lastI]
    rw [badG_cons, Bool.or_eq_true, Bool.and_eq_true, Bool.or_eq_true] at h
    rcases h with ⟨h3, h4⟩ | h3
    · have h3 := of_decide_eq_true h3
      simp only [beq_iff_eq] at h4
      omega
    · have := bad_gt ts t n h2 h3
      omega
theorem bad_no3 : ∀ (ts : List Int) (f n : Int), ascB f ts = true → badG f ts n = true → badG f ts (n - 1) = true → badG f ts (n - 2) = true → False
  | [], f, n, _, h, _, _ => by rw [badG] at h; cases h
  | t :: ts, f, n, ha, h, hb, hc => by
    have ha' := ha
    rw [ascB, Bool.and_eq_true] at ha
    obtain ⟨h1, h2⟩ := ha
    have key : ∀ m, badG f (t :: ts) m = true → (1 < t - f ∧ (m = f + 1 ∨ m = t - 1)) ∨ (t < m ∧ badG t ts m = true) := by
      intro m hm
      rw [badG_cons, Bool.or_eq_true, Bool.and_eq_true, Bool.or_eq_true] at hm
      rcases hm with ⟨h3, h4⟩ | h3
      · have h3 := of_decide_eq_true h3
        simp only [beq_iff_eq] at h4
        exact .inl ⟨h3, h4⟩
      · exact .inr ⟨(bad_gt ts t m h2 h3).1, h3⟩
    rcases key n h with ⟨a1, a2⟩ | ⟨a1, a2⟩ <;> rcases key (n - 1) hb with ⟨b1, b2⟩ | ⟨b1, b2⟩ <;> rcases key (n - 2) hc with ⟨c1, c2⟩ | ⟨c1, c2⟩
    all_goals first | omega | exact bad_no3 ts t n h2 a2 b2 c2

/-- The last line, not behind e, whose page leaves no lonely line. -/
def avE (b : Int → Bool) (e : Int) : Int := if b e = true then (if b (e - 1) = true then e - 2 else e - 1) else e
def avGo (b : Int → Bool) (m h : Int) : Nat → Int → List Int
  | 0, _ => []
  | k + 1, at' => if at' < m then avE b (at' + min h (m - at')) :: avGo b m h k (avE b (at' + min h (m - at'))) else []
def avOk (m : Int) (ps : List Int) (h : Int) : Bool := inB m 0 999 && (endsB m ps && decide (4 ≤ h))
def avL (m : Int) (ps : List Int) (h : Int) : List Int := if avOk m ps h = true then avGo (badG 0 ps) m h m.toNat 0 else []

/-- One page: it ends behind at, not behind its room, and leaves no lonely line. -/
theorem avE_law {m h at' : Int} {ps : List Int} (hps : endsB m ps = true) (hh : 4 ≤ h) (_ : 0 ≤ at') (hm : at' < m) :
    at' < avE (badG 0 ps) (at' + min h (m - at')) ∧ avE (badG 0 ps) (at' + min h (m - at')) ≤ at' + min h (m - at') ∧ badG 0 ps (avE (badG 0 ps) (at' + min h (m - at'))) = false := by
  obtain ⟨ha, hl, _⟩ := endsB_true hps
  have hmb : badG 0 ps m = false := by
    cases e : badG 0 ps m with
    | false => rfl
    | true => have := bad_gt ps 0 m ha e; omega
  obtain ⟨e, he⟩ : ∃ e, e = at' + min h (m - at') := ⟨_, rfl⟩
  rw [← he]
  unfold avE
  cases b0 : badG 0 ps e with
  | false =>
    rw [if_neg (by decide)]
    exact ⟨by omega, Int.le_refl _, b0⟩
  | true =>
    have hne : e ≠ m := by rintro rfl; rw [hmb] at b0; cases b0
    rw [if_pos rfl]
    cases b1 : badG 0 ps (e - 1) with
    | false =>
      rw [if_neg (by decide)]
      exact ⟨by omega, by omega, b1⟩
    | true =>
      rw [if_pos rfl]
      refine ⟨by omega, by omega, ?_⟩
      cases b2 : badG 0 ps (e - 2) with
      | false => rfl
      | true => exact (bad_no3 ps 0 e ha b0 b1 b2).elim
theorem avGo_end (b : Int → Bool) (m h : Int) (k : Nat) (at' : Int) (hm : m ≤ at') : avGo b m h k at' = [] := by
  cases k with
  | zero => rfl
  | succ k => rw [avGo, if_neg (by omega)]
theorem avGo_step (b : Int → Bool) (m h : Int) (k : Nat) (at' : Int) (hm : at' < m) (hk : (m - at').toNat ≤ k) : avGo b m h k at' = avE b (at' + min h (m - at')) :: avGo b m h (k - 1) (avE b (at' + min h (m - at'))) := by
  cases k with
  | zero => omega
  | succ k => rw [avGo, if_pos hm]; rfl
theorem avGo_len {m h : Int} {ps : List Int} (hps : endsB m ps = true) (hh : 4 ≤ h) : ∀ (k : Nat) (at' : Int), 0 ≤ at' → ((avGo (badG 0 ps) m h k at').length : Int) ≤ max 0 (m - at')
  | 0, at', _ => by rw [avGo]; simp; omega
  | k + 1, at', h0 => by
    rw [avGo]
    split
    · rename_i hm
      obtain ⟨e1, e2, _⟩ := avE_law hps hh h0 hm
      have := avGo_len hps hh k (avE (badG 0 ps) (at' + min h (m - at'))) (by omega)
      rw [List.length_cons]
      omega
    · simp
      omega
theorem avL_len (m : Int) (ps : List Int) (h : Int) : (avL m ps h).length ≤ 999 := by
  unfold avL
  split
  · rename_i hc
    unfold avOk at hc
    rw [Bool.and_eq_true, Bool.and_eq_true] at hc
    have a := avGo_len hc.2.1 (of_decide_eq_true hc.2.2) m.toNat 0 (Int.le_refl _)
    have b := inB_true hc.1
    omega
  · simp
end Go.Proofs.Ytaolkplecdbadaa

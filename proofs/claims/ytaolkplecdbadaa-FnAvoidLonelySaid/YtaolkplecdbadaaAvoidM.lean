/-
  PROVED HERE: pages without lonely lines: every page is at most as long as wanted, and no line is lonely: the plain law. Conditions: each lemma's own.
-/
import Derived.Test.YtaolkplecdbadaaAvoidL
namespace Go.Proofs.Ytaolkplecdbadaa
open Go.RowKit

def stepOk (h : Int) : Int → List Int → Prop
  | _, [] => True
  | p, x :: t => p < x ∧ x - p ≤ h ∧ stepOk h x t
theorem avGo_law {m h : Int} {ps : List Int} (hps : endsB m ps = true) (hh : 4 ≤ h) : ∀ (k : Nat) (a : Int), 0 ≤ a → a ≤ m → (m - a).toNat ≤ k →
    stepOk h a (avGo (badG 0 ps) m h k a) ∧ ascB a (avGo (badG 0 ps) m h k a) = true ∧ lastI a (avGo (badG 0 ps) m h k a) = m ∧ ∀ y ∈ avGo (badG 0 ps) m h k a, badG 0 ps y = false
  | 0, a, h0, h1, h2 => by
    rw [avGo]
    refine ⟨trivial, rfl, ?_, fun y hy => by cases hy⟩
    rw [lastI]
    omega
  | k + 1, a, h0, h1, h2 => by
    rw [avGo]
    split
    · rename_i hm
      obtain ⟨e1, e2, e3⟩ := avE_law hps hh h0 hm
      obtain ⟨e, he⟩ : ∃ e, e = avE (badG 0 ps) (a + min h (m - a)) := ⟨_, rfl⟩
      rw [← he] at e1 e2 e3 ⊢
      obtain ⟨i1, i2, i3, i4⟩ := avGo_law hps hh k e (by omega) (by omega) (by omega)
      refine ⟨⟨e1, by omega, i1⟩, ?_, ?_, fun y hy => ?_⟩
      · rw [ascB, decide_eq_true e1, i2]; rfl
      · rw [lastI]; exact i3
      · rcases List.mem_cons.1 hy with rfl | hy
        · exact e3
        · exact i4 y hy
    · refine ⟨trivial, rfl, ?_, fun y hy => by cases hy⟩
      rw [lastI]
      omega
theorem lon_bad (ys : List Int) : ∀ (ts : List Int) (f : Int), (∀ y ∈ ys, badG f ts y = false) → lonF ys f ts = 0 ∧ lonL ys f ts = 0
  | [], f, _ => by rw [lonF, lonL]; simp
  | t :: ts, f, hy => by
    have ih := lon_bad ys ts t (fun y h => by
      have := hy y h
      rw [badG_cons, Bool.or_eq_false_iff] at this
      exact this.2)
    rw [lonF_cons, lonL_cons, ih.1, ih.2]
    by_cases hc : 1 < t - f
    · have key : ∀ n, n = f + 1 ∨ n = t - 1 → hasB ys n = false := fun n hn => hasB_no fun y h e => by
        have := hy y h
        rw [badG_cons, Bool.or_eq_false_iff, decide_eq_true hc, Bool.true_and, Bool.or_eq_false_iff] at this
        obtain ⟨⟨a, b⟩, _⟩ := this
        rw [beq_eq_false_iff_ne] at a b
        omega
      rw [key _ (.inl rfl), key _ (.inr rfl)]
      simp
    · rw [decide_eq_false hc]
      simp
theorem av_law (m : Int) (ps : List Int) (h : Int) (hne : avL m ps h ≠ []) : stepOk h 0 (avL m ps h) ∧ lonA m ps (avL m ps h) = 0 ∧ lonB m ps (avL m ps h) = 0 := by
  unfold avL at hne ⊢
  split
  · rename_i hc
    unfold avOk at hc
    rw [Bool.and_eq_true, Bool.and_eq_true] at hc
    obtain ⟨c1, c2, c3⟩ := hc
    have hm := inB_true c1
    obtain ⟨a1, a2, a3, a4⟩ := avGo_law c2 (of_decide_eq_true c3) m.toNat 0 (Int.le_refl _) hm.1 (by omega)
    have ok : lonOk m ps (avGo (badG 0 ps) m h m.toNat 0) = true := by
      unfold lonOk
      rw [c1, c2]
      unfold endsB
      rw [a2, a3]
      simp
    have z := lon_bad _ ps 0 a4
    unfold lonA lonB
    rw [ok]
    exact ⟨a1, z.1, z.2⟩
  · rename_i hc
    rw [if_neg hc] at hne
    exact absurd rfl hne
end Go.Proofs.Ytaolkplecdbadaa

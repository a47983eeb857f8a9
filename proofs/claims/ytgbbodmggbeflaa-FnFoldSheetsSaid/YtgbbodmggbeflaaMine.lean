/-
  PROVED HERE: an append to a row that the call owns: the row stays where it was, or lies in a new block. Conditions: the theorem's own.
-/
import Derived.Test.YtgbbodmggbeflaaBase
import Derived.OwnWalk
import Derived.ArgAppend
import Derived.Deep.Onto
import Derived.Laws.AppendOwnNone
set_option linter.unusedVariables false
set_option linter.unusedSimpArgs false
namespace Go.Proofs.Ytgbbodmggbeflaa
open Go.RowKit

/-- Where a grown row lies: where it was, or in a block that was not yet there. -/
def Moved (w : World) (v v' : Value) : Prop := v'.ownBlock = v.ownBlock ∨ ∀ k, v'.ownBlock = some k → w.heap.size ≤ k

theorem Moved.apart {w : World} {v v' : Value} {g : Nat} (h : Moved w v v') (h1 : some g ≠ v.ownBlock) (h2 : g < w.heap.size) : some g ≠ v'.ownBlock := by
  rcases h with h | h
  · rw [h]; exact h1
  · intro e
    have := h g e.symm
    omega

theorem append_mine {P : Program} (w : World) {ops : Array Oper} {rest : List Oper} {o : Oper} {a : Act} {Q : Exit → Act → World → Prop} (hgd : o.guard = none) (s x : Operand) (t : TypeId)
    (ho : o.op = .call { callee := .builtin .append, args := #[s, x], argTypes := #[t, t] })
    (base : Nat) (e : TypeId) (i : TypeInfo) (z : Value) (size bytes : Nat) (ht : P.underlying t = some (.slice e)) (hi : P.info? e = some i) (hz : i.zero = some z)
    (hsize : i.size = size) (hby : i.bytes = bytes) (hzs : z.cells.size = size) (hsz : 0 < size)
    (v : Value) (n : Nat) (xs : List Value) (hs : a.eval s = v) (hown : w.ownsRow base e size v n xs)
    (ad : Addr) (m c : Nat) (news : List Value) (hx : a.eval x = .slice (some ad) m c) (hl : news.length = m * size) (hnews : ∀ j u, news[j]? = some u → w.cell? (ad.add j) = some u) (h1 : ∀ u ∈ news, u.oneCell' = true)
    (h63 : n + m ≤ maxLen) (hbytes : (n + m) * bytes ≤ 140737488355328) (hbase : base ≤ w.heap.size)
    (h : ∀ v' w', w'.ownsRow base e size v' (n + m) (xs ++ news) → w.grownBy w' v.ownBlock → Moved w v v' → wpList P ops Q rest (a.put o.dst v') w') : wpList P ops Q (o :: rest) a w := by
  rcases hown.2 with ⟨rfl, hn0⟩ | ⟨g, cap, cur, rfl, hgb, _⟩
  · by_cases hm : m = 0
    · refine wpList_append_own w hgd s x t ho base e i z size bytes ht hi hz hsize hby hzs hsz _ n xs hs hown ad m c news hx hl hnews h1 h63 hbytes hbase ?_
      intro v' w' h2 h3 h4
      refine h v' w' h2 h3 (.inl ?_)
      rw [h4.2 ⟨rfl, hm⟩]
    · subst hn0
      have hxs : xs = [] := by have := hown.1; exact List.eq_nil_of_length_eq_zero (by simpa using this)
      subst hxs
      refine wpList_append_grows w hgd s x t ho e i z size bytes ht hi hz hsize hby hzs hsz none 0 0 [] hs (fun _ => ⟨rfl, rfl⟩) (by simp) (fun b hb => by cases hb) ad m c news hx hl hnews h1 (by omega) h63 hbytes ?_
      intro v' w' h2 h3
      exact h v' w' (World.ownsRow.mono h2 hbase) h3 (.inr fun k hk => (h2.lt k hk).1)
  · by_cases hc : n + m ≤ cap
    · refine wpList_append_fits w hgd s x t ho base e i size ht hi hsize g n cap xs hs hown ad m c news hx hl hnews h1 hc ?_
      intro w' h2 h3
      exact h _ w' h2 h3 (.inl rfl)
    · refine wpList_append_grows w hgd s x t ho e i z size bytes ht hi hz hsize hby hzs hsz (some ⟨g, 0, none⟩) n cap xs hs (fun h => by cases h) hown.1 ?_ ad m c news hx hl hnews h1 (by omega) h63 hbytes ?_
      · intro b hb j u hu
        cases hb
        have hj : j < n * size := by rw [← hown.1]; exact (List.getElem?_eq_some_iff.1 hu).1
        have e1 : ((⟨g, 0, none⟩ : Addr).add j) = ⟨g, j, none⟩ := by unfold Addr.add; split <;> simp_all
        rw [e1, hown.cellAt j hj]
        exact hu
      · intro v' w' h2 h3
        exact h v' w' (World.ownsRow.mono h2 hbase) ⟨h3.os, h3.tape, h3.output, h3.size, fun k hk _ => h3.block k hk (by simp)⟩ (.inr fun k hk => (h2.lt k hk).1)
end Go.Proofs.Ytgbbodmggbeflaa

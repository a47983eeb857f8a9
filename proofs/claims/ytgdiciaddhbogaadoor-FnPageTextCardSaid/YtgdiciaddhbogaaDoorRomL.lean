/-
  PROVED HERE: the listed table, as the walks want it; the door's own heap meets the condition. Conditions: each theorem's own.
-/
import Derived.Test.YtgdiciaddhbogaaDoorRows
import Derived.Test.YtgdiciaddhbogaaDoorPage
import Derived.Lib.LaidTab
import Derived.ProofKit
import Derived.LaidMore
import Derived.OpenShut
import Derived.Stop.Joined
import Derived.Deep.SlicePairs
import Derived.MakeChecks
namespace Go.Proofs.YtgdiciaddhbogaaDoor
open Go.ChangeShapes Go.WideShapes Go.ChangeAt Go.RowKit Go.Deep

theorem gRomans : Tryd.prog.globalNamed "loop.example/pagebuilder/impl.romans" = some 0 := by kernel_rfl
theorem tRomans : (Tryd.prog.globals[0]?).map (·.type) = some 43 := by kernel_rfl
abbrev romLaid : List (String × DataW Unit) := [("math/bits.deBruijn32tab", Rows.laid_math_bits_deBruijn32tab), ("math/bits.deBruijn64tab", Rows.laid_math_bits_deBruijn64tab), ("internal/strconv.uint64pow10", Rows.laid_internal_strconv_uint64pow10), ("loop.example/pagebuilder/impl.romans", Rows.laid_loop_example_pagebuilder_impl_romans)]
theorem tPow : (Tryd.prog.globals[1]?).map (·.type) = some 78 := by kernel_rfl
theorem laid_pow : (Rows.laid_internal_strconv_uint64pow10 : DataW Unit) = Lib.tabData .u64 Lib.pow10Tab := by kernel_rfl
theorem laid_rows {H : Type} : (Rows.laid_loop_example_pagebuilder_impl_romans : DataW H) = .slice ((List.range 13).map fun i => .agg [.lit (.int .i64 ((rV i : Nat) : Int)), .lit (.string (rS i))]) [] := by kernel_rfl
theorem door_met (os : Os) (args : Array Value) : laidMetH Tryd.prog romLaid ((World.doorLaid Tryd.prog 400 os).forCall (fun _ _ => 0) ⟨#[], args, []⟩).memory :=
  laidMetH_of_parts3 (fuel := 8) (laidMet_of_run' 8 (by kernel_rfl) (by kernel_rfl)) (by kernel_rfl) (by kernel_rfl)
theorem add_none (b off i : Nat) : ((⟨b, off, none⟩ : Addr).add i) = ⟨b, off + i, none⟩ := by unfold Addr.add; split <;> simp_all

theorem romtab_of {W : World} (h : laidMet Tryd.prog [("loop.example/pagebuilder/impl.romans", Rows.laid_loop_example_pagebuilder_impl_romans)] W) : RomTab W := by
  obtain ⟨ps, ⟨g0, t0, cs0, f0, p0, q0, hg0, ht0, hv0, hd0, _, _⟩, _, _⟩ := h
  obtain rfl := Option.some.inj (gRomans.symm.trans hg0)
  obtain rfl := Option.some.inj (tRomans.symm.trans ht0)
  rcases open_slice_pairs Tryd.underlying43 Tryd.underlying44 (by kernel_rfl) rfl rfl (by kernel_rfl) (by kernel_rfl) hd0 with ⟨_, hx⟩ | ⟨a, len, cap, m, n, V0, V1, D0, D1, P0, P1, hcs, _, hlc, hcm, hm, hx, hi⟩
  · rw [laid_rows] at hx
    simp at hx
  · rw [laid_rows] at hx
    simp only [Prod.mk.injEq, DataW.slice.injEq] at hx
    obtain ⟨⟨hL, _⟩, _⟩ := hx
    have hlen : len = 13 := by
      have := congrArg List.length hL
      simpa using this.symm
    subst hlen
    have hD : ∀ i, i < 13 → D0 i = .lit (.int .i64 ((rV i : Nat) : Int)) ∧ D1 i = .lit (.string (rS i)) := by
      intro i hi'
      have := congrArg (fun l => l[i]?) hL
      simp [hi'] at this
      exact ⟨this.1.symm, this.2.symm⟩
    have hm13 : 13 ≤ m := by rw [hm]; split <;> omega
    have hV : ∀ i, i < 13 → V0 i = .int .i64 ((rV i : Nat) : Int) ∧ V1 i = .string (bs (rS i)) := by
      intro i hi'
      obtain ⟨_, _, h3, h4⟩ := hi i (by omega)
      obtain ⟨d1, d2⟩ := hD i hi'
      rw [d1] at h3
      rw [d2] at h4
      obtain ⟨z, e1, e2, _⟩ := DataW.trod_int Tryd.underlying3 h3
      obtain ⟨s, e3, e4, _⟩ := DataW.trod_string Tryd.underlying9 h4
      simp at e1 e2 e3 e4
      refine ⟨by rw [e1, e2.1], ?_⟩
      rw [e3]
      congr 1
      apply ByteArray.ext
      apply Array.ext'
      simpa [bs] using e4.1.symm
    have hsp : a.spot = none := by
      have h := (hi 0 (by omega)).1
      have := World.cell?_spot h
      simpa [Addr.add] using this
    obtain ⟨b, off, sp⟩ := a
    simp only at hsp
    subst hsp
    have hc : W.cell? ⟨0, 0, none⟩ = some (.slice (some ⟨b, off, none⟩) 13 cap) := by
      have := World.var?_cell hg0 hv0 0
      rw [Array.eq_one_of_toList hcs] at this
      simpa using this
    have h0 := (hi 0 (by omega)).1
    rw [add_none] at h0
    refine ⟨World.block_lt_of_cell? W _ hc, b, off, cap, hc, World.block_lt_of_cell? W _ h0, fun k hk => ?_⟩
    obtain ⟨h1, h2, _, _⟩ := hi k (by omega)
    obtain ⟨v1, v2⟩ := hV k hk
    rw [add_none, v1] at h1
    rw [add_none, v2, ← Nat.add_assoc] at h2
    exact ⟨h1, h2⟩
theorem laidTail {P : Program} {w : World} {x : String × DataW Unit} {rest : List (String × DataW Unit)} (h : laidMet P (x :: rest) w) : laidMet P rest w := by
  obtain ⟨ps, ⟨g, t, cs, fuel, p, q, _, _, _, _, hq, rfl⟩, hn, hc⟩ := h
  exact ⟨q, hq, (List.nodup_append.1 hn).2.1, fun b off hm => hc b off (List.mem_append_right _ hm)⟩
theorem pgtab_of_laid {W : World} (h : laidMetH Tryd.prog romLaid W) : PgTab W := by
  rw [MakeChecks.laidMetH_plain _ _ _ (by kernel_rfl)] at h
  have h2 := laidTail (laidTail h)
  refine ⟨romtab_of (laidTail h2), ?_⟩
  rw [laid_pow] at h2
  exact Lib.tabIs_of_head gPow tPow Tryd.underlying78 Tryd.underlying66 (by kernel_rfl) (by kernel_rfl) h2
theorem one_cell {H : Type} {enc : TypeId × Value → H} {W : World} {sp : Nat → Bool} {held : Bool} {fuel : Nat} {cs : Array Value} {x : DataW H × List MemPlace} (hd : DataW.trod enc Tryd.prog W 0 sp held fuel 43 cs.toList = some x) : ∃ a n c, cs = #[.slice a n c] := by
  rcases open_slice Tryd.underlying43 hd with ⟨h, _⟩ | ⟨a, len, cap, m, n, D, Pl, h, _⟩
  · exact ⟨none, 0, 0, Array.eq_one_of_toList h⟩
  · exact ⟨some a, len, cap, Array.eq_one_of_toList h⟩
end Go.Proofs.YtgdiciaddhbogaaDoor

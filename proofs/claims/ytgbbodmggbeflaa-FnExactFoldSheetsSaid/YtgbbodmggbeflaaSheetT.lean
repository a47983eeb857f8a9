/-
  PROVED HERE: a copy of a row of sheets. Conditions: each theorem's own.
-/
import Derived.Test.YtgbbodmggbeflaaSheetA
import Derived.RangeFuncNested
namespace Go.Proofs.Ytgbbodmggbeflaa
open Go.RowKit
set_option maxRecDepth 100000

theorem toSheet_any (u : Value) (x : List Int) (w : World) (h : IRow w u x) (hx : x.length ≤ 1048576) : Calls Try.prog 62 #[.agg #[u]] w fun e w' => ∃ v, e = .returned (.agg #[v]) ∧ w'.ownsRow w.heap.size 3 1 v x.length (x.map (Value.int .i64)) ∧ Below w.heap.size w w' := by
  have H := Lib.hid h
  obtain ⟨a, cap, rfl, hl⟩ := h.shape
  clear h
  have b0 := ((((Below.refl w.heap.size w).alloc (Nat.le_refl _) (.cells #[.slice a x.length cap] 74)).alloc (by simp) (.cells #[.slice none 0 0] 59)).alloc (by simp; omega) (.cells #[.slice none 0 0] 59))
  obtain ⟨w0, hw0⟩ : ∃ w0, w0 = ((w.alloc (.cells #[.slice a x.length cap] 74)).alloc (.cells #[.slice none 0 0] 59)).alloc (.cells #[.slice none 0 0] 59) := ⟨_, rfl⟩
  have B0 : Hid (Below w.heap.size w w0) := by rw [hw0]; exact b0
  have hs : w0.heap.size = w.heap.size + 3 := by rw [hw0]; simp
  have hb1 : Boxed w0 (w.heap.size + 1) 59 (.slice none 0 0) := by
    rw [hw0]
    have := (Boxed.new (w.alloc (.cells #[.slice a x.length cap] 74)) 59 (.slice none 0 0)).alloc (.cells #[.slice none 0 0] 59)
    rw [World.size_alloc] at this
    exact this
  have hb2 : Boxed w0 (w.heap.size + 2) 59 (.slice none 0 0) := by
    rw [hw0]
    have := Boxed.new ((w.alloc (.cells #[.slice a x.length cap] 74)).alloc (.cells #[.slice none 0 0] 59)) 59 (.slice none 0 0)
    rw [World.size_alloc, World.size_alloc] at this
    exact this
  have HW := Lib.hid hw0
  clear hw0 b0
  go_enter Try.func62, Try.ntmps62
  go_wp2_with fail
  rw [← HW.out]
  refine (toIntS_any _ x w0 (H.out.below B0.out) hx).mono ?_
  rintro e w1 ⟨v, rfl, o1, b1⟩
  have k1 : Boxed w1 (w.heap.size + 1) 59 (.slice none 0 0) := (b1.block _ hb1.lt).trans hb1
  have k2 : Boxed w1 (w.heap.size + 2) 59 (.slice none 0 0) := (b1.block _ hb2.lt).trans hb2
  have c1 := k1.cell
  have f1 := k1.frozen
  have c2 := k2.cell
  have f2 := k2.frozen
  obtain ⟨va, vn, vc, rfl⟩ : ∃ va vn vc, v = .slice va vn vc := by
    rcases o1.2 with ⟨rfl, _⟩ | ⟨g, cp, cur, rfl, _⟩
    · exact ⟨_, _, _, rfl⟩
    · exact ⟨_, _, _, rfl⟩
  have hon : ∀ k, (Value.slice va vn vc).ownBlock = some k → w.heap.size + 3 ≤ k := fun k e => by have := (o1.lt k e).1; omega
  have O1 := Lib.hid o1
  have B1 := Lib.hid (B0.out.trans (b1.mono (by omega)))
  clear o1 b1 hb1 hb2
  go_wp2
  have m2 := k2.set (.slice va vn vc)
  have m1 := (k1.other (B' := w.heap.size + 2) (by omega) (.slice va vn vc)).set (.slice va vn vc)
  have q1 : ((w1.setCell ⟨w.heap.size + 1 + 1, 0, none⟩ (.slice va vn vc)).setCell ⟨w.heap.size + 1, 0, none⟩ (.slice va vn vc)).cell? ⟨w.heap.size + 1, 0, none⟩ = some (.slice va vn vc) := m1.cell
  have hbs : w.heap.size ≤ w1.heap.size := B1.out.size
  have own2 := ((World.ownsRow.mono O1.out (show w.heap.size ≤ w0.heap.size by omega)).kept (grownBy_setCell' w1 (w.heap.size + 2) (.slice va vn vc)) (.inr (fun e => by have := hon _ e; omega))).kept (grownBy_setCell' _ (w.heap.size + 1) (.slice va vn vc)) (.inr (fun e => by have := hon _ e; omega))
  have bb := (B1.out.setCell (p := ⟨w.heap.size + 2, 0, none⟩) (by show _ ≤ w.heap.size + 2; omega) (.slice va vn vc)).setCell (p := ⟨w.heap.size + 1, 0, none⟩) (by show _ ≤ w.heap.size + 1; omega) (.slice va vn vc)
  refine bodyPost_ret (v := .agg #[.slice va vn vc]) (by simp [results, Try.results62, go_sem, q1]) rfl ⟨_, rfl, own2, bb⟩

/-- One sheet's row of numbers has been laid anew. -/
theorem OwnShU.put {w w' : World} {base hi j : Nat} {v u' : Value} {xs : List (List Int)} {us : List Value} {x : List Int} (h : OwnShU w base hi v xs us) (hj : j < xs.length)
    (hx : w.ownsRow base 3 1 u' x.length (x.map (Value.int .i64))) (hf : ∀ k, u'.ownBlock = some k → hi ≤ k) (hgr : w.grownBy w' v.ownBlock)
    (ho : w'.ownsRow base 59 1 v xs.length (us.set j u')) : OwnShU w' base w'.heap.size v (xs.set j x) (us.set j u') := by
  obtain ⟨h1, h2, h2', h3, h4⟩ := h
  have hs := hgr.size
  have hlt : ∀ k, u'.ownBlock = some k → k < w'.heap.size := fun k e => by have := (hx.lt k e).2; omega
  have old : ∀ (i : Nat) (u : Value), us[i]? = some u → ∀ k, u.ownBlock = some k → k < hi := fun i u e => by
    have hi' : i < xs.length := by rw [← h1]; exact (List.getElem?_eq_some_iff.1 e).1
    obtain ⟨u2, e2, _, hk, _⟩ := h3 i hi'
    rw [e] at e2
    cases e2
    exact hk
  have apart' : ∀ (i : Nat) (u : Value), us[i]? = some u → (u.ownBlock = none ∨ u.ownBlock ≠ u'.ownBlock) ∧ (u'.ownBlock = none ∨ u'.ownBlock ≠ u.ownBlock) := fun i u e => by
    constructor
    · cases hb : u.ownBlock with
      | none => exact .inl rfl
      | some k => exact .inr fun e2 => by have a := old i u e k hb; have b := hf k e2.symm; omega
    · cases hb : u'.ownBlock with
      | none => exact .inl rfl
      | some k => exact .inr fun e2 => by have a := old i u e k e2.symm; have b := hf k hb; omega
  refine ⟨by simp [h1], by rw [List.length_set]; exact ho, fun k hk => (ho.lt k hk).2, fun i hi' => ?_, fun i i' u u2 hu hu2 hii => ?_⟩
  · rw [List.length_set] at hi'
    by_cases hij : j = i
    · subst hij
      refine ⟨u', by rw [List.getElem?_set_self (by omega)], ?_, hlt, ?_⟩
      · rw [List.getElem_set_self]
        refine hx.kept hgr ?_
        cases hb : u'.ownBlock with
        | none => exact .inl rfl
        | some k => exact .inr fun e2 => by have := h2' k e2.symm; have := hf k hb; omega
      · cases hb : u'.ownBlock with
        | none => exact .inl rfl
        | some k => exact .inr fun e2 => by have := h2' k e2.symm; have := hf k hb; omega
    · obtain ⟨u, e, hu, hk, ha⟩ := h3 i hi'
      refine ⟨u, by rw [List.getElem?_set_ne hij]; exact e, ?_, fun k h => by have a := old i u e k h; have b := h2'; have := (hu.lt k h).2; omega, ha⟩
      rw [List.getElem_set_ne hij]
      exact hu.kept hgr ha
  · by_cases hij : j = i
    · subst hij
      rw [List.getElem?_set_self (by rw [h1]; exact hj)] at hu
      cases hu
      rw [List.getElem?_set_ne hii] at hu2
      exact (apart' i' u2 hu2).2
    · rw [List.getElem?_set_ne hij] at hu
      by_cases hij2 : j = i'
      · subst hij2
        rw [List.getElem?_set_self (by rw [h1]; exact hj)] at hu2
        cases hu2
        exact (apart' i u hu).1
      · rw [List.getElem?_set_ne hij2] at hu2
        exact h4 i i' u u2 hu hu2 hii

def padS (xs : List (List Int)) (k : Nat) : List (List Int) := xs.take k ++ List.replicate (xs.length - k) []
theorem padS_len (xs : List (List Int)) (k : Nat) (h : k ≤ xs.length) : (padS xs k).length = xs.length := by unfold padS; simp; omega
theorem padS_set (xs : List (List Int)) (k : Nat) (h : k < xs.length) : (padS xs k).set k xs[k] = padS xs (k + 1) := by
  unfold padS
  rw [List.set_append_right _ _ (by simp; omega), List.length_take, show k - min k xs.length = 0 by omega, show xs.length - k = (xs.length - (k + 1)) + 1 by omega, List.replicate_succ, List.set_cons_zero, List.take_succ_eq_append_getElem h, List.append_assoc]
  rfl
theorem padS_end (xs : List (List Int)) : padS xs xs.length = xs := by unfold padS; simp
theorem totS_mem : ∀ (xs : List (List Int)) (x : List Int), x ∈ xs → x.length ≤ totS xs
  | y :: t, x, h => by
    rcases List.mem_cons.1 h with rfl | h
    · simp only [totS]; omega
    · have := totS_mem t x h; simp only [totS]; omega

set_option maxHeartbeats 4000000 in
theorem toSheetS_any (v : Value) (xs : List (List Int)) (w : World) (h : SheetR w v xs) (hx : xs.length ≤ 1048576) (ht : totS xs ≤ 1048576) : Calls Try.prog 46 #[v] w (ShPost xs w) := by
  obtain ⟨i0, hi, hz0, hz1, hz2⟩ := info_parts info_Sheet
  obtain ⟨a, ca, rfl, hl, h3⟩ := h.len
  obtain ⟨n, hn⟩ : ∃ n, n = xs.length := ⟨_, rfl⟩
  have H3 := Lib.hid h3
  rw [← hn] at hl hx ⊢
  have HN := Lib.hid hn
  have HT := Lib.hid ht
  clear h h3 hn ht
  go_enter Try.func46, Try.ntmps46
  go_wp2_with (at_make; refine wpList_make_full _ rfl _ _ 48 rfl w.heap.size 59 i0 (.agg #[.slice none 0 0]) 1 Try.underlying48 hi hz0 hz1 .i64 .i64 _ _ n rfl rfl rfl rfl (by rw [hz2]; omega) (by unfold maxLen; omega) (Nat.le_refl _) ?_; intro w1 hown1 hgrow1)
  have hb1 : Below w.heap.size w w1 := below_of_grown hgrow1 (Nat.le_refl _)
  obtain ⟨g, hg⟩ : ∃ g, g = w.heap.size := ⟨_, rfl⟩
  have O0 : Hid (∃ us, OwnShU w1 w.heap.size w1.heap.size (.slice (some ⟨g, 0, none⟩) n n) (padS xs 0) us) := by
    have hp : padS xs 0 = List.replicate n [] := by unfold padS; rw [HN.out]; simp
    have hm : (madeCells (Value.cells (.agg #[.slice none 0 0])) n).toList = List.replicate n (Value.slice none 0 0) := by
      apply List.ext_getElem?
      intro i
      by_cases hi : i < n
      · simp [madeCells, Value.cells, hi, Nat.mod_one]
      · simp [madeCells, Value.cells, hi]
    refine ⟨List.replicate n (.slice none 0 0), by rw [hp]; simp, ?_, fun k e => ?_, fun j hj => ?_, fun i j u u' e1 e2 _ => ?_⟩
    · rw [hp, List.length_replicate, ← hm, hg]
      rw [Nat.mul_one] at hown1
      exact hown1
    · have : g = k := by simpa [Value.ownBlock] using e
      rw [← this, hg]
      exact (hown1.lt _ rfl).2
    · have hj' : j < n := by rw [hp] at hj; simpa using hj
      refine ⟨.slice none 0 0, by simp [hj'], ?_, fun k e => by simp [Value.ownBlock] at e, .inl rfl⟩
      have e0 : (padS xs 0)[j] = [] := by simp [hp]
      rw [e0]
      exact World.ownsRow_nil _ _ _ _
    · have : u = .slice none 0 0 := by
        have := List.mem_of_getElem? e1
        exact (List.mem_replicate.1 this).2
      rw [this]
      exact .inl rfl
  have HB := Lib.hid hb1
  have HGE := Lib.hid hg
  clear hown1 hgrow1 hb1
  rw [← hg]
  clear hg
  go_loopw [4] (fun i wr => ∃ k : Nat, k ≤ n ∧ i = .int .i64 k ∧ Hid (∃ us, OwnShU wr w.heap.size wr.heap.size (.slice (some ⟨g, 0, none⟩) n n) (padS xs k) us) ∧ Hid (Below w.heap.size w wr)) (fun i _ => n - (intOf i).toNat)
  case atStart => exact ⟨0, Nat.zero_le _, rfl, O0.out, HB.out⟩
  case round =>
    obtain ⟨k, hk, rfl, ho, hb⟩ := hrel
    by_cases hlt : k < n
    · have hk' : k < xs.length := by rw [← HN.out]; exact hlt
      obtain ⟨b, off, u, rfl, l1, c1, i1⟩ := H3.out k hk'
      have d1 : wr.cell? ⟨b, off + k, none⟩ = some u := (hb.out.cell (p := ⟨b, off + k, none⟩) l1).trans c1
      have I1 := Lib.hid (i1.below hb.out)
      have hxk : xs[k].length ≤ 1048576 := Nat.le_trans (totS_mem xs _ (List.getElem_mem hk')) HT.out
      have PS := padS_set xs k hk'
      have PL := padS_len xs k (by omega)
      obtain ⟨x, hx2⟩ : ∃ x, x = xs[k] := ⟨_, rfl⟩
      rw [← hx2] at I1 hxk PS
      have PS := Lib.hid PS
      have PL := Lib.hid PL
      clear hx2 c1 i1
      go_wp2_with (go_at_call 62; refine (toSheet_any u x wr I1.out hxk).mono ?_)
      rintro e w5 ⟨v5, rfl, o5, b5⟩
      obtain ⟨us, hus⟩ := ho.out
      have h5 : OwnShU w5 w.heap.size wr.heap.size (.slice (some ⟨g, 0, none⟩) n n) (padS xs k) us := hus.kept (fun j _ hj _ => b5.block j hj)
      have how := h5.2.1
      have hul : us.length = n := by rw [h5.1, PL.out, HN.out]
      rw [PL.out, ← HN.out] at how
      obtain ⟨u1, e1⟩ : ∃ u, w5.cell? ⟨g, k, none⟩ = some u := ⟨_, (how.cellAt k (by omega)).trans (List.getElem?_eq_getElem (by omega))⟩
      have z1 := how.frozenAt k
      obtain ⟨va, vn, vc, rfl⟩ : ∃ va vn vc, v5 = .slice va vn vc := by
        rcases o5.2 with ⟨rfl, _⟩ | ⟨g, cp, cur, rfl, _⟩
        · exact ⟨_, _, _, rfl⟩
        · exact ⟨_, _, _, rfl⟩
      have s1 := how.stored k (.slice va vn vc)
      have hws := hb.out.size
      have fin : Hid (∃ us, OwnShU (w5.setCell ⟨g, k, none⟩ (.slice va vn vc)) w.heap.size (w5.setCell ⟨g, k, none⟩ (.slice va vn vc)).heap.size (.slice (some ⟨g, 0, none⟩) n n) (padS xs (k + 1)) us) := by
        refine ⟨_, PS.out ▸ h5.put (by rw [PL.out]; exact hk') (World.ownsRow.mono o5 hws) (fun j e => (o5.lt j e).1) s1.2 ?_⟩
        rw [PL.out, ← HN.out]
        exact s1.1
      have hgw : w.heap.size ≤ g := by rw [HGE.out]; exact Nat.le_refl _
      have B5 := below_next hb.out b5 (Nat.le_refl _)
      have bfin := B5.grown s1.2 (by have := B5.size; omega) (fun j hj => by cases hj; exact hgw)
      have BF := Lib.hid bfin
      clear s1 how bfin hus h5 o5 b5 B5 ho hb hul
      go_wp2
      go_roundw
      case rel => exact ⟨k + 1, by omega, by go_num, fin.out, BF.out⟩
      case measure => simp [intOf]; omega
    · obtain rfl : k = n := by omega
      have fin : Hid (OwnSheets wr w.heap.size wr.heap.size (.slice (some ⟨g, 0, none⟩) k k) xs) := by
        obtain ⟨us, hus⟩ := ho.out
        rw [HN.out, padS_end] at hus
        rw [HN.out]
        exact ⟨us, hus⟩
      go_wp2
      go_ret
      exact ⟨_, rfl, fin.out, hb.out⟩
end Go.Proofs.Ytgbbodmggbeflaa

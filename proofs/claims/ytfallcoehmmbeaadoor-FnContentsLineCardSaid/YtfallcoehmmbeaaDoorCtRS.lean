/-
  PROVED HERE: what ReadContents of the reference returns. Conditions: each theorem's own.
-/
import Derived.Test.YtfallcoehmmbeaaDoorCtRd
import Derived.Test.YtfallcoehmmbeaaDoorDigs
import Derived.Test.YtfallcoehmmbeaaDoorLineS
set_option linter.unusedVariables false
set_option linter.unusedSimpArgs false
namespace Go.Proofs.YtfallcoehmmbeaaDoor
open Go.RowKit

theorem owns_lit3 (w : World) (base : Nat) (E : TypeId) (sz n : Nat) (l : List Value) (hb : base ≤ w.heap.size) (hn : n ≤ maxLen) (hl : l.length = n * sz) : (w.alloc (.cells l.toArray E)).ownsRow base E sz (.slice (some ⟨w.heap.size, 0, none⟩) n n) n l :=
  ⟨hl, .inr ⟨w.heap.size, n, l.toArray, rfl, hb, heap_alloc_new w _, Nat.le_refl _, hn, by simpa using hl, by rw [← hl]; simp⟩⟩
/-- What is known of a cell of three that is the call's own. -/
def Res3 (w : World) (g : Nat) : Prop := ∃ x y z : Value, w.cell? ⟨g, 0, none⟩ = some x ∧ w.cell? ⟨g, 1, none⟩ = some y ∧ w.cell? ⟨g, 2, none⟩ = some z
theorem own3 {w : World} {base g : Nat} {E : TypeId} {x y z : Value} (h : w.ownsRow base E 3 (.slice (some ⟨g, 0, none⟩) 1 1) 1 [x, y, z]) : w.cell? ⟨g, 0, none⟩ = some x ∧ w.cell? ⟨g, 1, none⟩ = some y ∧ w.cell? ⟨g, 2, none⟩ = some z :=
  ⟨h.cellAt 0 (by omega), h.cellAt 1 (by omega), h.cellAt 2 (by omega)⟩
theorem own3_put {w0 w : World} {base g : Nat} {E : TypeId} {x y z : Value} (h : w.ownsRow base E 3 (.slice (some ⟨g, 0, none⟩) 1 1) 1 [x, y, z]) (hb : Below w0.heap.size w0 w) (hg : w0.heap.size ≤ g) (a b c : Value) :
    Below w0.heap.size w0 (((w.setCell ⟨g, 0, none⟩ a).setCell ⟨g, 1, none⟩ b).setCell ⟨g, 2, none⟩ c) := by
  have s0 := h.stored 0 a
  have s1 := s0.1.stored 1 b
  have s2 := s1.1.stored 2 c
  have h0 := hb.size
  have h1 := s0.2.size
  have h2 := s1.2.size
  exact ((hb.grown s0.2 h0 (fun j hj => by cases hj; exact hg)).grown s1.2 (by omega) (fun j hj => by cases hj; exact hg)).grown s2.2 (by omega) (fun j hj => by cases hj; exact hg)
theorem own3_read {w : World} {base g : Nat} {E : TypeId} {x y z : Value} (h : w.ownsRow base E 3 (.slice (some ⟨g, 0, none⟩) 1 1) 1 [x, y, z]) (a b c : Value) :
    (w.setCell ⟨g, 0, none⟩ a).cell? ⟨g, 0, none⟩ = some a ∧ ((w.setCell ⟨g, 0, none⟩ a).setCell ⟨g, 1, none⟩ b).cell? ⟨g, 1, none⟩ = some b ∧ (((w.setCell ⟨g, 0, none⟩ a).setCell ⟨g, 1, none⟩ b).setCell ⟨g, 2, none⟩ c).cell? ⟨g, 2, none⟩ = some c := by
  have s0 := h.stored 0 a
  have s1 := s0.1.stored 1 b
  have s2 := s1.1.stored 2 c
  exact ⟨s0.1.cellAt 0 (by omega), s1.1.cellAt 1 (by omega), s2.1.cellAt 2 (by omega)⟩
theorem ne_u8 (c : UInt8) (k : Nat) (hk : k < 256) (h : c.toNat ≠ k) : c ≠ UInt8.ofNat k := by
  intro e
  apply h
  rw [e, UInt8.toNat_ofNat']
  omega
theorem eq_u8 (c : UInt8) (k : Nat) (h : c.toNat = k) : c = UInt8.ofNat k := by
  rw [← h]
  simp

set_option maxRecDepth 100000 in
set_option maxHeartbeats 16000000 in
theorem specReadCt_any (l : List UInt8) (hl : l.length ≤ 1048600) (w : World) : Calls Tryd.prog 20 #[.string (bs l)] w (RetCt l w) := by
  by_cases h0 : l = []
  · subst h0
    have R : Hid (CtRes [] [] 0 0 false) := CtRes.none ct_empty
    go_enter Tryd.func20, Tryd.ntmps20
    go_wp2
    refine wp_loop_rounds 1 ?_
    rw [rounds_succ]
    go_wp2
    refine wp_loop_rounds 1 ?_
    rw [rounds_succ]
    go_wp2
    refine wp_loop_rounds 1 ?_
    rw [rounds_succ]
    go_wp2
    refine bodyPost_ret (v := .tuple #[.agg #[.string (bs []), .int .i64 0, .int .i64 0], .bool false]) (by simp [results, Tryd.results20, go_sem]) rfl ⟨[], 0, 0, false, rfl, R.out, ?_⟩
    repeat (first | exact Below.refl _ _ | apply Below.drew | (refine Below.alloc ?_ (by first | (simp; done) | (simp; omega)) _) | (refine Below.setCell ?_ (by simp) _))
  · obtain ⟨m, hm⟩ : ∃ m, l.length = m + 1 := ⟨l.length - 1, by have := List.length_pos_iff.2 h0; omega⟩
    have HM := Lib.hid hm
    have hs : (bs l).size = m + 1 := by rw [← hm]; simp [ByteArray.size]
    have IX := Lib.hid (fun k (hk : k < m + 1) => idx_byte l k (by rw [hm]; exact hk))
    rw [hm] at hl
    obtain ⟨w0, hw0⟩ : ∃ w0, w0 = w.alloc (.cells #[.string ⟨#[]⟩, .int .i64 0, .int .i64 0] 26) := ⟨_, rfl⟩
    have A0 : Hid (Below w.heap.size w w0) := by rw [hw0]; exact (Below.refl w.heap.size w).alloc (Nat.le_refl _) _
    have O0 : Hid (w0.ownsRow w.heap.size 26 3 (.slice (some ⟨w.heap.size, 0, none⟩) 1 1) 1 [.string ⟨#[]⟩, .int .i64 0, .int .i64 0]) := by
      rw [hw0]
      exact owns_lit3 w w.heap.size 26 3 1 _ (Nat.le_refl _) (by unfold maxLen; omega) rfl
    have SW := Lib.hid (show w.heap.size ≤ w0.heap.size by rw [hw0]; simp)
    clear hm h0
    go_enter Tryd.func20, Tryd.ntmps20
    go_wp2
    rw [← hw0]
    clear hw0
    go_loopw [4] (fun sv wr => ∃ k : Nat, k ≤ m + 1 ∧ sv = .int .i64 k ∧ Hid (∀ j, j < k → l.getD j 0 = 32) ∧ wr = w0) (fun sv _ => m + 1 - (intOf sv).toNat)
    case atStart => exact ⟨0, Nat.zero_le _, rfl, fun j h => absurd h (Nat.not_lt_zero _), rfl⟩
    case round =>
      obtain ⟨k, hk, rfl, hall, hwr⟩ := hrel
      obtain rfl := hwr.symm
      by_cases hlt : k < m + 1
      · have ix := IX.out k hlt (k : Int) rfl
        obtain ⟨c0, hc0⟩ : ∃ c0, c0 = l.getD k 0 := ⟨_, rfl⟩
        rw [← hc0] at ix
        obtain ⟨c, hc⟩ : ∃ c, c = c0.toNat := ⟨_, rfl⟩
        rw [← hc] at ix
        by_cases h32 : c = 32
        · have hcz : (c : Int) = 32 := by omega
          rw [hcz] at ix
          have AL : Hid (∀ j, j < k + 1 → l.getD j 0 = 32) := fun j hj => by
            by_cases hjk : j = k
            · rw [hjk, ← hc0]; exact eq_u8 c0 32 (by rw [← hc]; exact h32)
            · exact hall.out j (by omega)
          clear hc hc0 hall hcz
          go_wp2
          exact ⟨⟨k + 1, by omega, by go_num, AL.out, trivial⟩, by simp [intOf]; omega⟩
        · have hcz : ((c : Int) == 32) = false := by simp; omega
          have H1 : Hid (S1 l k) := ⟨by have := HM.out; omega, hall.out, fun _ => by rw [← hc0]; exact ne_u8 c0 32 (by decide) (by rw [← hc]; exact h32)⟩
          clear hc hc0 hall
          go_wp2
          go_loopw [5] (fun sv wr => ∃ q : Nat, q ≤ m ∧ sv = .int .i64 q ∧ Hid (∀ j, q < j → j < l.length → l.getD j 0 ≠ 32) ∧ wr = w0) (fun sv _ => (intOf sv).toNat)
          case atStart => exact ⟨m, Nat.le_refl _, by go_num, fun j h1 h2 => absurd h2 (by have := HM.out; omega), rfl⟩
          case round =>
            obtain ⟨q, hq, rfl, hal2, hwr⟩ := hrel
            obtain rfl := hwr.symm
            have hqn : q < m + 1 := by omega
            by_cases hq0 : 0 < q
            · have hq0' : (0 : Int) < (q : Int) := by omega
              have ix := IX.out q hqn (q : Int) rfl
              obtain ⟨c0, hc0⟩ : ∃ c0, c0 = l.getD q 0 := ⟨_, rfl⟩
              rw [← hc0] at ix
              obtain ⟨c, hc⟩ : ∃ c, c = c0.toNat := ⟨_, rfl⟩
              rw [← hc] at ix
              by_cases h32 : c = 32
              · have hcz : ((c : Int) != 32) = false := by simp; omega
                have H2 : Hid (S2 l q) := ⟨by rw [HM.out]; exact hqn, hal2.out, fun _ => by rw [← hc0]; exact eq_u8 c0 32 (by rw [← hc]; exact h32)⟩
                clear hc hc0 hal2
                go_wp2
                go_loopw [6] (fun sv wr => ∃ p : Nat, p ≤ q ∧ sv = .int .i64 p ∧ Hid (∀ j, p ≤ j → j < q → l.getD j 0 = 46) ∧ wr = w0) (fun sv _ => (intOf sv).toNat)
                case atStart => exact ⟨q, Nat.le_refl _, rfl, fun j h1 h2 => absurd h2 (by omega), rfl⟩
                case round =>
                  obtain ⟨p, hp, rfl, hal3, hwr⟩ := hrel
                  obtain rfl := hwr.symm
                  by_cases hp0 : 0 < p
                  · obtain ⟨p, rfl⟩ : ∃ p', p = p' + 1 := ⟨p - 1, by omega⟩
                    have hpn : p < m + 1 := by omega
                    have ix := IX.out p hpn (p : Int) rfl
                    obtain ⟨c0, hc0⟩ : ∃ c0, c0 = l.getD p 0 := ⟨_, rfl⟩
                    rw [← hc0] at ix
                    obtain ⟨c, hc⟩ : ∃ c, c = c0.toNat := ⟨_, rfl⟩
                    rw [← hc] at ix
                    by_cases h46 : c = 46
                    · have hcz : (c : Int) = 46 := by omega
                      rw [hcz] at ix
                      have AL : Hid (∀ j, p ≤ j → j < q → l.getD j 0 = 46) := fun j h1 h2 => by
                        by_cases hj : j = p
                        · rw [hj, ← hc0]; exact eq_u8 c0 46 (by rw [← hc]; exact h46)
                        · exact hal3.out j (by omega) h2
                      clear hc hc0 hal3 hcz
                      go_wp2
                      exact ⟨⟨p, by omega, by go_num, AL.out, trivial⟩, by simp [intOf]⟩
                    · have hcz : ((c : Int) == 46) = false := by simp; omega
                      have H3 : Hid (S3 l q (p + 1)) := ⟨hp, hal3.out, fun _ => by rw [Nat.add_sub_cancel, ← hc0]; exact ne_u8 c0 46 (by decide) (by rw [← hc]; exact h46)⟩
                      clear hc hc0 hal3
                      by_cases hle : p ≤ k
                      · have NB : Hid (∀ l' v' p', ¬ CtIs l' v' p' l) := fun l' v' p' h => by
                          have := ct_specA H1.out H2.out H3.out h
                          omega
                        have hle' : (p : Int) ≤ (k : Int) := by omega
                        obtain ⟨rc0, rc1, rc2⟩ := own3 O0.out
                        have rz0 := O0.out.frozenAt 0
                        have rz1 := O0.out.frozenAt 1
                        have rz2 := O0.out.frozenAt 2
                        obtain ⟨rf0, rf1, rf2⟩ := own3_read O0.out (.string ⟨#[]⟩) (.int .i64 0) (.int .i64 0)
                        go_wp2
                        refine bodyPost_ret (v := .tuple #[.agg #[.string (bs []), .int .i64 0, .int .i64 0], .bool false]) (by simp [results, Tryd.results20, go_sem, rf0, rf1, rf2]) rfl ⟨[], 0, 0, false, rfl, CtRes.none NB.out, own3_put O0.out A0.out (Nat.le_refl _) _ _ _⟩
                      · have hle' : ¬ (p : Int) ≤ (k : Int) := by omega
                        have hkp : (k : Int) ≤ (p : Int) := by omega
                        have hpm : (p : Int) ≤ (m : Int) + 1 := by omega
                        have DG : Hid (Calls Tryd.prog 52 #[.string (bs l), .int .i64 ((q : Int) + 1)] w0 (DigPost l (q + 1) w0)) := digits_any l (q + 1) (by have := HM.out; omega) (by have := HM.out; omega) w0
                        have SL := bs_slice l k p
                        obtain ⟨T, hT⟩ : ∃ T, T = (l.drop k).take (p - k) := ⟨_, rfl⟩
                        rw [← hT] at SL
                        have hTl : T.length ≤ 1048600 := by rw [hT]; simp; have := HM.out; omega
                        have HT := Lib.hid hT
                        clear hT
                        go_wp2_with (go_at_call 52; refine (DG.out).mono ?_)
                        rintro e w1 ⟨dk, N, rfl, hdt, hN, hN9, hdd, b1⟩
                        have CD : Hid (∀ l' v' p', CtIs l' v' p' l → l' = T ∧ v' = (k : Int) / 2 ∧ p' = (N : Int) ∧ q + 1 + dk = m + 1) := fun l' v' p' h => by
                          obtain ⟨_, e2, e3, e4, e5⟩ := ct_spec H1.out H2.out H3.out hdt h
                          rw [Nat.add_sub_cancel, ← HT.out] at e2
                          exact ⟨e2.symm, by omega, by rw [hN]; exact e4.symm, by rw [e5]; exact HM.out⟩
                        have O1 := Lib.hid (owns_below O0.out b1)
                        have B1 := Lib.hid (A0.out.trans (b1.mono SW.out))
                        have hws := B1.out.size
                        have LN := Lib.hid (fun w => specLine_any T ((k : Int) / 2) N ((m : Int) + 1) hTl w)
                        obtain ⟨V, hV⟩ : ∃ V, V = lnOk T ((k : Int) / 2) N ((m : Int) + 1) := ⟨_, rfl⟩
                        obtain ⟨X, hX⟩ : ∃ X, X = lnTxt T ((k : Int) / 2) N ((m : Int) + 1) := ⟨_, rfl⟩
                        rw [← hV, ← hX] at LN
                        have HV := Lib.hid hV
                        have HX := Lib.hid hX
                        clear hdt hN hdd b1 DG hV hX hTl
                        go_wp2_with (go_at_call 16; refine (LN.out _).mono ?_)
                        rintro e w2 ⟨rfl, b2⟩
                        obtain ⟨c0', c1', c2'⟩ := boxT w1 T ((k : Int) / 2) N _ rfl w2 b2
                        have O2 := Lib.hid (owns_below (O1.out.alloc _) b2)
                        have B2 := Lib.hid (below_next (B1.out.alloc hws _) b2 (Nat.le_refl _))
                        clear b2 LN O1 B1
                        have hml : ((m : Int) + 1) = (l.length : Int) := by have := HM.out; omega
                        have HML := Lib.hid hml
                        clear hml
                        cases V
                        · have NB : Hid (∀ l' v' p', ¬ CtIs l' v' p' l) := fun l' v' p' h => by
                            obtain ⟨e1, e2, e3, _⟩ := CD.out l' v' p' h
                            have h1 := h.1
                            rw [e1, e2, e3, ← HML.out, ← HV.out] at h1
                            cases h1
                          obtain ⟨rc0, rc1, rc2⟩ := own3 O2.out
                          have rz0 := O2.out.frozenAt 0
                          have rz1 := O2.out.frozenAt 1
                          have rz2 := O2.out.frozenAt 2
                          obtain ⟨rf0, rf1, rf2⟩ := own3_read O2.out (.string ⟨#[]⟩) (.int .i64 0) (.int .i64 0)
                          go_wp2
                          refine bodyPost_ret (v := .tuple #[.agg #[.string (bs []), .int .i64 0, .int .i64 0], .bool false]) (by simp [results, Tryd.results20, go_sem, rf0, rf1, rf2]) rfl ⟨[], 0, 0, false, rfl, CtRes.none NB.out, own3_put O2.out B2.out (Nat.le_refl _) _ _ _⟩
                        · by_cases hXl : X = l
                          · have CI : CtIs T ((k : Int) / 2) N l := ⟨by rw [← HML.out, ← HV.out], by rw [← HML.out, ← HX.out]; exact hXl⟩
                            have hend : ((q : Int) + 1 + (dk : Int) != (m : Int) + 1) = false := by
                              have := (CD.out _ _ _ CI).2.2.2
                              simp
                              omega
                            have CI := Lib.hid CI
                            clear HX HV CD HT
                            subst hXl
                            obtain ⟨rc0, rc1, rc2⟩ := own3 O2.out
                            have rz0 := O2.out.frozenAt 0
                            have rz1 := O2.out.frozenAt 1
                            have rz2 := O2.out.frozenAt 2
                            obtain ⟨rf0, rf1, rf2⟩ := own3_read O2.out (.string (bs T)) (.int .i64 ((k : Int) / 2)) (.int .i64 N)
                            go_wp2
                            refine bodyPost_ret (v := .tuple #[.agg #[.string (bs T), .int .i64 ((k : Int) / 2), .int .i64 N], .bool true]) (by simp [results, Tryd.results20, go_sem, rf0, rf1, rf2]) rfl ⟨T, _, _, true, rfl, CtRes.some CI.out, own3_put O2.out B2.out (Nat.le_refl _) _ _ _⟩
                          · have hcmp : (X == l) = false := by simpa using hXl
                            have NB : Hid (∀ l' v' p', ¬ CtIs l' v' p' l) := fun l' v' p' h => by
                              obtain ⟨e1, e2, e3, _⟩ := CD.out l' v' p' h
                              have h2 := h.2
                              rw [e1, e2, e3, ← HML.out, ← HX.out] at h2
                              exact hXl h2
                            obtain ⟨rc0, rc1, rc2⟩ := own3 O2.out
                            have rz0 := O2.out.frozenAt 0
                            have rz1 := O2.out.frozenAt 1
                            have rz2 := O2.out.frozenAt 2
                            obtain ⟨rf0, rf1, rf2⟩ := own3_read O2.out (.string ⟨#[]⟩) (.int .i64 0) (.int .i64 0)
                            go_wp2
                            refine bodyPost_ret (v := .tuple #[.agg #[.string (bs []), .int .i64 0, .int .i64 0], .bool false]) (by simp [results, Tryd.results20, go_sem, rf0, rf1, rf2]) rfl ⟨[], 0, 0, false, rfl, CtRes.none NB.out, own3_put O2.out B2.out (Nat.le_refl _) _ _ _⟩
                  · obtain rfl : p = 0 := by omega
                    have H3 : Hid (S3 l q 0) := ⟨Nat.zero_le _, hal3.out, fun h => absurd h (Nat.lt_irrefl _)⟩
                    clear hal3
                    have NB : Hid (∀ l' v' p', ¬ CtIs l' v' p' l) := fun l' v' p' h => by
                      have := ct_specA H1.out H2.out H3.out h
                      omega
                    have hle : (0 : Int) - 1 ≤ (k : Int) := by omega
                    obtain ⟨rc0, rc1, rc2⟩ := own3 O0.out
                    have rz0 := O0.out.frozenAt 0
                    have rz1 := O0.out.frozenAt 1
                    have rz2 := O0.out.frozenAt 2
                    obtain ⟨rf0, rf1, rf2⟩ := own3_read O0.out (.string ⟨#[]⟩) (.int .i64 0) (.int .i64 0)
                    go_wp2
                    refine bodyPost_ret (v := .tuple #[.agg #[.string (bs []), .int .i64 0, .int .i64 0], .bool false]) (by simp [results, Tryd.results20, go_sem, rf0, rf1, rf2]) rfl ⟨[], 0, 0, false, rfl, CtRes.none NB.out, own3_put O0.out A0.out (Nat.le_refl _) _ _ _⟩
              · have hcz : ((c : Int) != 32) = true := by simp; omega
                have AL : Hid (∀ j, q - 1 < j → j < l.length → l.getD j 0 ≠ 32) := fun j h1 h2 => by
                  by_cases hj : j = q
                  · rw [hj, ← hc0]; exact ne_u8 c0 32 (by decide) (by rw [← hc]; exact h32)
                  · exact hal2.out j (by omega) h2
                clear hc hc0 hal2
                go_wp2
                exact ⟨⟨q - 1, by omega, by go_num, AL.out, trivial⟩, by simp [intOf]; omega⟩
            · have hq0' : ¬ (0 : Int) < (q : Int) := by omega
              have H2 : Hid (S2 l q) := ⟨by rw [HM.out]; exact hqn, hal2.out, fun h => absurd h hq0⟩
              clear hal2
              go_wp2
              go_loopw [6] (fun sv wr => ∃ p : Nat, p ≤ q ∧ sv = .int .i64 p ∧ Hid (∀ j, p ≤ j → j < q → l.getD j 0 = 46) ∧ wr = w0) (fun sv _ => (intOf sv).toNat)
              case atStart => exact ⟨q, Nat.le_refl _, rfl, fun j h1 h2 => absurd h2 (by omega), rfl⟩
              case round =>
                obtain ⟨p, hp, rfl, hal3, hwr⟩ := hrel
                obtain rfl := hwr.symm
                by_cases hp0 : 0 < p
                · exfalso
                  omega
                · obtain rfl : p = 0 := by omega
                  have H3 : Hid (S3 l q 0) := ⟨Nat.zero_le _, hal3.out, fun h => absurd h (Nat.lt_irrefl _)⟩
                  clear hal3
                  have NB : Hid (∀ l' v' p', ¬ CtIs l' v' p' l) := fun l' v' p' h => by
                    have := ct_specA H1.out H2.out H3.out h
                    omega
                  have hle : (0 : Int) - 1 ≤ (k : Int) := by omega
                  obtain ⟨rc0, rc1, rc2⟩ := own3 O0.out
                  have rz0 := O0.out.frozenAt 0
                  have rz1 := O0.out.frozenAt 1
                  have rz2 := O0.out.frozenAt 2
                  obtain ⟨rf0, rf1, rf2⟩ := own3_read O0.out (.string ⟨#[]⟩) (.int .i64 0) (.int .i64 0)
                  go_wp2
                  refine bodyPost_ret (v := .tuple #[.agg #[.string (bs []), .int .i64 0, .int .i64 0], .bool false]) (by simp [results, Tryd.results20, go_sem, rf0, rf1, rf2]) rfl ⟨[], 0, 0, false, rfl, CtRes.none NB.out, own3_put O0.out A0.out (Nat.le_refl _) _ _ _⟩
      · have hlt' : ¬ (k : Int) < (m : Int) + 1 := by omega
        have H1 : Hid (S1 l k) := ⟨by have := HM.out; omega, hall.out, fun h => absurd h (by have := HM.out; omega)⟩
        clear hall
        go_wp2
        go_loopw [5] (fun sv wr => ∃ q : Nat, q ≤ m ∧ sv = .int .i64 q ∧ Hid (∀ j, q < j → j < l.length → l.getD j 0 ≠ 32) ∧ wr = w0) (fun sv _ => (intOf sv).toNat)
        case atStart => exact ⟨m, Nat.le_refl _, by go_num, fun j h1 h2 => absurd h2 (by have := HM.out; omega), rfl⟩
        case round =>
          obtain ⟨q, hq, rfl, hal2, hwr⟩ := hrel
          obtain rfl := hwr.symm
          have hqn : q < m + 1 := by omega
          by_cases hq0 : 0 < q
          · have hq0' : (0 : Int) < (q : Int) := by omega
            have ix := IX.out q hqn (q : Int) rfl
            obtain ⟨c0, hc0⟩ : ∃ c0, c0 = l.getD q 0 := ⟨_, rfl⟩
            rw [← hc0] at ix
            obtain ⟨c, hc⟩ : ∃ c, c = c0.toNat := ⟨_, rfl⟩
            rw [← hc] at ix
            by_cases h32 : c = 32
            · have hcz : ((c : Int) != 32) = false := by simp; omega
              have H2 : Hid (S2 l q) := ⟨by rw [HM.out]; exact hqn, hal2.out, fun _ => by rw [← hc0]; exact eq_u8 c0 32 (by rw [← hc]; exact h32)⟩
              clear hc hc0 hal2
              go_wp2
              go_loopw [6] (fun sv wr => ∃ p : Nat, p ≤ q ∧ sv = .int .i64 p ∧ Hid (∀ j, p ≤ j → j < q → l.getD j 0 = 46) ∧ wr = w0) (fun sv _ => (intOf sv).toNat)
              case atStart => exact ⟨q, Nat.le_refl _, rfl, fun j h1 h2 => absurd h2 (by omega), rfl⟩
              case round =>
                obtain ⟨p, hp, rfl, hal3, hwr⟩ := hrel
                obtain rfl := hwr.symm
                by_cases hp0 : 0 < p
                · obtain ⟨p, rfl⟩ : ∃ p', p = p' + 1 := ⟨p - 1, by omega⟩
                  have hpn : p < m + 1 := by omega
                  have ix := IX.out p hpn (p : Int) rfl
                  obtain ⟨c0, hc0⟩ : ∃ c0, c0 = l.getD p 0 := ⟨_, rfl⟩
                  rw [← hc0] at ix
                  obtain ⟨c, hc⟩ : ∃ c, c = c0.toNat := ⟨_, rfl⟩
                  rw [← hc] at ix
                  by_cases h46 : c = 46
                  · have hcz : (c : Int) = 46 := by omega
                    rw [hcz] at ix
                    have AL : Hid (∀ j, p ≤ j → j < q → l.getD j 0 = 46) := fun j h1 h2 => by
                      by_cases hj : j = p
                      · rw [hj, ← hc0]; exact eq_u8 c0 46 (by rw [← hc]; exact h46)
                      · exact hal3.out j (by omega) h2
                    clear hc hc0 hal3 hcz
                    go_wp2
                    exact ⟨⟨p, by omega, by go_num, AL.out, trivial⟩, by simp [intOf]⟩
                  · have hcz : ((c : Int) == 46) = false := by simp; omega
                    have H3 : Hid (S3 l q (p + 1)) := ⟨hp, hal3.out, fun _ => by rw [Nat.add_sub_cancel, ← hc0]; exact ne_u8 c0 46 (by decide) (by rw [← hc]; exact h46)⟩
                    clear hc hc0 hal3
                    by_cases hle : p ≤ k
                    · have NB : Hid (∀ l' v' p', ¬ CtIs l' v' p' l) := fun l' v' p' h => by
                        have := ct_specA H1.out H2.out H3.out h
                        omega
                      have hle' : (p : Int) ≤ (k : Int) := by omega
                      obtain ⟨rc0, rc1, rc2⟩ := own3 O0.out
                      have rz0 := O0.out.frozenAt 0
                      have rz1 := O0.out.frozenAt 1
                      have rz2 := O0.out.frozenAt 2
                      obtain ⟨rf0, rf1, rf2⟩ := own3_read O0.out (.string ⟨#[]⟩) (.int .i64 0) (.int .i64 0)
                      go_wp2
                      refine bodyPost_ret (v := .tuple #[.agg #[.string (bs []), .int .i64 0, .int .i64 0], .bool false]) (by simp [results, Tryd.results20, go_sem, rf0, rf1, rf2]) rfl ⟨[], 0, 0, false, rfl, CtRes.none NB.out, own3_put O0.out A0.out (Nat.le_refl _) _ _ _⟩
                    · exfalso
                      omega
                · obtain rfl : p = 0 := by omega
                  have H3 : Hid (S3 l q 0) := ⟨Nat.zero_le _, hal3.out, fun h => absurd h (Nat.lt_irrefl _)⟩
                  clear hal3
                  have NB : Hid (∀ l' v' p', ¬ CtIs l' v' p' l) := fun l' v' p' h => by
                    have := ct_specA H1.out H2.out H3.out h
                    omega
                  have hle : (0 : Int) - 1 ≤ (k : Int) := by omega
                  obtain ⟨rc0, rc1, rc2⟩ := own3 O0.out
                  have rz0 := O0.out.frozenAt 0
                  have rz1 := O0.out.frozenAt 1
                  have rz2 := O0.out.frozenAt 2
                  obtain ⟨rf0, rf1, rf2⟩ := own3_read O0.out (.string ⟨#[]⟩) (.int .i64 0) (.int .i64 0)
                  go_wp2
                  refine bodyPost_ret (v := .tuple #[.agg #[.string (bs []), .int .i64 0, .int .i64 0], .bool false]) (by simp [results, Tryd.results20, go_sem, rf0, rf1, rf2]) rfl ⟨[], 0, 0, false, rfl, CtRes.none NB.out, own3_put O0.out A0.out (Nat.le_refl _) _ _ _⟩
            · have hcz : ((c : Int) != 32) = true := by simp; omega
              have AL : Hid (∀ j, q - 1 < j → j < l.length → l.getD j 0 ≠ 32) := fun j h1 h2 => by
                by_cases hj : j = q
                · rw [hj, ← hc0]; exact ne_u8 c0 32 (by decide) (by rw [← hc]; exact h32)
                · exact hal2.out j (by omega) h2
              clear hc hc0 hal2
              go_wp2
              exact ⟨⟨q - 1, by omega, by go_num, AL.out, trivial⟩, by simp [intOf]; omega⟩
          · have hq0' : ¬ (0 : Int) < (q : Int) := by omega
            have H2 : Hid (S2 l q) := ⟨by rw [HM.out]; exact hqn, hal2.out, fun h => absurd h hq0⟩
            clear hal2
            go_wp2
            go_loopw [6] (fun sv wr => ∃ p : Nat, p ≤ q ∧ sv = .int .i64 p ∧ Hid (∀ j, p ≤ j → j < q → l.getD j 0 = 46) ∧ wr = w0) (fun sv _ => (intOf sv).toNat)
            case atStart => exact ⟨q, Nat.le_refl _, rfl, fun j h1 h2 => absurd h2 (by omega), rfl⟩
            case round =>
              obtain ⟨p, hp, rfl, hal3, hwr⟩ := hrel
              obtain rfl := hwr.symm
              by_cases hp0 : 0 < p
              · exfalso
                omega
              · obtain rfl : p = 0 := by omega
                have H3 : Hid (S3 l q 0) := ⟨Nat.zero_le _, hal3.out, fun h => absurd h (Nat.lt_irrefl _)⟩
                clear hal3
                have NB : Hid (∀ l' v' p', ¬ CtIs l' v' p' l) := fun l' v' p' h => by
                  have := ct_specA H1.out H2.out H3.out h
                  omega
                have hle : (0 : Int) - 1 ≤ (k : Int) := by omega
                obtain ⟨rc0, rc1, rc2⟩ := own3 O0.out
                have rz0 := O0.out.frozenAt 0
                have rz1 := O0.out.frozenAt 1
                have rz2 := O0.out.frozenAt 2
                obtain ⟨rf0, rf1, rf2⟩ := own3_read O0.out (.string ⟨#[]⟩) (.int .i64 0) (.int .i64 0)
                go_wp2
                refine bodyPost_ret (v := .tuple #[.agg #[.string (bs []), .int .i64 0, .int .i64 0], .bool false]) (by simp [results, Tryd.results20, go_sem, rf0, rf1, rf2]) rfl ⟨[], 0, 0, false, rfl, CtRes.none NB.out, own3_put O0.out A0.out (Nat.le_refl _) _ _ _⟩
end Go.Proofs.YtfallcoehmmbeaaDoor

/-
  PROVED HERE: what ReadContents of the program returns. Conditions: each theorem's own.
-/
import Derived.Test.YtfallcoehmmbeaaGreatDoorCtRS
import Derived.Test.YtfallcoehmmbeaaGreatDoorAtoi
import Derived.Test.YtfallcoehmmbeaaGreatDoorLineI
set_option linter.unusedVariables false
set_option linter.unusedSimpArgs false
namespace Go.Proofs.YtfallcoehmmbeaaGreatDoor
open Go.RowKit

/-- What the library's functions read. -/
def RdTab (w : World) : Prop := CtTab w ∧ ErrTab w
theorem RdTab.below {w w' : World} {B : Nat} (h : RdTab w) (hb : Below B w w') (hB : w.heap.size ≤ B) : RdTab w' := ⟨h.1.below hb hB, h.2.below hb hB⟩
theorem bs_at (R : List UInt8) (j : Nat) : (bs R).data[j]! = R.getD j 0 := by
  simp [List.getD]
  rfl
theorem trimR_len (x : List UInt8) (c : UInt8) : (Lib.trimRightB x c).length ≤ x.length := by
  unfold Lib.trimRightB
  rw [List.length_reverse]
  have := (List.dropWhile_sublist (l := x.reverse) (fun x => x == c)).length_le
  simpa using this
theorem trimS_len (x p : List UInt8) : (Lib.trimSuffix x p).length ≤ x.length := by
  unfold Lib.trimSuffix
  split
  · simp
  · exact Nat.le_refl _
theorem last_of (R : List UInt8) : (Lib.lastIndexByte (bs R) 32 = -1 ∧ ∀ j, j < R.length → R.getD j 0 ≠ 32) ∨ ∃ i : Nat, i < R.length ∧ Lib.lastIndexByte (bs R) 32 = i ∧ R.getD i 0 = 32 ∧ ∀ j, i < j → j < R.length → R.getD j 0 ≠ 32 := by
  have hs : (bs R).size = R.length := by simp [ByteArray.size]
  have key : ∀ j, (((bs R).data[j]!).toNat : Int) = 32 ↔ R.getD j 0 = 32 := fun j => by
    rw [bs_at]
    constructor
    · intro h
      exact eq_u8 _ 32 (by omega)
    · intro h
      rw [h]
      rfl
  rcases Lib.lastIndexByte_spec (bs R) 32 with ⟨h1, h2⟩ | ⟨i, h1, h2, h3, h4⟩
  · exact .inl ⟨h1, fun j hj e => h2 j (by rw [hs]; exact hj) ((key j).2 e)⟩
  · exact .inr ⟨i, by rw [← hs]; exact h1, h2, (key i).1 h3, fun j a b e => h4 j a (by rw [hs]; exact b) ((key j).2 e)⟩

set_option maxRecDepth 100000 in
set_option maxHeartbeats 16000000 in
theorem implReadCt_any (l : List UInt8) (hl : l.length ≤ 1048600) (w : World) (hm : RdTab w) : Calls Tryz.prog 9 #[.string (bs l)] w (RetCt l w) := by
  obtain ⟨n, hn⟩ : ∃ n, n = l.length := ⟨_, rfl⟩
  have HN := Lib.hid hn
  have hs : (bs l).size = n := by rw [hn]; simp [ByteArray.size]
  obtain ⟨s, h1, htl⟩ := trimLeft_s1 l
  have hsn : s ≤ n := by rw [hn]; exact h1.1
  obtain ⟨R, hR⟩ : ∃ R, R = l.drop s := ⟨_, rfl⟩
  have HR := Lib.hid hR
  have H1 := Lib.hid h1
  obtain ⟨rl, hrl⟩ : ∃ rl, rl = R.length := ⟨_, rfl⟩
  have hrn : n = rl + s := by rw [hrl, hR, List.length_drop, ← hn]; omega
  have hsR : (bs R).size = rl := by rw [hrl]; simp [ByteArray.size]
  have TL : Hid (∀ w, Calls Tryz.prog 16 #[.string (bs l), .string ⟨#[32]⟩] w fun e w' => e = .returned (.string (bs R)) ∧ w' = w) := fun w => by
    have h := Tryz.strings_TrimLeft_one (bs l) 32 (by decide) w
    have e : (bs l).data.toList = l := by simp
    rw [e, htl, ← hR] at h
    exact h
  have LI : Hid (∀ w, Calls Tryz.prog 17 #[.string (bs R), .int .u8 32] w fun e w' => e = .returned (.int .i64 (Lib.lastIndexByte (bs R) 32)) ∧ w' = w) := fun w => Tryz.strings_LastIndexByte (bs R) 32 (by rw [hsR]; omega) w
  have hlev : IntKind.i64.wrap ((n : Int) - (rl : Int)) = (s : Int) := by rw [IntWalk.i64_in _ (by omega)]; omega
  have LA := last_of R
  obtain ⟨w0, hw0⟩ : ∃ w0, w0 = w.alloc (.cells #[.string ⟨#[]⟩, .int .i64 0, .int .i64 0] 32) := ⟨_, rfl⟩
  have A0 : Hid (Below w.heap.size w w0) := by rw [hw0]; exact (Below.refl w.heap.size w).alloc (Nat.le_refl _) _
  have O0 : Hid (w0.ownsRow w.heap.size 32 3 (.slice (some ⟨w.heap.size, 0, none⟩) 1 1) 1 [.string ⟨#[]⟩, .int .i64 0, .int .i64 0]) := by
    rw [hw0]
    exact owns_lit3 w w.heap.size 32 3 1 _ (Nat.le_refl _) (by unfold maxLen; omega) rfl
  have SW := Lib.hid (show w.heap.size ≤ w0.heap.size by rw [hw0]; simp)
  have TAB := Lib.hid (hm.below A0.out (Nat.le_refl _))
  rw [← hn] at hl
  have HRL := Lib.hid hrl
  have hr9 : rl ≤ 1048600 := by omega
  have hs9 : s ≤ 1048600 := by omega
  clear hn hR h1 htl hrl hm
  rcases LA with ⟨a1, a2⟩ | ⟨i, a1, a2, a3, a4⟩
  · rw [a1] at LI
    have NB : Hid (∀ l' v' p', ¬ CtIs l' v' p' l) := fun l' v' p' => ct_none H1.out (by rw [← HR.out]; exact a2) l' v' p'
    clear a1 a2
    go_enter Tryz.func9, Tryz.ntmps9
    obtain ⟨rc0, rc1, rc2⟩ := own3 O0.out
    have rz0 := O0.out.frozenAt 0
    have rz1 := O0.out.frozenAt 1
    have rz2 := O0.out.frozenAt 2
    obtain ⟨rf0, rf1, rf2⟩ := own3_read O0.out (.string ⟨#[]⟩) (.int .i64 0) (.int .i64 0)
    go_wp2_with fail
    rw [← hw0]
    refine (TL.out _).mono ?_
    rintro e w' ⟨rfl, hw'⟩
    rw [hw']
    clear hw' hw0 hrn
    go_wp2_with (first | (go_at_call 17; refine (LI.out _).mono ?_; rintro e w' ⟨rfl, hw'⟩; rw [hw']))
    refine bodyPost_ret (v := .tuple #[.agg #[.string (bs []), .int .i64 0, .int .i64 0], .bool false]) (by simp [results, Tryz.results9, go_sem, rf0, rf1, rf2]) rfl ⟨[], 0, 0, false, rfl, CtRes.none NB.out, own3_put O0.out A0.out (Nat.le_refl _) _ _ _⟩
  · rw [a2] at LI
    have hi0 : ¬ (i : Int) < 0 := by omega
    have hil : i < rl := by rw [HRL.out]; exact a1
    have hil' : (i : Int) + 1 ≤ (rl : Int) := by omega
    have hil2 : (i : Int) ≤ (rl : Int) := by omega
    have CI := Lib.hid (fun (l' : List UInt8) (v' p' : Int) (h : CtIs l' v' p' l) => ct_impl (i := i) H1.out (by rw [← HR.out]; exact a1) (by rw [← HR.out]; exact a3) (by rw [← HR.out]; exact a4) h)
    rw [← HR.out] at CI
    obtain ⟨D, hD⟩ : ∃ D, D = R.drop (i + 1) := ⟨_, rfl⟩
    have SD : (bs R).extract (i + 1) rl = bs D := by rw [hD, HRL.out]; exact bs_extract R (i + 1)
    obtain ⟨H, hH⟩ : ∃ H, H = R.take i := ⟨_, rfl⟩
    have SH : (bs R).extract 0 i = bs H := by rw [hH]; exact bs_slice R 0 i
    have hDl : D.length ≤ 4000000 := by rw [hD, List.length_drop, ← HRL.out]; omega
    have hHl : H.length ≤ 1048600 := by rw [hH, List.length_take, ← HRL.out]; omega
    obtain ⟨G, hG⟩ : ∃ G, G = Lib.trimRightB H 46 := ⟨_, rfl⟩
    have hGl : G.length ≤ 1048600 := by rw [hG]; exact Nat.le_trans (trimR_len H 46) hHl
    obtain ⟨T, hT⟩ : ∃ T, T = Lib.trimSuffix G [32] := ⟨_, rfl⟩
    have hTl : T.length ≤ 1048600 := by rw [hT]; exact Nat.le_trans (trimS_len G [32]) hGl
    have TR : Hid (∀ w, Calls Tryz.prog 20 #[.string (bs H), .string ⟨#[46]⟩] w fun e w' => e = .returned (.string (bs G)) ∧ w' = w) := fun w => by
      have h := Tryz.strings_TrimRight_one (bs H) 46 (by decide) w (by have h5 : (bs H).size = H.length := (by simp [ByteArray.size]); omega)
      have e : (bs H).data.toList = H := by simp
      rw [e, ← hG] at h
      exact h
    have TS : Hid (∀ w, Calls Tryz.prog 19 #[.string (bs G), .string ⟨#[32]⟩] w fun e w' => e = .returned (.string (bs T)) ∧ w' = w) := fun w => by
      have h := Tryz.strings_TrimSuffix (bs G) ⟨#[32]⟩ w (by have h5 : (bs G).size = G.length := (by simp [ByteArray.size]); omega)
      have e : (bs G).data.toList = G := by simp
      rw [e, show (⟨#[32]⟩ : ByteArray).data.toList = [32] from rfl, ← hT] at h
      exact h
    have CD : Hid (∀ (pg : Int) (ev : Value), ((Lib.atoiAll D = .ok pg ∧ ev = .nilIface) ∨ ((∀ v, Lib.atoiAll D ≠ .ok v) ∧ ∃ t p, ev = .iface t p)) → ∀ l' v' p', CtIs l' v' p' l → l' = T ∧ v' = (s : Int) / 2 ∧ p' = pg) := fun pg ev hp l' v' p' h => by
      obtain ⟨e1, e2, e3⟩ := CI.out l' v' p' h
      rw [← hH, ← hG, ← hT] at e1
      rw [← hD] at e3
      rcases hp with ⟨q1, _⟩ | ⟨q1, _⟩
      · rw [e3] at q1
        injection q1 with q1
        exact ⟨e1.symm, by omega, q1⟩
      · exact absurd e3 (q1 _)
    have AT := Lib.hid (fun w h => atoi_any D hDl w h)
    have LN := Lib.hid (fun pg w h => implLine_any T ((s : Int) / 2) pg (n : Int) hTl w h)
    clear CI hD hH hG hT hDl hHl hGl hTl a1 a2 a3 a4
    go_enter Tryz.func9, Tryz.ntmps9
    go_wp2_with fail
    rw [← hw0]
    refine (TL.out _).mono ?_
    rintro e w' ⟨rfl, hw'⟩
    rw [hw']
    clear hw' hw0 hrn
    go_wp2_with (first | (go_at_call 17; refine (LI.out _).mono ?_; rintro e w' ⟨rfl, hw'⟩; rw [hw']) | (go_at_call 18; refine (AT.out _ TAB.out.2).mono ?_))
    rintro e w1 ⟨pg, ev, rfl, hpe, b1⟩
    have CD2 := Lib.hid (CD.out pg ev hpe)
    have LN2 := Lib.hid (LN.out pg)
    have O1 := Lib.hid (owns_below O0.out b1)
    have B1 := Lib.hid (A0.out.trans (b1.mono SW.out))
    have T1 := Lib.hid (TAB.out.1.below b1 (Nat.le_refl _))
    have hws := B1.out.size
    obtain ⟨V, hV⟩ : ∃ V, V = lnOk T ((s : Int) / 2) pg (n : Int) := ⟨_, rfl⟩
    obtain ⟨X, hX⟩ : ∃ X, X = lnTxt T ((s : Int) / 2) pg (n : Int) := ⟨_, rfl⟩
    rw [← hV, ← hX] at LN2
    have HV := Lib.hid hV
    have HX := Lib.hid hX
    clear hpe b1 CD LN hV hX AT O0 A0 TAB TL LI
    go_wp2_with (first | (go_at_call 20; refine (TR.out _).mono ?_; rintro e w' ⟨rfl, hw'⟩; rw [hw']) | (go_at_call 19; refine (TS.out _).mono ?_; rintro e w' ⟨rfl, hw'⟩; rw [hw']) | (go_at_call 13; refine (LN2.out _ (T1.out.below ((Below.refl w1.heap.size w1).alloc (Nat.le_refl _) _) (Nat.le_refl _))).mono ?_))
    rintro e w2 ⟨rfl, b2⟩
    obtain ⟨c0', c1', c2'⟩ := boxT w1 T ((s : Int) / 2) pg _ rfl w2 b2
    have O2 := Lib.hid (owns_below (O1.out.alloc _) b2)
    have B2 := Lib.hid (below_next (B1.out.alloc hws _) b2 (Nat.le_refl _))
    clear b2 LN2 O1 B1 TR TS
    cases V
    · have NB : Hid (∀ l' v' p', ¬ CtIs l' v' p' l) := fun l' v' p' h => by
        obtain ⟨e1, e2, e3⟩ := CD2.out l' v' p' h
        have h1 := h.1
        rw [e1, e2, e3, ← HN.out, ← HV.out] at h1
        cases h1
      obtain ⟨rc0, rc1, rc2⟩ := own3 O2.out
      have rz0 := O2.out.frozenAt 0
      have rz1 := O2.out.frozenAt 1
      have rz2 := O2.out.frozenAt 2
      obtain ⟨rf0, rf1, rf2⟩ := own3_read O2.out (.string ⟨#[]⟩) (.int .i64 0) (.int .i64 0)
      go_wp2
      refine bodyPost_ret (v := .tuple #[.agg #[.string (bs []), .int .i64 0, .int .i64 0], .bool false]) (by simp [results, Tryz.results9, go_sem, rf0, rf1, rf2]) rfl ⟨[], 0, 0, false, rfl, CtRes.none NB.out, own3_put O2.out B2.out (Nat.le_refl _) _ _ _⟩
    · by_cases hXl : X = l
      · have CI := Lib.hid (show CtIs T ((s : Int) / 2) pg l from ⟨by rw [← HN.out, ← HV.out], by rw [← HN.out, ← HX.out]; exact hXl⟩)
        clear HX HV CD2 HN HR H1
        subst hXl
        obtain ⟨rc0, rc1, rc2⟩ := own3 O2.out
        have rz0 := O2.out.frozenAt 0
        have rz1 := O2.out.frozenAt 1
        have rz2 := O2.out.frozenAt 2
        obtain ⟨rf0, rf1, rf2⟩ := own3_read O2.out (.string (bs T)) (.int .i64 ((s : Int) / 2)) (.int .i64 pg)
        go_wp2
        refine bodyPost_ret (v := .tuple #[.agg #[.string (bs T), .int .i64 ((s : Int) / 2), .int .i64 pg], .bool true]) (by simp [results, Tryz.results9, go_sem, rf0, rf1, rf2]) rfl ⟨T, _, _, true, rfl, CtRes.some CI.out, own3_put O2.out B2.out (Nat.le_refl _) _ _ _⟩
      · have hcmp : (X == l) = false := by simpa using hXl
        have NB : Hid (∀ l' v' p', ¬ CtIs l' v' p' l) := fun l' v' p' h => by
          obtain ⟨e1, e2, e3⟩ := CD2.out l' v' p' h
          have h2 := h.2
          rw [e1, e2, e3, ← HN.out, ← HX.out] at h2
          exact hXl h2
        obtain ⟨rc0, rc1, rc2⟩ := own3 O2.out
        have rz0 := O2.out.frozenAt 0
        have rz1 := O2.out.frozenAt 1
        have rz2 := O2.out.frozenAt 2
        obtain ⟨rf0, rf1, rf2⟩ := own3_read O2.out (.string ⟨#[]⟩) (.int .i64 0) (.int .i64 0)
        go_wp2
        refine bodyPost_ret (v := .tuple #[.agg #[.string (bs []), .int .i64 0, .int .i64 0], .bool false]) (by simp [results, Tryz.results9, go_sem, rf0, rf1, rf2]) rfl ⟨[], 0, 0, false, rfl, CtRes.none NB.out, own3_put O2.out B2.out (Nat.le_refl _) _ _ _⟩
end Go.Proofs.YtfallcoehmmbeaaGreatDoor

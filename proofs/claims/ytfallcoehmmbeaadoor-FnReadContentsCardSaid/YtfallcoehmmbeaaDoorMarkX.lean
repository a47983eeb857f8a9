/-
  PROVED HERE: rows of strings, marked, and held against their marks. Conditions: each theorem's own.
-/
import Derived.Test.YtfallcoehmmbeaaDoorStr
import Derived.Test.YtfallcoehmmbeaaDoorNum
import Derived.Laws.BytesArg
import Derived.Deep.RegionWith
set_option linter.unusedVariables false
set_option linter.unusedSimpArgs false
namespace Go.Proofs.YtfallcoehmmbeaaDoor
open Go.RowKit

/-- The text that marks the number. -/
def mkT (N : Nat) : ByteArray := bs (109 :: Lib.decDigits N)
def mkLString (k : Int) (n : Nat) : List ByteArray := (List.range n).map fun j => mkT (k.toNat + j)
theorem mkLString_len (k : Int) (n : Nat) : (mkLString k n).length = n := by simp [mkLString]
theorem mkLString_succ (k : Int) (n : Nat) : mkLString k (n + 1) = mkLString k n ++ [mkT (k.toNat + n)] := by simp [mkLString, List.range_succ]
theorem mkLString_get (k : Int) (n j : Nat) (h : j < (mkLString k n).length) : (mkLString k n)[j] = mkT (k.toNat + j) := by simp [mkLString]
theorem strs_map (xs : List ByteArray) : xs.flatMap encS = xs.map Value.string := by
  induction xs with
  | nil => rfl
  | cons x t ih => rw [List.flatMap_cons, ih]; rfl
theorem markStr_run (k : Int) (xs : List ByteArray) (j : Nat) (h : j < xs.length) : ((mkLString k j ++ xs.drop j).flatMap encS).set j (.string (mkT (k.toNat + j))) = (mkLString k (j + 1) ++ xs.drop (j + 1)).flatMap encS := by
  have e : (mkLString k j).length = j := mkLString_len k j
  rw [strs_map, strs_map, ← List.map_set, mkLString_succ, List.drop_eq_getElem_cons h, List.set_append_right _ _ (by omega), e, Nat.sub_self, List.set_cons_zero, List.append_assoc]
  rfl

set_option maxRecDepth 100000 in
set_option maxHeartbeats 2000000 in
theorem markText_at (N : Nat) (h1 : 1 ≤ N) (hN : N ≤ 2000000000) (w : World) : Calls Tryd.prog 54 #[.int .i64 N] w (RetT (109 :: Lib.decDigits N) w) := by
  have L0 : Hid ((Lib.decDigits N).length ≤ 30) := by
    have := Lib.itoa_length_le (N : Int) (by omega) (by omega)
    rw [Lib.itoa_nonneg] at this
    show _ ≤ _
    omega
  have I0 : Hid ((if N = 0 then [] else Lib.decDigits N) ++ [] = Lib.decDigits N) := by
    show _ = _
    rw [if_neg (by omega), List.append_nil]
  obtain ⟨T, hT⟩ : ∃ T, T = Lib.decDigits N := ⟨_, rfl⟩
  rw [← hT] at L0 ⊢
  have I1 : Hid ((if N = 0 then [] else Lib.decDigits N) ++ [] = T) := by show _ = _; rw [hT]; exact I0.out
  clear hT I0
  have hN0 : ¬ (N : Int) ≤ 0 := by omega
  go_enter Tryd.func54, Tryd.ntmps54
  go_wp2
  go_loopw [0, 3] (fun nn o wr => ∃ (n : Nat) (out : List UInt8), n ≤ 2000000000 ∧ nn = .int .i64 n ∧ o = .string (bs out) ∧ Hid ((if n = 0 then [] else Lib.decDigits n) ++ out = T) ∧ Hid (Below w.heap.size w wr)) (fun nn _ _ => (intOf nn).toNat)
  case atStart => exact ⟨N, [], hN, rfl, rfl, I1.out, Below.refl _ _⟩
  case round =>
    obtain ⟨n, out, hn, rfl, rfl, hpre, hb⟩ := hrel
    clear I1
    have hol : out.length ≤ 30 := by
      have := congrArg List.length hpre.out
      rw [List.length_append] at this
      have := L0.out
      omega
    by_cases h9 : 0 < n
    · have c1 : ¬ 9223372036854775807 < 1 + out.length := by omega
      have d1 : ((n : Int)).tdiv 10 = ((n / 10 : Nat) : Int) := by rw [Int.tdiv_eq_ediv_of_nonneg (by omega)]; omega
      obtain ⟨m, hm⟩ : ∃ m, m = n / 10 := ⟨_, rfl⟩
      rw [← hm] at d1
      have cv := conv1 wr (48 + (n : Int) % 10)
      have P2 : Hid ((if m = 0 then [] else Lib.decDigits m) ++ ([UInt8.ofNat (48 + (n : Int) % 10).toNat] ++ out) = T) := by
        have h := hpre.out
        have ey : UInt8.ofNat (48 + (n : Int) % 10).toNat = UInt8.ofNat (48 + n % 10) := by congr 1
        rw [if_neg (by omega), preD_last n, List.append_assoc] at h
        show _ = _
        rw [← h, ey]
        congr 1
        unfold preD
        by_cases hs : n < 10
        · rw [if_pos (by omega), if_pos hs]
        · rw [if_neg (by omega), if_neg hs, hm]
      have hmn : m < n ∧ m ≤ 2000000000 := by omega
      obtain ⟨m1, m2⟩ := hmn
      have BB := Lib.hid (hb.out.alloc hb.out.size (.cells #[.int .u8 (48 + (n : Int) % 10)] 5))
      obtain ⟨y, hy⟩ : ∃ y, y = UInt8.ofNat (48 + (n : Int) % 10).toNat := ⟨_, rfl⟩
      rw [← hy] at cv P2
      clear hm hpre hb hy
      go_wp2
      exact ⟨⟨m, [y] ++ out, m2, rfl, by rw [bs_append], P2.out, BB.out⟩, by simp [intOf]; omega⟩
    · have e : out = T := by
        have h := hpre.out
        rw [if_pos (by omega)] at h
        exact h
      have E := Lib.hid e
      have c1 : ¬ 9223372036854775807 < 1 + out.length := by omega
      have e2 : Hid ((⟨#[109]⟩ : ByteArray) ++ bs out = bs (109 :: T)) := by
        show _ = _
        rw [E.out, show (⟨#[109]⟩ : ByteArray) = bs [109] from rfl, bs_append]
        rfl
      clear e hpre
      go_wp2
      go_ret
      refine ⟨?_, hb.out⟩
      show Ending.returned (.string ((⟨#[109]⟩ : ByteArray) ++ bs out)) = _
      rw [e2.out]
theorem markText_mk (k : Int) (h0 : 1 ≤ k) (h1 : k ≤ 2000000000) (w : World) : Calls Tryd.prog 54 #[.int .i64 k] w (Ret (.string (mkT k.toNat)) w) := by
  obtain ⟨N, rfl⟩ := Int.eq_ofNat_of_zero_le (show 0 ≤ k by omega)
  exact markText_at N (by omega) (by omega) w

/-- What marking a row of strings leaves. -/
def MarkStrPost (k : Int) (n base : Nat) (v : Value) (w : World) (e : Ending) (w' : World) : Prop :=
  e = .returned (.int .i64 (k + n)) ∧ w'.ownsRow base 9 1 v n ((mkLString k n).flatMap encS) ∧ w.grownBy w' v.ownBlock

set_option maxHeartbeats 2000000 in
theorem markStringS_any (v : Value) (xs : List ByteArray) (k : Int) (base : Nat) (w : World) (h : w.ownsRow base 9 1 v xs.length (xs.flatMap encS)) (hk : 1 ≤ k) (hk2 : k ≤ 1000000000) (hx : xs.length ≤ 1000000000) :
    Calls Tryd.prog 30 #[v, .int .i64 k] w (MarkStrPost k xs.length base v w) := by
  by_cases h0 : xs.length = 0
  · obtain rfl : xs = [] := List.eq_nil_of_length_eq_zero h0
    obtain ⟨a, cap, rfl⟩ : ∃ a cap, v = .slice a 0 cap := (SRow.of_owns encS_len rfl h).empty
    have HH := Lib.hid h
    clear h h0 hx
    go_enter Tryd.func30, Tryd.ntmps30
    go_wp2
    refine wp_loop_rounds 1 ?_
    rw [rounds_succ]
    go_wp2
    go_ret
    exact ⟨by simp, HH.out, grownBy_refl _ _⟩
  · obtain ⟨n, hn⟩ : ∃ n, n = xs.length := ⟨_, rfl⟩
    rw [← hn] at h hx h0 ⊢
    obtain ⟨g, cap, rfl⟩ : ∃ g cap, v = .slice (some ⟨g, 0, none⟩) n cap := by
      rcases h.2 with ⟨_, e⟩ | ⟨g, cap, _, e, _⟩
      · omega
      · exact ⟨g, cap, e⟩
    have HH : Hid (w.ownsRow base 9 1 (.slice (some ⟨g, 0, none⟩) n cap) n ((mkLString k 0 ++ xs.drop 0).flatMap encS)) := h
    have HN := Lib.hid hn
    clear h hn
    go_enter Tryd.func30, Tryd.ntmps30
    go_wp2
    go_loopw [1, 5] (fun kk i wr => ∃ j : Nat, j ≤ n ∧ i = .int .i64 j ∧ kk = .int .i64 (k + j) ∧ Hid (wr.ownsRow base 9 1 (.slice (some ⟨g, 0, none⟩) n cap) n ((mkLString k j ++ xs.drop j).flatMap encS)) ∧ w.grownBy wr (some g)) (fun _ i _ => n - (intOf i).toNat)
    case atStart => exact ⟨0, Nat.zero_le _, rfl, by simp, HH.out, grownBy_refl _ _⟩
    case round =>
      obtain ⟨j, hj, rfl, rfl, ho, hg⟩ := hrel
      by_cases hlt : j < n
      · have HG := Lib.hid hg
        clear hg
        go_wp2_with fail
        refine (markText_mk (k + j) (by omega) (by omega) _).mono ?_
        rintro e w1 ⟨rfl, b1⟩
        have how1 := owns_below ho.out b1
        have e1 : ∃ u, w1.cell? ⟨g, j, none⟩ = some u := by
          have e := how1.cellAt j (by omega)
          exact ⟨_, e.trans (List.getElem?_eq_getElem (by have := how1.1; omega))⟩
        obtain ⟨u, e1⟩ := e1
        have e2 := how1.frozenAt j
        have ek : (k + (j : Int)).toNat = k.toNat + j := by omega
        rw [ek]
        have e3 := how1.stored j (.string (mkT (k.toNat + j)))
        rw [markStr_run k xs j (by rw [← HN.out]; exact hlt)] at e3
        obtain ⟨e3, e4⟩ := e3
        have E3 := Lib.hid e3
        have E4 := Lib.hid (grownBy_trans (grownBy_trans HG.out (grown_of_below b1 _)) e4)
        clear e3 e4 ho how1 b1 ek
        go_wp2
        go_roundw
        case rel => exact ⟨j + 1, by omega, by go_num, by go_num, E3.out, E4.out⟩
        case measure => simp [intOf]; omega
      · obtain rfl : j = n := by omega
        have HG := Lib.hid hg
        have ho2 := ho.out
        rw [List.drop_of_length_le (by rw [← HN.out]; omega), List.append_nil] at ho2
        have HO := Lib.hid ho2
        clear hg ho ho2
        go_wp2
        go_ret
        exact ⟨rfl, HO.out, HG.out⟩

set_option maxHeartbeats 2000000 in
/-- A row that reads as its marks is found to be so. -/
theorem heldStringS_any (v : Value) (n : Nat) (k : Int) (w : World) (h : SRow 1 encS w v (mkLString k n)) (hk : 1 ≤ k) (hk2 : k ≤ 1000000000) (hx : n ≤ 1000000000) :
    Calls Tryd.prog 31 #[v, .int .i64 k] w (Ret (.int .i64 (k + n)) w) := by
  by_cases h0 : n = 0
  · subst h0
    obtain ⟨a, cap, rfl⟩ := h.empty
    clear h hx
    go_enter Tryd.func31, Tryd.ntmps31
    go_wp2
    refine wp_loop_rounds 1 ?_
    rw [rounds_succ]
    go_wp2
    go_ret
    exact ⟨by simp, Below.refl _ _⟩
  · obtain ⟨b, off, cap, rfl, hbl, hc⟩ := h.pos encS_pos (by rw [mkLString_len]; omega)
    rw [mkLString_len] at ⊢
    have HC := Lib.hid hc
    clear hc h
    go_enter Tryd.func31, Tryd.ntmps31
    go_wp2
    go_loopw [1, 5] (fun kk i wr => ∃ j : Nat, j ≤ n ∧ i = .int .i64 j ∧ kk = .int .i64 (k + j) ∧ Hid (Below w.heap.size w wr)) (fun _ i _ => n - (intOf i).toNat)
    case atStart => exact ⟨0, Nat.zero_le _, rfl, by simp, Below.refl _ _⟩
    case round =>
      obtain ⟨j, hj, rfl, rfl, hb⟩ := hrel
      by_cases hlt : j < n
      · have q := HC.out j (by rw [mkLString_len]; exact hlt) 0 _ rfl
        rw [mkLString_get] at q
        have c0 : wr.cell? ⟨b, off + j, none⟩ = some (.string (mkT (k.toNat + j))) := (hb.out.cell (p := ⟨b, off + j, none⟩) hbl).trans (by simpa using q)
        have MT := Lib.hid (markText_mk (k + j) (by omega) (by omega) wr.drew)
        rw [show (k + (j : Int)).toNat = k.toNat + j by omega] at MT
        obtain ⟨T, hT⟩ : ∃ T, T = mkT (k.toNat + j) := ⟨_, rfl⟩
        rw [← hT] at c0 MT
        clear q hT
        go_wp2
        go_region_with (go_at_call 54; refine (MT.out).mono ?_; rintro e w1 ⟨rfl, b1⟩; have d0 : w1.cell? ⟨b, off + j, none⟩ = some (.string T) := (b1.cell (p := ⟨b, off + j, none⟩) (World.block_lt_of_cell? wr.drew _ c0)).trans c0)
        all_goals
          have B1 := Lib.hid (below_next hb.out.drew (by assumption) (Nat.le_refl _))
          go_wp2
          go_roundw
          case rel => exact ⟨j + 1, by omega, by go_num, by go_num, B1.out⟩
          case measure => simp [intOf]; omega
      · obtain rfl : j = n := by omega
        go_wp2
        go_ret
        exact ⟨rfl, hb.out⟩
theorem markText_any (k : Int) (w : World) (h0 : 1 ≤ k) (h1 : k ≤ 2000000000) : Calls Tryd.prog 54 #[.int .i64 k] w fun e w' => ∃ s : ByteArray, e = .returned (.string s) ∧ Below w.heap.size w w' :=
  (markText_mk k h0 h1 w).mono fun _ _ h => ⟨_, h⟩
theorem blk_apart {vY vX : Value} {a b c d : Nat} (hY : ∀ k, vY.ownBlock = some k → a ≤ k ∧ k < b) (hX : ∀ k, vX.ownBlock = some k → c ≤ k ∧ k < d) (h : b ≤ c ∨ d ≤ a) : vY.ownBlock = none ∨ vY.ownBlock ≠ vX.ownBlock := by
  cases e : vY.ownBlock with
  | none => exact .inl rfl
  | some k =>
    right
    intro e2
    have h1 := hY k e
    have h2 := hX k e2.symm
    omega
end Go.Proofs.YtfallcoehmmbeaaDoor

/-
  PROVED HERE: rows of strings: counted, copied, compared; an argument's row of strings, read. Conditions: each theorem's own.
-/
import Derived.Test.YtaolkplecdbadaaCore
import Derived.Test.YtaolkplecdbadaaSRow
import Derived.Test.YtaolkplecdbadaaOpenS
import Derived.StillTailTactics
import Derived.OwnWalk
namespace Go.Proofs.Ytaolkplecdbadaa
open Go.RowKit
open Go.ChangeShapes Go.WideShapes Go.Deep

def encS (s : ByteArray) : List Value := [.string s]
theorem encS_len (s : ByteArray) : (encS s).length = 1 := rfl
theorem encS_pos (s : ByteArray) : 0 < (encS s).length := by rw [encS_len]; decide
/-- Each string is of a size that a string can have. -/
def Short (xs : List ByteArray) : Prop := ∀ s ∈ xs, s.size ≤ 9223372036854775807

theorem one_string {H : Type} {en : TypeId × Value → H} {w : World} {base : Nat} {spare : Nat → Bool} {held : Bool} (cs : List Value) (y : DataW H × List MemPlace) (n : Nat) (h : DataW.trod en Try.prog w base spare held n 9 cs = some y) : ∃ z : ByteArray, cs = encS z ∧ z.size ≤ 9223372036854775807 := by
  obtain ⟨z, e, h2⟩ := DataW.trod_string Try.underlying9 h
  exact ⟨z, e, by have := h2.2; unfold maxLen at this; omega⟩

def szL : Int → List ByteArray → Int
  | l, [] => l
  | l, s :: t => if l - s.size < 0 then -1 else szL (l - s.size) t
def szS (l : Int) (xs : List ByteArray) : Int := if l - xs.length < 0 then -1 else szL (l - xs.length) xs
theorem szL_bd : ∀ (xs : List ByteArray) (l : Int), 0 ≤ l → szL l xs = -1 ∨ (0 ≤ szL l xs ∧ ∀ s ∈ xs, (s.size : Int) ≤ l)
  | [], l, h => .inr ⟨by rw [szL]; exact h, fun s hs => by cases hs⟩
  | x :: t, l, h => by
    rw [szL]
    split
    · exact .inl rfl
    · rename_i hc
      rcases szL_bd t (l - x.size) (by omega) with h1 | ⟨h1, h2⟩
      · exact .inl h1
      · refine .inr ⟨h1, fun s hs => ?_⟩
        rcases List.mem_cons.1 hs with rfl | hs
        · omega
        · have := h2 s hs; omega
theorem szS_bd (l : Int) (xs : List ByteArray) : szS l xs = -1 ∨ (0 ≤ szS l xs ∧ (xs.length : Int) ≤ l ∧ ∀ s ∈ xs, (s.size : Int) ≤ l) := by
  unfold szS
  split
  · exact .inl rfl
  · rename_i hc
    rcases szL_bd xs (l - xs.length) (by omega) with h1 | ⟨h1, h2⟩
    · exact .inl h1
    · exact .inr ⟨h1, by omega, fun s hs => by have := h2 s hs; omega⟩

set_option maxHeartbeats 1000000 in
theorem szStringS_any (v : Value) (xs : List ByteArray) (l : Int) (w : World) (h : SRow 1 encS w v xs) (hx : Short xs) (hl : 0 ≤ l) (hl' : l ≤ 1000000000) : Calls Try.prog 13 #[v, .int .i64 l] w fun e w' => e = .returned (.int .i64 (szS l xs)) ∧ w = w' := by
  by_cases h0 : xs.length = 0
  · obtain rfl : xs = [] := List.eq_nil_of_length_eq_zero h0
    obtain ⟨a, cap, rfl⟩ := h.empty
    clear h h0 hx
    have E : Hid (szS l [] = l) := by
      show _ = _
      unfold szS
      rw [if_neg (by simp; omega), szL]
      simp
    go_enter Try.func13, Try.ntmps13
    go_wp2
    refine wp_loop_rounds 1 ?_
    rw [rounds_succ]
    go_wp2
    go_ret
    exact ⟨by rw [E.out]; rfl, rfl⟩
  · have hsz := h.len
    obtain ⟨b, off, cap, rfl, hbl, hc⟩ := h.pos encS_pos (by omega)
    obtain ⟨n, hn⟩ : ∃ n, n = xs.length := ⟨_, rfl⟩
    have HX := Lib.hid hx
    rw [← hn] at hsz h0 ⊢
    have HC := Lib.hid hc
    have HN := Lib.hid hn
    clear hn hc h hx
    by_cases hneg : l - (n : Int) < 0
    · have e : szS l xs = -1 := by unfold szS; rw [← HN.out, if_pos hneg]
      have E := Lib.hid e
      clear e
      go_enter Try.func13, Try.ntmps13
      go_wp2
      go_ret
      exact ⟨by rw [E.out]; rfl, rfl⟩
    · have e : szS l xs = szL (l - n) xs := by unfold szS; rw [← HN.out, if_neg hneg]
      have E := Lib.hid e
      clear e
      go_enter Try.func13, Try.ntmps13
      go_wp2
      go_loop [1, 5] (fun lf i => ∃ (k : Nat) (q : Int), k ≤ n ∧ i = .int .i64 k ∧ lf = .int .i64 q ∧ 0 ≤ q ∧ q ≤ 1000000000 ∧ Hid (szL (l - n) xs = szL q (xs.drop k))) (fun _ i => n - (intOf i).toNat)
      case atStart => exact ⟨0, _, Nat.zero_le _, rfl, rfl, by omega, by omega, rfl⟩
      case round =>
        obtain ⟨k, q, hk, rfl, rfl, hq0, hq1, hs⟩ := hrel
        by_cases hlt : k < n
        · have hk' : k < xs.length := by rw [← HN.out]; exact hlt
          have c := HC.out k hk' 0 _ rfl
          have hd : xs.drop k = xs[k] :: xs.drop (k + 1) := List.drop_eq_getElem_cons hk'
          have hsx := HX.out xs[k] (List.getElem_mem hk')
          have s2 := hs.out
          rw [hd, szL] at s2
          obtain ⟨s, hs'⟩ : ∃ s, s = xs[k] := ⟨_, rfl⟩
          rw [← hs'] at c hsx s2
          have c0 : w.cell? ⟨b, off + k, none⟩ = some (.string s) := by simpa using c
          have S2 := Lib.hid s2
          clear c hd s2 hs hs'
          by_cases hneg2 : q - (s.size : Int) < 0
          · have e : szS l xs = -1 := by rw [E.out, S2.out, if_pos hneg2]
            have E2 := Lib.hid e
            clear e S2
            go_wp2
            go_ret
            exact ⟨by rw [E2.out]; rfl, rfl⟩
          · have S3 := S2.out
            rw [if_neg hneg2] at S3
            have S4 := Lib.hid S3
            clear S3 S2
            go_wp2
            go_round
            case rel => exact ⟨k + 1, _, by omega, by go_num, rfl, by omega, by omega, S4.out⟩
            case measure => simp [intOf]; omega
        · have e : szS l xs = q := by rw [E.out, hs.out, List.drop_of_length_le (by have := HN.out; omega), szL]
          have E2 := Lib.hid e
          clear e hs HC
          go_wp2
          go_ret
          exact ⟨by rw [E2.out]; rfl, rfl⟩

set_option maxHeartbeats 1000000 in
/-- Two rows that read as the same strings are found to be equal. -/
theorem eqStringS_any (v1 v2 : Value) (xs : List ByteArray) (w : World) (h1 : SRow 1 encS w v1 xs) (h2 : SRow 1 encS w v2 xs) :
    Calls Try.prog 17 #[v1, v2] w (Ret (.bool true) w) := by
  by_cases h0 : xs.length = 0
  · obtain rfl : xs = [] := List.eq_nil_of_length_eq_zero h0
    obtain ⟨a, cap, rfl⟩ := h1.empty
    obtain ⟨a', cap', rfl⟩ := h2.empty
    clear h1 h2 h0
    go_enter Try.func17, Try.ntmps17
    go_wp2
    refine wp_loop_rounds 1 ?_
    rw [rounds_succ]
    go_wp2
    go_ret
    exact ⟨rfl, Below.refl _ _⟩
  · have hsz := h1.len
    obtain ⟨b, off, cap, rfl, hbl, hc⟩ := h1.pos encS_pos (by omega)
    obtain ⟨b', off', cap', rfl, hbl', hc'⟩ := h2.pos encS_pos (by omega)
    obtain ⟨n, hn⟩ : ∃ n, n = xs.length := ⟨_, rfl⟩
    rw [← hn] at hsz h0 ⊢
    have HC := Lib.hid hc
    have HC' := Lib.hid hc'
    have HN := Lib.hid hn
    clear hn hc hc' h1 h2
    go_enter Try.func17, Try.ntmps17
    go_wp2
    go_loopw [5] (fun i wr => ∃ k : Nat, k ≤ n ∧ i = .int .i64 k ∧ Below w.heap.size w wr) (fun i _ => n - (intOf i).toNat)
    case atStart => exact ⟨0, Nat.zero_le _, rfl, Below.refl _ _⟩
    case round =>
      obtain ⟨k, hk, rfl, hb⟩ := hrel
      by_cases hlt : k < n
      · have hk' : k < xs.length := by rw [← HN.out]; exact hlt
        have c := HC.out k hk' 0 _ rfl
        have c' := HC'.out k hk' 0 _ rfl
        obtain ⟨s, hs'⟩ : ∃ s, s = xs[k] := ⟨_, rfl⟩
        rw [← hs'] at c c'
        have e1 : wr.cell? ⟨b, off + k, none⟩ = some (.string s) := (hb.cell (p := ⟨b, off + k, none⟩) hbl).trans (by simpa using c)
        have e2 : wr.cell? ⟨b', off' + k, none⟩ = some (.string s) := (hb.cell (p := ⟨b', off' + k, none⟩) hbl').trans (by simpa using c')
        clear hs' c c'
        go_wp2
        go_quiet (fail)
        go_wp2
        go_roundw
        case rel => exact ⟨k + 1, by omega, by go_num, below_drewN hb _⟩
        case measure => simp [intOf]; omega
      · clear HC HC'
        go_wp2
        go_ret
        exact ⟨rfl, hb⟩

theorem info_string : (Try.prog.info? 9).map (fun i => (i.zero, i.size, i.bytes)) = some (some (.string ByteArray.empty), 1, 16) := by kernel_rfl
theorem take_set_succS (ys : List Value) (m : Nat) (v : Value) (h : m < ys.length) : (ys.set m v).take (m + 1) = ys.take m ++ [v] := by
  rw [List.take_succ_eq_append_getElem (by simpa using h), List.take_set_of_le (Nat.le_refl _)]
  simp

/-- It returns a row of its own with these strings. -/
def OwnStrs (xs : List ByteArray) (w : World) (e : Ending) (w' : World) : Prop := ∃ v, e = .returned v ∧ w'.ownsRow w.heap.size 9 1 v xs.length (xs.flatMap encS) ∧ Below w.heap.size w w'

set_option maxHeartbeats 4000000 in
theorem toStringS_any (v : Value) (xs : List ByteArray) (w : World) (h : SRow 1 encS w v xs) (hx : xs.length ≤ 1048576) : Calls Try.prog 15 #[v] w (OwnStrs xs w) := by
  obtain ⟨i0, hi, hz0, hz1, hz2⟩ := info_parts info_string
  obtain ⟨n, hn⟩ : ∃ n, n = xs.length := ⟨_, rfl⟩
  have HN := Lib.hid hn
  by_cases h0 : xs.length = 0
  · obtain rfl : xs = [] := List.eq_nil_of_length_eq_zero h0
    obtain ⟨a, cap, rfl⟩ := h.empty
    clear h h0 hn HN hx
    go_enter Try.func15, Try.ntmps15
    go_wp2_with (at_make; refine wpList_make_full _ rfl _ _ 22 rfl w.heap.size 9 i0 (.string ByteArray.empty) 1 Try.underlying22 hi hz0 hz1 .i64 .i64 _ _ 0 rfl rfl rfl rfl (by rw [hz2]; omega) (by unfold maxLen; omega) (Nat.le_refl _) ?_; intro w1 hown1 hgrow1)
    have OW := Lib.hid hown1
    have HG := Lib.hid hgrow1
    clear hown1 hgrow1
    refine wp_loop_rounds 1 ?_
    rw [rounds_succ]
    go_wp2
    go_ret
    exact ⟨_, rfl, by simpa [madeCells] using OW.out, below_of_grown HG.out (Nat.le_refl _)⟩
  · obtain ⟨b, off, cap, rfl, hbl, hc⟩ := h.pos encS_pos (by omega)
    rw [← hn] at hx h0 ⊢
    have HC := Lib.hid hc
    clear hn hc h
    go_enter Try.func15, Try.ntmps15
    go_wp2_with (at_make; refine wpList_make_full _ rfl _ _ 22 rfl w.heap.size 9 i0 (.string ByteArray.empty) 1 Try.underlying22 hi hz0 hz1 .i64 .i64 _ _ n rfl rfl rfl rfl (by rw [hz2]; omega) (by unfold maxLen; omega) (Nat.le_refl _) ?_; intro w1 hown1 hgrow1)
    have hb1 : Below w.heap.size w w1 := below_of_grown hgrow1 (Nat.le_refl _)
    obtain ⟨g, hg⟩ : ∃ g, g = w.heap.size := ⟨_, rfl⟩
    have hown2 : ∃ ys : List Value, ys.take 0 = (xs.take 0).flatMap encS ∧ w1.ownsRow w.heap.size 9 1 (.slice (some ⟨g, 0, none⟩) n n) n ys := ⟨_, by simp, by rw [hg]; exact hown1⟩
    have OW := Lib.hid hown2
    have HB := Lib.hid hb1
    have HGE := Lib.hid hg
    clear hown1 hgrow1 hown2 hb1
    rw [← hg]
    clear hg
    go_loopw [4] (fun i wr => ∃ k : Nat, k ≤ n ∧ i = .int .i64 k ∧ Hid (∃ ys : List Value, ys.take k = (xs.take k).flatMap encS ∧ wr.ownsRow w.heap.size 9 1 (.slice (some ⟨g, 0, none⟩) n n) n ys) ∧ Below w.heap.size w wr) (fun i _ => n - (intOf i).toNat)
    case atStart => exact ⟨0, Nat.zero_le _, rfl, OW.out, HB.out⟩
    case round =>
      obtain ⟨k, hk, rfl, ho, hb⟩ := hrel
      by_cases hlt : k < n
      · have hk' : k < xs.length := by rw [← HN.out]; exact hlt
        have c := HC.out k hk' 0 _ rfl
        obtain ⟨s, hs'⟩ : ∃ s, s = xs[k] := ⟨_, rfl⟩
        rw [← hs'] at c
        have c0 : wr.cell? ⟨b, off + k, none⟩ = some (.string s) := (hb.cell (p := ⟨b, off + k, none⟩) hbl).trans (by simpa using c)
        obtain ⟨ys, hys, how⟩ := ho.out
        have hyl : ys.length = n := by have := how.1; simpa using this
        have e1 : ∃ u, wr.cell? ⟨g, k, none⟩ = some u := ⟨_, (how.cellAt k (by omega)).trans (List.getElem?_eq_getElem (by omega))⟩
        obtain ⟨u1, e1⟩ := e1
        have z1 := how.frozenAt k
        have s1 := how.stored k (.string s)
        have t1 : (ys.set k (.string s)).take (k + 1) = (xs.take (k + 1)).flatMap encS := by
          rw [take_set_succS _ _ _ (by omega), hys, List.take_succ_eq_append_getElem hk', List.flatMap_append, ← hs']
          rfl
        have fin : Hid (∃ ys : List Value, ys.take (k + 1) = (xs.take (k + 1)).flatMap encS ∧ World.ownsRow _ w.heap.size 9 1 (.slice (some ⟨g, 0, none⟩) n n) n ys) := ⟨_, t1, s1.1⟩
        have hgw : w.heap.size ≤ g := by rw [HGE.out]; exact Nat.le_refl _
        have bfin := hb.grown s1.2 (by have := hb.size; omega) (fun j hj => by cases hj; exact hgw)
        have BF := Lib.hid bfin
        clear s1 t1 how bfin hys hyl c hs' ho hb
        go_wp2
        go_roundw
        case rel => exact ⟨k + 1, by omega, by go_num, fin, BF.out⟩
        case measure => simp [intOf]; omega
      · obtain rfl : k = n := by omega
        obtain ⟨ys, hys, how⟩ := ho.out
        have e : ys = xs.flatMap encS := by
          have hyl : ys.length = k := by have := how.1; simpa using this
          rw [List.take_of_length_le (by omega), List.take_of_length_le (by have := HN.out; omega)] at hys
          exact hys
        have HOW := Lib.hid how
        have HE := Lib.hid e
        clear ho hys how HC e
        go_wp2
        go_ret
        exact ⟨_, rfl, by rw [← HE.out, ← HN.out]; exact HOW.out, hb⟩
end Go.Proofs.Ytaolkplecdbadaa

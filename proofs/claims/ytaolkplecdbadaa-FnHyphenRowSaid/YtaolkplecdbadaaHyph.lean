/-
  PROVED HERE: rows of lines that end with a hyphen: what the program and the reference return. Conditions: each theorem's own.
-/
import Derived.Test.YtaolkplecdbadaaStr
import Derived.Test.YtaolkplecdbadaaIn
import Derived.Lib.IndexBytes
namespace Go.Proofs.Ytaolkplecdbadaa
open Go.RowKit

/-- It ends with a hyphen. -/
def hyB (s : ByteArray) : Bool := if h : 0 < s.size then ((s[s.size - 1].toNat : Int) == 45) else false
def hyGo : Int → Int → List ByteArray → Int
  | m, _, [] => m
  | m, r, s :: t => if hyB s = true then hyGo (max m (r + 1)) (r + 1) t else hyGo m 0 t

theorem last_eq (s : ByteArray) (h : 0 < s.size) : ((s.extract (s.size - 1) s.size).data.toList == [45]) = hyB s := by
  unfold hyB
  rw [dif_pos h, Lib.extract_to_end]
  have hl : s.data.toList.length = s.size := (Lib.size_eq s).symm
  have e : s.data.toList.drop (s.size - 1) = [s[s.size - 1]] := by
    rw [List.drop_eq_getElem_cons (by omega), List.drop_of_length_le (by omega)]
    rfl
  rw [e]
  have : ∀ c : UInt8, ([c] == [45]) = ((c.toNat : Int) == 45) := by
    intro c
    rw [Bool.eq_iff_iff]
    simp only [beq_iff_eq, List.cons.injEq, and_true]
    constructor
    · rintro rfl; rfl
    · intro h
      have : c.toNat = 45 := by omega
      exact UInt8.toNat_inj.1 this
  exact this _

set_option maxHeartbeats 1000000 in
theorem suffix_any (s : ByteArray) (w : World) (hs : s.size ≤ 9223372036854775807) : Calls Try.prog 41 #[.string s, .string ⟨#[45]⟩] w fun e w' => e = .returned (.bool (hyB s)) ∧ w = w' := by
  by_cases h0 : 0 < s.size
  · have E : Hid (((s.extract (s.size - 1) s.size).toList == [45]) = hyB s) := by
      show _ = _
      rw [ByteArray.toList_eq]
      exact last_eq s h0
    go_enter Try.func41, Try.ntmps41
    go_wp2
    go_ret
    exact ⟨by rw [← E.out]; rfl, rfl⟩
  · have E : Hid (hyB s = false) := by
      show _ = _
      unfold hyB
      rw [dif_neg h0]
    go_enter Try.func41, Try.ntmps41
    go_wp2
    go_ret
    exact ⟨by rw [E.out]; rfl, rfl⟩

set_option maxHeartbeats 4000000 in
theorem implHyphen_any (v : Value) (xs : List ByteArray) (w : World) (h : SRow 1 encS w v xs) (hx : Short xs) : Calls Try.prog 16 #[v] w (Ret (.int .i64 (hyGo 0 0 xs)) w) := by
  by_cases h0 : xs.length = 0
  · obtain rfl : xs = [] := List.eq_nil_of_length_eq_zero h0
    obtain ⟨a, cap, rfl⟩ := h.empty
    clear h h0 hx
    go_enter Try.func16, Try.ntmps16
    go_wp2
    refine wp_loop_rounds 1 ?_
    rw [rounds_succ]
    go_wp2
    go_ret
    exact ⟨rfl, Below.refl _ _⟩
  · have hsz := h.len
    obtain ⟨b, off, cap, rfl, hbl, hc⟩ := h.pos encS_pos (by omega)
    obtain ⟨n, hn⟩ : ∃ n, n = xs.length := ⟨_, rfl⟩
    have HX := Lib.hid hx
    rw [← hn] at hsz h0 ⊢
    have HC := Lib.hid hc
    have HN := Lib.hid hn
    clear hn hc h hx
    go_enter Try.func16, Try.ntmps16
    go_wp2
    go_loop [3, 4, 9] (fun mo ro i => ∃ (k : Nat) (m r : Int), k ≤ n ∧ i = .int .i64 k ∧ mo = .int .i64 m ∧ ro = .int .i64 r ∧ 0 ≤ m ∧ m ≤ k ∧ 0 ≤ r ∧ r ≤ k ∧ Hid (hyGo 0 0 xs = hyGo m r (xs.drop k))) (fun _ _ i => n - (intOf i).toNat)
    case atStart => exact ⟨0, 0, 0, Nat.zero_le _, rfl, rfl, rfl, by omega, by omega, by omega, by omega, rfl⟩
    case round =>
      obtain ⟨k, m, r, hk, rfl, rfl, rfl, hm0, hm1, hr0, hr1, hg⟩ := hrel
      by_cases hlt : k < n
      · have hk' : k < xs.length := by rw [← HN.out]; exact hlt
        have c := HC.out k hk' 0 _ rfl
        have hd : xs.drop k = xs[k] :: xs.drop (k + 1) := List.drop_eq_getElem_cons hk'
        have hsx := HX.out xs[k] (List.getElem_mem hk')
        have g2 := hg.out
        rw [hd, hyGo] at g2
        obtain ⟨s, hs'⟩ : ∃ s, s = xs[k] := ⟨_, rfl⟩
        rw [← hs'] at c hsx g2
        have c0 : w.cell? ⟨b, off + k, none⟩ = some (.string s) := by simpa using c
        have G2 := Lib.hid g2
        clear c hd g2 hg hs'
        cases hb : hyB s
        · have G3 := G2.out
          rw [hb, if_neg (by decide)] at G3
          have G4 := Lib.hid G3
          clear G3 G2
          go_wp2_with (go_at_call 41; refine (suffix_any s _ hsx).mono ?_; rintro e w' ⟨rfl, rfl⟩)
          go_round
          case rel => exact ⟨k + 1, m, 0, by omega, by go_num, rfl, rfl, by omega, by omega, by omega, by omega, G4.out⟩
          case measure => simp [intOf]; omega
        · have G3 := G2.out
          rw [hb, if_pos rfl] at G3
          by_cases hmr : m < r + 1
          · rw [show max m (r + 1) = r + 1 by omega] at G3
            have G4 := Lib.hid G3
            clear G3 G2
            go_wp2_with (go_at_call 41; refine (suffix_any s _ hsx).mono ?_; rintro e w' ⟨rfl, rfl⟩)
            go_round
            case rel => exact ⟨k + 1, r + 1, r + 1, by omega, by go_num, rfl, rfl, by omega, by omega, by omega, by omega, G4.out⟩
            case measure => simp [intOf]; omega
          · rw [show max m (r + 1) = m by omega] at G3
            have G4 := Lib.hid G3
            clear G3 G2
            go_wp2_with (go_at_call 41; refine (suffix_any s _ hsx).mono ?_; rintro e w' ⟨rfl, rfl⟩)
            go_round
            case rel => exact ⟨k + 1, m, r + 1, by omega, by go_num, rfl, rfl, by omega, by omega, by omega, by omega, G4.out⟩
            case measure => simp [intOf]; omega
      · have e : hyGo 0 0 xs = m := by rw [hg.out, List.drop_of_length_le (by have := HN.out; omega), hyGo]
        have E2 := Lib.hid e
        clear e hg HC
        go_wp2
        go_ret
        exact ⟨by rw [E2.out]; rfl, Below.refl _ _⟩

set_option maxHeartbeats 4000000 in
theorem specHyphen_any (v : Value) (xs : List ByteArray) (w : World) (h : SRow 1 encS w v xs) (hx : Short xs) : Calls Try.prog 14 #[v] w (Ret (.int .i64 (hyGo 0 0 xs)) w) := by
  by_cases h0 : xs.length = 0
  · obtain rfl : xs = [] := List.eq_nil_of_length_eq_zero h0
    obtain ⟨a, cap, rfl⟩ := h.empty
    clear h h0 hx
    go_enter Try.func14, Try.ntmps14
    go_wp2
    refine wp_loop_rounds 1 ?_
    rw [rounds_succ]
    go_wp2
    go_ret
    exact ⟨rfl, Below.refl _ _⟩
  · have hsz := h.len
    obtain ⟨b, off, cap, rfl, hbl, hc⟩ := h.pos encS_pos (by omega)
    obtain ⟨n, hn⟩ : ∃ n, n = xs.length := ⟨_, rfl⟩
    have HX := Lib.hid hx
    rw [← hn] at hsz h0 ⊢
    have HC := Lib.hid hc
    have HN := Lib.hid hn
    clear hn hc h hx
    go_enter Try.func14, Try.ntmps14
    go_wp2
    go_loopw [3, 4, 5] (fun mo ro i wr => ∃ (k : Nat) (m r : Int), k ≤ n ∧ i = .int .i64 k ∧ mo = .int .i64 m ∧ ro = .int .i64 r ∧ 0 ≤ m ∧ m ≤ k ∧ 0 ≤ r ∧ r ≤ k ∧ Hid (hyGo 0 0 xs = hyGo m r (xs.drop k)) ∧ Hid (Below w.heap.size w wr)) (fun _ _ i _ => n - (intOf i).toNat)
    case atStart => exact ⟨0, 0, 0, Nat.zero_le _, rfl, rfl, rfl, by omega, by omega, by omega, by omega, rfl, Below.refl _ _⟩
    case round =>
      obtain ⟨k, m, r, hk, rfl, rfl, rfl, hm0, hm1, hr0, hr1, hg, hbw⟩ := hrel
      by_cases hlt : k < n
      · have hk' : k < xs.length := by rw [← HN.out]; exact hlt
        have c := HC.out k hk' 0 _ rfl
        have hd : xs.drop k = xs[k] :: xs.drop (k + 1) := List.drop_eq_getElem_cons hk'
        have hsx := HX.out xs[k] (List.getElem_mem hk')
        have g2 := hg.out
        rw [hd, hyGo] at g2
        obtain ⟨s, hs'⟩ : ∃ s, s = xs[k] := ⟨_, rfl⟩
        rw [← hs'] at c hsx g2
        have c0 : wr.cell? ⟨b, off + k, none⟩ = some (.string s) := (hbw.out.cell (p := ⟨b, off + k, none⟩) hbl).trans (by simpa using c)
        have G2 := Lib.hid g2
        have HB := Lib.hid hbw.out
        clear c hd g2 hg hs' hbw
        by_cases hs0 : 0 < s.size
        · have ne1 : s.toList.isEmpty = false := by
            rw [ByteArray.toList_eq]
            cases e : s.data.toList with
            | nil =>
              have : s.size = ([] : List UInt8).length := by rw [← e]; exact Lib.size_eq s
              simp only [List.length_nil] at this
              omega
            | cons x t => rfl
          have ne2 : (s.toList == []) = false := by
            cases e : s.toList with
            | nil => rw [e] at ne1; cases ne1
            | cons x t => rfl
          have hv : hyB s = ((s[s.size - 1].toNat : Int) == 45) := by unfold hyB; rw [dif_pos hs0]
          cases hb : ((s[s.size - 1].toNat : Int) == 45)
          · have hb' : ((s[s.size - 1].toNat : Int) != 45) = true := by simpa using hb
            have G3 := G2.out
            rw [hv, hb, if_neg (by decide)] at G3
            have G4 := Lib.hid G3
            clear G3 G2 hv
            have v1 : IntKind.i64.wrap ((s.size : Int) - 1) = ((s.size - 1 : Nat) : Int) := by rw [IntWalk.i64_in _ (by omega)]; omega
            have v3 : s.size - 1 < s.size := by omega
            go_wp2_with fail
            go_quiet (fail)
            clear v1
            go_wp2
            go_roundw
            case rel => exact ⟨k + 1, m, 0, by omega, by go_num, rfl, rfl, by omega, by omega, by omega, by omega, G4.out, below_drewN HB.out _⟩
            case measure => simp [intOf]; omega
          · have hb' : ((s[s.size - 1].toNat : Int) != 45) = false := by simpa using hb
            have G3 := G2.out
            rw [hv, hb, if_pos rfl] at G3
            by_cases hmr : m < r + 1
            · rw [show max m (r + 1) = r + 1 by omega] at G3
              have G4 := Lib.hid G3
              clear G3 G2 hv
              have v1 : IntKind.i64.wrap ((s.size : Int) - 1) = ((s.size - 1 : Nat) : Int) := by rw [IntWalk.i64_in _ (by omega)]; omega
              have v3 : s.size - 1 < s.size := by omega
              go_wp2_with fail
              go_quiet (fail)
              clear v1
              go_wp2
              go_roundw
              case rel => exact ⟨k + 1, r + 1, r + 1, by omega, by go_num, rfl, rfl, by omega, by omega, by omega, by omega, G4.out, below_drewN HB.out _⟩
              case measure => simp [intOf]; omega
            · rw [show max m (r + 1) = m by omega] at G3
              have G4 := Lib.hid G3
              clear G3 G2 hv
              have v1 : IntKind.i64.wrap ((s.size : Int) - 1) = ((s.size - 1 : Nat) : Int) := by rw [IntWalk.i64_in _ (by omega)]; omega
              have v3 : s.size - 1 < s.size := by omega
              go_wp2_with fail
              go_quiet (fail)
              clear v1
              go_wp2
              go_roundw
              case rel => exact ⟨k + 1, m, r + 1, by omega, by go_num, rfl, rfl, by omega, by omega, by omega, by omega, G4.out, below_drewN HB.out _⟩
              case measure => simp [intOf]; omega
        · have em : s = ⟨#[]⟩ := by
            have := Lib.size_eq s
            obtain ⟨⟨l⟩⟩ := s
            cases l with
            | nil => rfl
            | cons x t => simp at this; rw [this] at hs0; simp at hs0
          subst em
          have G3 := G2.out
          rw [show hyB ⟨#[]⟩ = false from rfl, if_neg (by decide)] at G3
          have G4 := Lib.hid G3
          clear G3 G2
          go_wp2_with fail
          go_quiet (fail)
          go_wp2
          go_roundw
          case rel => exact ⟨k + 1, m, 0, by omega, by go_num, rfl, rfl, by omega, by omega, by omega, by omega, G4.out, below_drewN HB.out _⟩
          case measure => simp [intOf]; omega
      · have e : hyGo 0 0 xs = m := by rw [hg.out, List.drop_of_length_le (by have := HN.out; omega), hyGo]
        have E2 := Lib.hid e
        clear e hg HC
        go_wp2
        go_ret
        exact ⟨by rw [E2.out]; rfl, hbw.out⟩
end Go.Proofs.Ytaolkplecdbadaa

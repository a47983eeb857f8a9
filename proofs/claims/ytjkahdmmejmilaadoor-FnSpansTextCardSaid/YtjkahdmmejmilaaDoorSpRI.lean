/-
  PROVED HERE: what ReadSpans of the program returns. Conditions: each theorem's own.
-/
import Derived.Test.YtjkahdmmejmilaaDoorSpRS
import Derived.Test.YtjkahdmmejmilaaDoorAtoi
import Derived.Test.YtjkahdmmejmilaaDoorSpTxtI
import Derived.Deep.QuietTactic
import Derived.BigQuiet
import Derived.Deep.RegionWith
set_option linter.unusedVariables false
set_option linter.unusedSimpArgs false
namespace Go.Proofs.YtjkahdmmejmilaaDoor
open Go.RowKit

/-- The library's own variable holds some number. -/
def MaxTab (w : World) : Prop := ∃ m : Int, w.cell? ⟨0, 0, none⟩ = some (.int .i64 m)
theorem MaxTab.below {w w' : World} {B : Nat} (h : MaxTab w) (hb : Below B w w') (hB : w.heap.size ≤ B) : MaxTab w' := by
  obtain ⟨m, hm⟩ := h
  exact ⟨m, cell_kept hm hb hB⟩
/-- What the library's functions read. -/
def RdTab (w : World) : Prop := MaxTab w ∧ PwTab w ∧ ErrTab w
theorem RdTab.below {w w' : World} {B : Nat} (h : RdTab w) (hb : Below B w w') (hB : w.heap.size ≤ B) : RdTab w' := ⟨h.1.below hb hB, h.2.1.below hb hB, h.2.2.below hb hB⟩
theorem bs_size (l : List UInt8) : (bs l).size = l.length := by simp [ByteArray.size]
theorem isPage_any (n : Int) (w : World) : Calls Tryd.prog 36 #[.int .i64 n] w fun e w' => e = .returned (.bool (inB n 1 999)) ∧ w = w' := by
  go_enter Tryd.func36, Tryd.ntmps36
  go_wp2_with (go_at_call 37; refine (in_any _ _ _ _).mono ?_; rintro e w' ⟨rfl, rfl⟩)
  go_ret
  exact ⟨rfl, rfl⟩
theorem cut_len (wd : List UInt8) : (runA wd).length ≤ wd.length ∧ (runB wd).length ≤ wd.length := by
  unfold runA runB Lib.cut
  split
  · simp only [if_true, List.length_take, List.length_drop]
    omega
  · simp
/-- It returns what readRun finds. -/
def RunPost (wd : List UInt8) (w : World) (e : Ending) (w' : World) : Prop :=
  ∃ (f t : Int) (b : Bool), e = .returned (.tuple #[.int .i64 f, .int .i64 t, .bool b]) ∧ RunRes wd f t b ∧ Below w.heap.size w w'
theorem runText_all (x : DSpan) (h1 : 1 ≤ x.f0 ∧ x.f0 ≤ 999) (h3 : 1 ≤ x.f1 ∧ x.f1 ≤ 999) (w : World) (ht : PwTab w) : Calls Tryd.prog 24 #[.int .i64 x.f0, .int .i64 x.f1] w (RetT (runT x) w) := by
  have TAB := Lib.hid ht
  have ea : Hid (runT x = if x.f0 = x.f1 then Lib.decDigits x.f0.toNat else Lib.decDigits x.f0.toNat ++ (45 :: Lib.decDigits x.f1.toNat)) := rfl
  obtain ⟨T, hT⟩ : ∃ T, T = runT x := ⟨_, rfl⟩
  obtain ⟨a, b⟩ := x
  simp only at h1 h3 ea ⊢
  rw [← hT] at ea ⊢
  have I0 := Lib.hid (fun w h => itoaD a h1.1 h1.2 w h)
  have I1 := Lib.hid (fun w h => itoaD b h3.1 h3.2 w h)
  have la := decDigits_len a.toNat (by omega)
  have lb := decDigits_len b.toNat (by omega)
  obtain ⟨A, hA⟩ : ∃ A, A = Lib.decDigits a.toNat := ⟨_, rfl⟩
  obtain ⟨B, hB⟩ : ∃ B, B = Lib.decDigits b.toNat := ⟨_, rfl⟩
  rw [← hA] at I0 ea la
  rw [← hB] at I1 ea lb
  clear hT hA hB ht
  by_cases hab : a = b
  · have E : Hid (T = A) := by show _ = _; rw [ea.out, if_pos hab]
    subst hab
    clear ea
    go_enter Tryd.func24, Tryd.ntmps24
    go_wp2_with (go_at_call 38; refine (I0.out _ TAB.out).mono ?_)
    rintro e w1 ⟨rfl, b1⟩
    have B1 := Lib.hid b1
    clear b1
    go_wp2
    go_ret
    exact ⟨by rw [E.out]; rfl, B1.out⟩
  · have E : Hid (bs A ++ (⟨#[45]⟩ : ByteArray) ++ bs B = bs T) := by
      show _ = _
      rw [ea.out, if_neg hab, show (⟨#[45]⟩ : ByteArray) = bs [45] from rfl, bs_append, bs_append, List.append_assoc]
      rfl
    have c1 : ¬ 9223372036854775807 < A.length + 1 := by omega
    have c2 : ¬ 9223372036854775807 < A.length + 1 + B.length := by omega
    clear ea
    go_enter Tryd.func24, Tryd.ntmps24
    go_wp2_with (go_at_call 38; refine (I0.out _ TAB.out).mono ?_)
    rintro e w1 ⟨rfl, b1⟩
    have B1 := Lib.hid b1
    clear b1
    go_wp2_with (go_at_call 38; refine (I1.out _ (TAB.out.below B1.out (Nat.le_refl _))).mono ?_)
    rintro e w2 ⟨rfl, b2⟩
    have B2 := Lib.hid (below_next B1.out b2 (Nat.le_refl _))
    clear b2 B1
    go_wp2
    go_ret
    exact ⟨by rw [← E.out]; rfl, B2.out⟩


theorem runT_inj : ∀ (xs ys : List DSpan), (∀ x ∈ xs, (1 ≤ x.f0 ∧ x.f0 ≤ 999) ∧ 1 ≤ x.f1 ∧ x.f1 ≤ 999) → (∀ x ∈ ys, (1 ≤ x.f0 ∧ x.f0 ≤ 999) ∧ 1 ≤ x.f1 ∧ x.f1 ≤ 999) → xs.map runT = ys.map runT → xs = ys
  | [], [], _, _, _ => rfl
  | [], y :: s, _, _, h => by simp at h
  | x :: t, [], _, _, h => by simp at h
  | x :: t, y :: s, hx, hy, h => by
    rw [List.map_cons, List.map_cons] at h
    injection h with h1 h2
    have ih := runT_inj t s (fun z hz => hx z (List.mem_cons_of_mem _ hz)) (fun z hz => hy z (List.mem_cons_of_mem _ hz)) h2
    have a := hx x (by simp)
    have b := hy y (by simp)
    obtain ⟨p1, p2⟩ := run_of a.1 a.2
    obtain ⟨q1, q2⟩ := run_of b.1 b.2
    rw [h1, q1] at p1
    rw [h1, q2] at p2
    injection p1 with p1
    injection p2 with p2
    rw [ih]
    cases x
    cases y
    simp only at p1 p2
    rw [p1, p2]
theorem spl_len (l : List UInt8) : (spl l).length = Lib.count l [44] + 1 := by
  have h := Lib.splitB_all (bs [44]) (by rw [bs_size]; decide) 0 (Lib.count l [44]) (bs l) (by simp [Lib.countB])
  have d := Lib.splitB_data (bs [44]) 0 (Lib.count l [44]) (bs l)
  have e := congrArg List.length d
  rw [List.length_map, h] at e
  unfold spl
  simpa using e.symm
theorem spl_mem : ∀ (n : Nat) (s : List UInt8), s.length ≤ n → ∀ x ∈ spl s, x.length ≤ s.length := by
  intro n
  induction n with
  | zero =>
    intro s hs x hx
    obtain rfl : s = [] := List.eq_nil_of_length_eq_zero (by omega)
    rw [spl_none (by simp)] at hx
    rw [List.mem_singleton.1 hx]
    exact Nat.le_refl _
  | succ n ih =>
    intro s hs x hx
    by_cases h : (44 : UInt8) ∈ s
    · obtain ⟨w, r, rfl, hw⟩ := List.eq_append_cons_of_mem h
      rw [spl_cons hw] at hx
      rcases List.mem_cons.1 hx with rfl | hx
      · rw [List.length_append]
        omega
      · have := ih r (by simp at hs; omega) x hx
        rw [List.length_append, List.length_cons]
        omega
    · rw [spl_none h] at hx
      rw [List.mem_singleton.1 hx]
      exact Nat.le_refl _
theorem splitB_spl (l : List UInt8) : (Lib.splitB (bs [44]) 0 (Lib.count l [44]) (bs l)).map Value.string = (spl l).map fun x => Value.string (bs x) := by
  have d := Lib.splitB_data (bs [44]) 0 (Lib.count l [44]) (bs l)
  have e : (bs [44]).data.toList = [44] := rfl
  have e2 : (bs l).data.toList = l := by simp
  rw [e, e2] at d
  unfold spl
  rw [← d, List.map_map]
  apply List.map_congr_left
  intro a _
  rfl
theorem split_any (l : List UInt8) (hl : l.length ≤ 1048600) (w : World) (hm : MaxTab w) : Calls Tryd.prog 31 #[.string (bs l), .string ⟨#[44]⟩] w fun e w' => e = .returned (.slice (some ⟨w.heap.size, 0, none⟩) (spl l).length (spl l).length) ∧ w' = w.alloc (.cells ((spl l).map fun x => Value.string (bs x)).toArray 9) := by
  obtain ⟨m, hm⟩ := hm
  have h := Tryd.strings_Split (bs l) (bs [44]) m w (by rw [bs_size]; omega) hm (by rw [bs_size]; decide)
  have e : Lib.countB (bs l) (bs [44]) = Lib.count l [44] := by simp [Lib.countB]
  rw [e, splitB_spl, ← spl_len] at h
  exact h
/-- It returns two texts and whether the second is one. -/
def CutPost (a b : List UInt8) (fl : Bool) (w : World) (e : Ending) (w' : World) : Prop := e = .returned (.tuple #[.string (bs a), .string (bs b), .bool fl]) ∧ Below w.heap.size w w'
theorem cut_any (l : List UInt8) (hl : l.length ≤ 1048600) (w : World) (hm : MaxTab w) : Calls Tryd.prog 43 #[.string (bs l), .string ⟨#[45]⟩] w (CutPost (Lib.cut l [45]).1 (Lib.cut l [45]).2.1 (Lib.cut l [45]).2.2 w) := by
  obtain ⟨m, hm⟩ := hm
  have h := Tryd.strings_Cut (bs l) (bs [45]) m w (by rw [bs_size]; omega) hm
  refine h.mono ?_
  rintro e w' ⟨rfl, n, rfl⟩
  refine ⟨?_, below_drewN (Below.refl _ _) n⟩
  simp

/-- How the two halves of a word are read. -/
def AtoiIs (l : List UInt8) (n : Int) (ev : Value) : Prop := (Lib.atoiAll l = .ok n ∧ ev = .nilIface) ∨ ((∀ v, Lib.atoiAll l ≠ .ok v) ∧ ∃ t p, ev = .iface t p)
theorem run_no {wd : List UInt8} {f t : Int} {ev ev' : Value} (h1 : AtoiIs (runA wd) f ev) (h2 : AtoiIs (runB wd) t ev') (hn : ¬ (ev = .nilIface ∧ ev' = .nilIface ∧ inB f 1 999 = true ∧ inB t 1 999 = true ∧ runT ⟨f, t⟩ = wd)) : RunRes wd f t false := by
  refine ⟨(fun h => by cases h), fun x hx0 hx1 hr => absurd ?_ hn⟩
  obtain ⟨p1, p2⟩ := run_of hx0 hx1
  rw [hr] at p1 p2
  rcases h1 with ⟨q1, r1⟩ | ⟨q1, _⟩
  · rcases h2 with ⟨q2, r2⟩ | ⟨q2, _⟩
    · rw [p1] at q1
      rw [p2] at q2
      injection q1 with q1
      injection q2 with q2
      subst q1 q2
      exact ⟨r1, r2, inB_yes hx0.1 hx0.2, inB_yes hx1.1 hx1.2, hr⟩
    · exact absurd p2 (q2 _)
  · exact absurd p1 (q1 _)
theorem run_yes {wd : List UInt8} {f t : Int} (hf : inB f 1 999 = true) (ht : inB t 1 999 = true) (h : runT ⟨f, t⟩ = wd) : RunRes wd f t true := by
  have a := inB_true hf
  have b := inB_true ht
  refine ⟨fun _ => ⟨a.1, a.2, b.1, b.2, h⟩, fun x hx0 hx1 hr => ?_⟩
  obtain ⟨p1, p2⟩ := run_of hx0 hx1
  obtain ⟨q1, q2⟩ := run_of (x := ⟨f, t⟩) a b
  rw [hr, ← h, q1] at p1
  rw [hr, ← h, q2] at p2
  injection p1 with p1
  injection p2 with p2
  exact ⟨rfl, p1, p2⟩

set_option maxRecDepth 100000 in
set_option maxHeartbeats 8000000 in
theorem implRun_any (wd : List UInt8) (hl : wd.length ≤ 1048600) (w : World) (hm : RdTab w) : Calls Tryd.prog 32 #[.string (bs wd)] w (RunPost wd w) := by
  have CU := Lib.hid (cut_any wd hl w hm.1)
  have TAB := Lib.hid hm
  obtain ⟨A, hA⟩ : ∃ A, A = runA wd := ⟨_, rfl⟩
  obtain ⟨B, hB⟩ : ∃ B, B = runB wd := ⟨_, rfl⟩
  have hcl := cut_len wd
  rw [← hA, ← hB] at hcl
  have hAl : A.length ≤ 4000000 := by omega
  have hBl : B.length ≤ 4000000 := by omega
  have AT1 := Lib.hid (fun w h => atoi_any A hAl w h)
  have AT2 := Lib.hid (fun w h => atoi_any B hBl w h)
  have NO : Hid (∀ (f t : Int) (ev ev' : Value), AtoiIs A f ev → AtoiIs B t ev' → ¬ (ev = .nilIface ∧ ev' = .nilIface ∧ inB f 1 999 = true ∧ inB t 1 999 = true ∧ runT ⟨f, t⟩ = wd) → RunRes wd f t false) := fun f t ev ev' h1 h2 hn => run_no (by rw [← hA]; exact h1) (by rw [← hB]; exact h2) hn
  obtain ⟨c1, c2, fl, hc⟩ : ∃ A0 B0 fl, Lib.cut wd [45] = (A0, B0, fl) := ⟨_, _, _, rfl⟩
  rw [hc] at CU
  have eA : c1 = A := by rw [hA]; unfold runA; rw [hc]
  have eB : (if fl = true then c2 else c1) = B := by rw [hB]; unfold runB; rw [hc]
  clear hm hA hB hcl hAl hBl hc
  cases fl
  · obtain rfl : c1 = A := eA
    obtain rfl : c1 = B := eB
    go_enter Tryd.func32, Tryd.ntmps32
    go_wp2_with (go_at_call 43; refine (CU.out).mono ?_)
    rintro e w1 ⟨rfl, b1⟩
    have B1 := Lib.hid b1
    clear b1 CU
    go_wp2_with (go_at_call 44; refine (AT1.out _ (TAB.out.2.2.below B1.out (Nat.le_refl _))).mono ?_)
    rintro e w2 ⟨f, ev1, rfl, hp1, b2⟩
    have B2 := Lib.hid (below_next B1.out b2 (Nat.le_refl _))
    have P1 : Hid (AtoiIs c1 f ev1) := hp1
    clear b2 B1 hp1
    go_wp2_with (go_at_call 44; refine (AT2.out _ (TAB.out.2.2.below B2.out (Nat.le_refl _))).mono ?_)
    rintro e w3 ⟨t, ev2, rfl, hp2, b3⟩
    have B3 := Lib.hid (below_next B2.out b3 (Nat.le_refl _))
    have P2 : Hid (AtoiIs c1 t ev2) := hp2
    clear b3 B2 hp2 AT1 AT2
    have N := Lib.hid (NO.out f t ev1 ev2 P1.out P2.out)
    clear NO
    rcases P1.out with ⟨_, rfl⟩ | ⟨_, t1, p1, rfl⟩
    · rcases P2.out with ⟨_, rfl⟩ | ⟨_, t2, p2, rfl⟩
      · cases hf : inB f 1 999
        · have R := Lib.hid (N.out (fun h => by rw [hf] at h; cases h.2.2.1))
          have HF := Lib.hid hf
          clear hf N P1 P2
          go_wp2_with (go_at_call 36; refine (isPage_any f _).mono ?_; rintro e w' ⟨rfl, hw'⟩; rw [HF.out, ← hw']; clear hw')
          go_ret3
          exact ⟨f, t, false, rfl, R.out, B3.out⟩
        · cases ht : inB t 1 999
          · have R := Lib.hid (N.out (fun h => by rw [ht] at h; cases h.2.2.2.1))
            have HF := Lib.hid hf
            have HT := Lib.hid ht
            clear hf ht N P1 P2
            go_wp2_with (go_at_call 36; first | (refine (isPage_any f _).mono ?_; rintro e w' ⟨rfl, hw'⟩; rw [HF.out, ← hw']; clear hw') | (refine (isPage_any t _).mono ?_; rintro e w' ⟨rfl, hw'⟩; rw [HT.out, ← hw']; clear hw'))
            go_ret3
            exact ⟨f, t, false, rfl, R.out, B3.out⟩
          · have RT := Lib.hid (runText_all ⟨f, t⟩ (inB_true hf) (inB_true ht) w3 (TAB.out.2.1.below B3.out (Nat.le_refl _)))
            have YES := Lib.hid (fun h => run_yes (wd := wd) hf ht h)
            have N2 : Hid (runT ⟨f, t⟩ ≠ wd → RunRes wd f t false) := fun hne => N.out (fun h => hne h.2.2.2.2)
            obtain ⟨X, hX⟩ : ∃ X, X = runT ⟨f, t⟩ := ⟨_, rfl⟩
            rw [← hX] at RT YES N2
            have HF := Lib.hid hf
            have HT := Lib.hid ht
            clear hf ht N P1 P2 hX
            by_cases hXw : X = wd
            · have R := Lib.hid (YES.out hXw)
              clear N2 YES
              subst hXw
              go_wp2_with (first | (go_at_call 36; first | (refine (isPage_any f _).mono ?_; rintro e w' ⟨rfl, hw'⟩; rw [HF.out, ← hw']; clear hw') | (refine (isPage_any t _).mono ?_; rintro e w' ⟨rfl, hw'⟩; rw [HT.out, ← hw']; clear hw')) | (go_at_call 24; refine (RT.out).mono ?_))
              rintro e w4 ⟨rfl, b4⟩
              have B4 := Lib.hid (below_next B3.out b4 (Nat.le_refl _))
              clear b4
              go_wp2
              go_ret3
              exact ⟨f, t, true, rfl, R.out, B4.out⟩
            · have R := Lib.hid (N2.out hXw)
              have hcmp : (X == wd) = false := by simpa using hXw
              clear N2 YES hXw
              go_wp2_with (first | (go_at_call 36; first | (refine (isPage_any f _).mono ?_; rintro e w' ⟨rfl, hw'⟩; rw [HF.out, ← hw']; clear hw') | (refine (isPage_any t _).mono ?_; rintro e w' ⟨rfl, hw'⟩; rw [HT.out, ← hw']; clear hw')) | (go_at_call 24; refine (RT.out).mono ?_))
              rintro e w4 ⟨rfl, b4⟩
              have B4 := Lib.hid (below_next B3.out b4 (Nat.le_refl _))
              clear b4
              go_wp2
              go_ret3
              exact ⟨f, t, false, rfl, R.out, B4.out⟩
      · have R := Lib.hid (N.out (fun h => by cases h.2.1))
        clear N P1 P2
        go_wp2
        go_ret3
        exact ⟨f, t, false, rfl, R.out, B3.out⟩
    · have R := Lib.hid (N.out (fun h => by cases h.1))
      clear N P1 P2
      go_wp2
      go_ret3
      exact ⟨f, t, false, rfl, R.out, B3.out⟩
  · obtain rfl : c1 = A := eA
    obtain rfl : c2 = B := eB
    go_enter Tryd.func32, Tryd.ntmps32
    go_wp2_with (go_at_call 43; refine (CU.out).mono ?_)
    rintro e w1 ⟨rfl, b1⟩
    have B1 := Lib.hid b1
    clear b1 CU
    go_wp2_with (go_at_call 44; refine (AT1.out _ (TAB.out.2.2.below B1.out (Nat.le_refl _))).mono ?_)
    rintro e w2 ⟨f, ev1, rfl, hp1, b2⟩
    have B2 := Lib.hid (below_next B1.out b2 (Nat.le_refl _))
    have P1 : Hid (AtoiIs c1 f ev1) := hp1
    clear b2 B1 hp1
    go_wp2_with (go_at_call 44; refine (AT2.out _ (TAB.out.2.2.below B2.out (Nat.le_refl _))).mono ?_)
    rintro e w3 ⟨t, ev2, rfl, hp2, b3⟩
    have B3 := Lib.hid (below_next B2.out b3 (Nat.le_refl _))
    have P2 : Hid (AtoiIs c2 t ev2) := hp2
    clear b3 B2 hp2 AT1 AT2
    have N := Lib.hid (NO.out f t ev1 ev2 P1.out P2.out)
    clear NO
    rcases P1.out with ⟨_, rfl⟩ | ⟨_, t1, p1, rfl⟩
    · rcases P2.out with ⟨_, rfl⟩ | ⟨_, t2, p2, rfl⟩
      · cases hf : inB f 1 999
        · have R := Lib.hid (N.out (fun h => by rw [hf] at h; cases h.2.2.1))
          have HF := Lib.hid hf
          clear hf N P1 P2
          go_wp2_with (go_at_call 36; refine (isPage_any f _).mono ?_; rintro e w' ⟨rfl, hw'⟩; rw [HF.out, ← hw']; clear hw')
          go_ret3
          exact ⟨f, t, false, rfl, R.out, B3.out⟩
        · cases ht : inB t 1 999
          · have R := Lib.hid (N.out (fun h => by rw [ht] at h; cases h.2.2.2.1))
            have HF := Lib.hid hf
            have HT := Lib.hid ht
            clear hf ht N P1 P2
            go_wp2_with (go_at_call 36; first | (refine (isPage_any f _).mono ?_; rintro e w' ⟨rfl, hw'⟩; rw [HF.out, ← hw']; clear hw') | (refine (isPage_any t _).mono ?_; rintro e w' ⟨rfl, hw'⟩; rw [HT.out, ← hw']; clear hw'))
            go_ret3
            exact ⟨f, t, false, rfl, R.out, B3.out⟩
          · have RT := Lib.hid (runText_all ⟨f, t⟩ (inB_true hf) (inB_true ht) w3 (TAB.out.2.1.below B3.out (Nat.le_refl _)))
            have YES := Lib.hid (fun h => run_yes (wd := wd) hf ht h)
            have N2 : Hid (runT ⟨f, t⟩ ≠ wd → RunRes wd f t false) := fun hne => N.out (fun h => hne h.2.2.2.2)
            obtain ⟨X, hX⟩ : ∃ X, X = runT ⟨f, t⟩ := ⟨_, rfl⟩
            rw [← hX] at RT YES N2
            have HF := Lib.hid hf
            have HT := Lib.hid ht
            clear hf ht N P1 P2 hX
            by_cases hXw : X = wd
            · have R := Lib.hid (YES.out hXw)
              clear N2 YES
              subst hXw
              go_wp2_with (first | (go_at_call 36; first | (refine (isPage_any f _).mono ?_; rintro e w' ⟨rfl, hw'⟩; rw [HF.out, ← hw']; clear hw') | (refine (isPage_any t _).mono ?_; rintro e w' ⟨rfl, hw'⟩; rw [HT.out, ← hw']; clear hw')) | (go_at_call 24; refine (RT.out).mono ?_))
              rintro e w4 ⟨rfl, b4⟩
              have B4 := Lib.hid (below_next B3.out b4 (Nat.le_refl _))
              clear b4
              go_wp2
              go_ret3
              exact ⟨f, t, true, rfl, R.out, B4.out⟩
            · have R := Lib.hid (N2.out hXw)
              have hcmp : (X == wd) = false := by simpa using hXw
              clear N2 YES hXw
              go_wp2_with (first | (go_at_call 36; first | (refine (isPage_any f _).mono ?_; rintro e w' ⟨rfl, hw'⟩; rw [HF.out, ← hw']; clear hw') | (refine (isPage_any t _).mono ?_; rintro e w' ⟨rfl, hw'⟩; rw [HT.out, ← hw']; clear hw')) | (go_at_call 24; refine (RT.out).mono ?_))
              rintro e w4 ⟨rfl, b4⟩
              have B4 := Lib.hid (below_next B3.out b4 (Nat.le_refl _))
              clear b4
              go_wp2
              go_ret3
              exact ⟨f, t, false, rfl, R.out, B4.out⟩
      · have R := Lib.hid (N.out (fun h => by cases h.2.1))
        clear N P1 P2
        go_wp2
        go_ret3
        exact ⟨f, t, false, rfl, R.out, B3.out⟩
    · have R := Lib.hid (N.out (fun h => by cases h.1))
      clear N P1 P2
      go_wp2
      go_ret3
      exact ⟨f, t, false, rfl, R.out, B3.out⟩
end Go.Proofs.YtjkahdmmejmilaaDoor

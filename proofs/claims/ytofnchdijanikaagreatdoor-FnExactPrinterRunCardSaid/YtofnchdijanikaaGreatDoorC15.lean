/-
  PROVED HERE: what the printer's lines need, part C15. Conditions: each theorem's own.
-/
import Derived.Test.YtofnchdijanikaaGreatDoorC14
import Derived.Test.YtofnchdijanikaaGreatDoorC10
import Derived.Test.YtofnchdijanikaaGreatDoorC09
set_option linter.unusedVariables false
set_option linter.unusedSimpArgs false
set_option maxRecDepth 100000
namespace Go.Proofs.YtofnchdijanikaaGreatDoor
open Go.RowKit
theorem markOf_succ (xs : List DItem) (t : Nat) : (it xs t).mark = markOf xs (t + 1) := by
 unfold markOf
 rw [decide_eq_true (Nat.succ_pos t)]
 rfl
theorem best_any (cb b off cap n : Nat) (xs : List DItem) (hx : PIs xs) (wd most : Int) (hw : 0 ≤ wd ∧ wd ≤ 1000) (hm : 0 ≤ most ∧ most ≤ 10000) (B : Nat) (hn : n = xs.length) : ∀ (d a : Nat) (A lk : Int) (mk : Bool) (w : World), n - a ≤ d → a ≤ n → A = (a : Int) - 1 → mk = markOf xs a → 0 ≤ lk ∧ lk ≤ 3 → Chs w cb b off cap n xs wd most B →
  Calls Tryz.prog 138 #[.pointer (some ⟨cb, 0, none⟩), .agg #[.int .i64 A, .bool mk, .int .i64 lk]] w (BestPost xs wd most a lk B w) := by
 intro d
 induction d with
 | zero =>
  intro a A lk mk w hd ha hA hmk hlk hc
  obtain rfl : a = n := by omega
  exact best_last cb b off cap a xs wd most B A lk mk w hA hn (by have := hx.len; omega) hc
 | succ d ih =>
  intro a A lk mk w hd ha hA hmk hlk hc
  by_cases han : a < n
  ·refine best_step cb b off cap n xs hx wd most hw hm B a A lk mk w hA hmk hlk hn han hc (fun t l w h1 h2 h3 h4 => ?_)
   exact ih (t + 1) t l (it xs t).mark w (by omega) (by omega) (by omega) (markOf_succ xs t) h3 h4
  ·obtain rfl : a = n := by omega
   exact best_last cb b off cap a xs wd most B A lk mk w hA hn (by have := hx.len; omega) hc
theorem path_zero (xs : List DItem) (wd most bf bf' : Int) : path xs wd most 0 bf = path xs wd most 0 bf' := by
 unfold path
 cases h : xs.length - 0 with
 | zero => rfl
 | succ f => rw [pathF, pathF, best_zero xs wd most bf bf']
theorem bestBreaks_zero (xs : List DItem) (wd most : Int) : bestBreaks xs wd most = (best xs wd most 0 0).map fun _ => path xs wd most 0 0 := by
 unfold bestBreaks
 rw [best_zero xs wd most 1 0, path_zero xs wd most 1 0]
def sliceLen : Value → Nat | .slice _ n _ => n | _ => 0
theorem own_sliceLen {w : World} {B : Nat} {v : Value} {xs : List Int} (h : OwnI w B v xs) : sliceLen v = xs.length := by
 rcases h.2 with ⟨rfl, h0⟩ | ⟨g, cap, cur, rfl, _⟩
 ·exact h0.symm
 ·rfl
def BrPost (xs : List DItem) (wd most : Int) (w : World) (e : Ending) (w' : World) : Prop := ∃ v, e = .returned (.tuple #[v, .bool (bestBreaks xs wd most).isSome]) ∧ OwnI w' w.heap.size v (ints ((bestBreaks xs wd most).getD [])) ∧ Below w.heap.size w w'
theorem chs_made (w : World) (b off cap n : Nat) (xs : List DItem) (wd most : Int) (hc : ItC w b off n xs) :
  Chs ((w.alloc (.map #[] 0)).alloc (.cells #[.slice (some ⟨b, off, none⟩) n cap, .int .i64 wd, .int .i64 most, .map (some w.heap.size)] 153)) (w.heap.size + 1) b off cap n xs wd most w.heap.size := by
 have AL : Below w.heap.size w (w.alloc (.map #[] 0)) := (Below.refl _ _).alloc (Nat.le_refl _) _
 have hs : (w.alloc (.map #[] 0)).heap.size = w.heap.size + 1 := by simp
 have AL2 : Below (w.alloc (.map #[] 0)).heap.size (w.alloc (.map #[] 0)) ((w.alloc (.map #[] 0)).alloc (.cells #[.slice (some ⟨b, off, none⟩) n cap, .int .i64 wd, .int .i64 most, .map (some w.heap.size)] 153)) := (Below.refl _ _).alloc (Nat.le_refl _) _
 have hb := hc.2.1
 have R := own4_made (w.alloc (.map #[] 0)) (B := w.heap.size) (by omega) 153 (.slice (some ⟨b, off, none⟩) n cap) (.int .i64 wd) (.int .i64 most) (.map (some w.heap.size))
 rw [hs] at R
 obtain ⟨c0, c1, c2, c3⟩ := own4 R
 exact ⟨(hc.below AL).below AL2, by omega, by omega, by have := R.lt (w.heap.size + 1) rfl; exact this.2, c0, c1, c2, c3, (Memo.made w KS61 (MOk xs wd most)).kept (grown_of_below AL2 none) (by simp)⟩
set_option maxHeartbeats 16000000 in
theorem implBreaks_any (b off cap n : Nat) (xs : List DItem) (hx : PIs xs) (w : World) (hc : ItC w b off n xs) (hn0 : 0 < n) (wd most : Int) (hw : 0 ≤ wd ∧ wd ≤ 1000) (hm : 0 ≤ most ∧ most ≤ 10000) :
  Calls Tryz.prog 106 #[.slice (some ⟨b, off, none⟩) n cap, .int .i64 wd, .int .i64 most] w (BrPost xs wd most w) := by
 have LA := Lib.hid (lineArgs_any b off cap n xs hx w hc hn0 wd most hw hm)
 have hn := hc.1
 have HC := Lib.hid hc
 have HN := Lib.hid hn
 have BA := Lib.hid (fun cb B a A lk mk w h1 h2 h3 h4 h5 => best_any cb b off cap n xs hx wd most hw hm B hn n a A lk mk w (Nat.sub_le _ _) h1 h2 h3 h4 h5)
 have HX := Lib.hid hx
 have HM := Lib.hid hm
 have HW := Lib.hid hw
 have n60 : n ≤ 60 := by have := hx.len; omega
 have HB := Lib.hid (bestBreaks_zero xs wd most)
 clear hc hn hx hm hw
 have hmm := @run_makeMap Tryz.prog
 have HV := Lib.hid (fun a lk (ha : a < n) => valV_at (xs := xs) (wd := wd) (most := most) (a := a) (lk := lk) (by have := HN.out; omega))
 have NX := Lib.hid (fun a lk m u (ha : a < n) (h : best xs wd most a lk = some (m, u)) => (show a ≤ u ∧ u < n ∧ 0 ≤ m ∧ (u + 1 < n → ∃ q v, best xs wd most (u + 1) (accL xs wd a (some (m, u))) = some (q, v)) ∧ 0 ≤ accL xs wd a (some (m, u)) ∧ accL xs wd a (some (m, u)) ≤ 3 ∧ path xs wd most a lk = u :: path xs wd most (u + 1) (accL xs wd a (some (m, u))) by
  have hl : a < xs.length := by have := HN.out; omega
  obtain ⟨h1, h2, c, l, q, v, h3, h4, h5⟩ := best_next hl h
  have h6 := (lineC_some h3).2.2.2.2
  have h7 := best_bd HX.out.ok HM.out.2 xs.length a lk m u (by omega) h
  have h8 := looksV_bd (setB (lineG xs a u) wd).2 (setB (lineG xs a u) wd).1
  refine ⟨h1, by have := HN.out; omega, h7.1, fun _ => ⟨q, v, ?_⟩, h8.1, h8.2, path_at hl h⟩
  rw [h6] at h4
  exact h4))
 have PEN := Lib.hid (fun lk => path_end xs wd most n lk (by have := HN.out; omega))
 go_enter Tryz.func106, Tryz.ntmps106
 go_wp2_with (first | (go_at_call 137; refine LA.out.mono ?_; rintro e w2 ⟨rfl, hb2⟩))
 have C3 := chs_made w2 b off cap n xs wd most (HC.out.below hb2)
 have hs3 : ((w2.alloc (.map #[] 0)).alloc (.cells #[.slice (some ⟨b, off, none⟩) n cap, .int .i64 wd, .int .i64 most, .map (some w2.heap.size)] 153)).heap.size = w2.heap.size + 2 := by simp
 have AL4 : Below ((w2.alloc (.map #[] 0)).alloc (.cells #[.slice (some ⟨b, off, none⟩) n cap, .int .i64 wd, .int .i64 most, .map (some w2.heap.size)] 153)).heap.size ((w2.alloc (.map #[] 0)).alloc (.cells #[.slice (some ⟨b, off, none⟩) n cap, .int .i64 wd, .int .i64 most, .map (some w2.heap.size)] 153)) (((w2.alloc (.map #[] 0)).alloc (.cells #[.slice (some ⟨b, off, none⟩) n cap, .int .i64 wd, .int .i64 most, .map (some w2.heap.size)] 153)).alloc (.cells #[.int .i64 (-1), .bool false, .int .i64 0] 155)) := (Below.refl _ _).alloc (Nat.le_refl _) _
 have C4 := Lib.hid (C3.below AL4)
 have R4 := own3_made ((w2.alloc (.map #[] 0)).alloc (.cells #[.slice (some ⟨b, off, none⟩) n cap, .int .i64 wd, .int .i64 most, .map (some w2.heap.size)] 153)) (B := w.heap.size) (by have := hb2.size; omega) 155 (.int .i64 (-1)) (.bool false) (.int .i64 0)
 rw [hs3] at R4
 have O4 := Lib.hid R4
 have B4 : Hid (Below w.heap.size w (((w2.alloc (.map #[] 0)).alloc (.cells #[.slice (some ⟨b, off, none⟩) n cap, .int .i64 wd, .int .i64 most, .map (some w2.heap.size)] 153)).alloc (.cells #[.int .i64 (-1), .bool false, .int .i64 0] 155))) := ((hb2.alloc hb2.size _).alloc (by have := hb2.size; simp; omega) _).alloc (by have := hb2.size; simp; omega) _
 have H2 : Hid (w.heap.size ≤ w2.heap.size) := hb2.size
 obtain ⟨N, hN⟩ : ∃ N, N = w2.heap.size := ⟨_, rfl⟩
 clear C3 hs3 AL4 R4 hb2 hmm
 go_loopw [10] (fun v wr => ∃ (a : Nat) (lk : Int) (pre : List Nat), a ≤ n ∧ (0 ≤ lk ∧ lk ≤ 3) ∧ pre.length ≤ a ∧ Hid (path xs wd most 0 0 = pre ++ path xs wd most a lk) ∧ Hid ((a = 0 ∧ lk = 0) ∨ ((∃ q v, best xs wd most 0 0 = some (q, v)) ∧ (a < n → ∃ q v, best xs wd most a lk = some (q, v)))) ∧ Hid (OwnI wr w.heap.size v (ints pre)) ∧ Hid (some (w2.heap.size + 2) ≠ v.ownBlock ∧ some (w2.heap.size + 1) ≠ v.ownBlock ∧ some w2.heap.size ≠ v.ownBlock) ∧ Hid (wr.ownsRow w.heap.size 155 3 (.slice (some ⟨w2.heap.size + 2, 0, none⟩) 1 1) 1 [.int .i64 ((a : Int) - 1), .bool (markOf xs a), .int .i64 lk]) ∧ Hid (Chs wr (w2.heap.size + 1) b off cap n xs wd most w2.heap.size) ∧ Hid (Below w.heap.size w wr)) (fun v _ => n - sliceLen v)
 case atStart => exact ⟨0, 0, [], Nat.zero_le _, ⟨Int.le_refl _, by decide⟩, Nat.le_refl _, rfl, .inl ⟨rfl, rfl⟩, OwnI.nil _ _, ⟨by simp [Value.ownBlock], by simp [Value.ownBlock], by simp [Value.ownBlock]⟩, O4.out, C4.out, B4.out⟩
 case round =>
  obtain ⟨a, lk, pre, ha, hlk, hpl, hpp, hst, ho, hne, hr, hC, hb⟩ := hrel
  clear C4 O4 B4
  obtain ⟨r0, r1, r2⟩ := own3 hr.out
  have hl10 := own_sliceLen ho.out
  rw [show (ints pre).length = pre.length by simp [ints]] at hl10
  by_cases han : a < n
  ·have hcond : (a : Int) - 1 < (n : Int) - 1 := by omega
   have BK := BA.out _ _ a ((a : Int) - 1) lk (markOf xs a) wr ha rfl rfl hlk hC.out
   unfold BestPost at BK
   rw [HV.out a lk han] at BK
   have HLK := Lib.hid hlk
   have HAN := Lib.hid han
   have HA := Lib.hid ha
   have HPL := Lib.hid hpl
   have HL10 := Lib.hid hl10
   have HLT : Hid (w2.heap.size + 1 < wr.heap.size) := hC.out.cl
   clear hlk han ha hpl hl10
   cases hb1 : best xs wd most a lk with
   | none =>
    rw [hb1] at BK
    simp only [accM] at BK
    have BK := Lib.hid BK
    have E : Hid (bestBreaks xs wd most = none) := by
     show _ = _
     rcases hst.out with ⟨rfl, rfl⟩ | ⟨_, h⟩
     ·rw [HB.out, hb1]; rfl
     ·obtain ⟨q, v, h⟩ := h HAN.out
      rw [hb1] at h
      cases h
    clear hb1
    go_wp2_with (go_at_call 138; refine BK.out.mono ?_; rintro e w6 ⟨rfl, hm6, hg6⟩)
    go_ret2
    have FB := (hb.out.grown hg6 hb.out.size (fun k hk => by cases hk; exact H2.out)).alloc (by have := hb.out.size; have := hg6.size; omega) (.cells #[.int .i64 (-1), .int .i64 (accT none), .bool (accK xs none), .int .i64 (accL xs wd a none)] 157)
    exact ⟨_, by rw [E.out]; rfl, by rw [E.out]; exact OwnI.nil _ _, FB⟩
   | some p =>
    obtain ⟨m, u⟩ := p
    have nx := NX.out a lk m u HAN.out hb1
    obtain ⟨n1, n2, n3, n4, n5, n6, n7⟩ := nx
    rw [hb1] at BK
    simp only [accM, accT, accK] at BK
    have mneg : ¬ m < 0 := by omega
    have BK := Lib.hid BK
    have Q0 : Hid (∃ q v, best xs wd most 0 0 = some (q, v)) := by
     rcases hst.out with ⟨rfl, rfl⟩ | ⟨h, _⟩
     ·exact ⟨m, u, hb1⟩
     ·exact h
    obtain ⟨L, hL⟩ : ∃ L, L = accL xs wd a (some (m, u)) := ⟨_, rfl⟩
    rw [← hL] at n4 n5 n6 n7 BK
    obtain ⟨K, hK⟩ : ∃ K, K = (it xs u).mark := ⟨_, rfl⟩
    rw [← hK] at BK
    have HK : Hid (K = markOf xs (u + 1)) := hK.trans (markOf_succ xs u)
    have N4 := Lib.hid n4
    have N7 := Lib.hid (show path xs wd most 0 0 = (pre ++ [u]) ++ path xs wd most (u + 1) L by rw [hpp.out, n7, List.append_assoc]; rfl)
    clear hb1 hst hpp n4 n7 hL hK
    go_upto_region 10 with (go_at_call 138; refine BK.out.mono ?_; rintro e w6 ⟨rfl, hm6, hg6⟩; have AL7 : Below w6.heap.size w6 (w6.alloc (.cells #[.int .i64 m, .int .i64 u, .bool K, .int .i64 L] 157)) := (Below.refl _ _).alloc (Nat.le_refl _) _; have R6 := World.ownsRow.kept hr.out hg6 (.inr (show some (w2.heap.size + 2) ≠ some w2.heap.size from fun e => by have := Option.some.inj e; omega)); have R7 := owns_below R6 AL7; obtain ⟨x0, x1, x2⟩ := own3 R7; have y0 := World.ownsRow.frozenAt R7 0; have y1 := World.ownsRow.frozenAt R7 1; have y2 := World.ownsRow.frozenAt R7 2; have C7 := Lib.hid ((hC.out.memo hg6 hm6).below AL7); have O7 := Lib.hid (owns_below (World.ownsRow.kept ho.out hg6 (.inr (fun e => hne.out.2.2 e.symm))) AL7); have F := Lib.hid (own3_set R7 (.int .i64 u) (.bool K) (.int .i64 L)); have B7 := Lib.hid ((hb.out.grown hg6 hb.out.size (fun k hk => by cases hk; exact H2.out)).trans (AL7.mono (by have := hb.out.size; have := hg6.size; omega))); have S7 : Hid (w2.heap.size + 2 < (w6.alloc (.cells #[.int .i64 m, .int .i64 u, .bool K, .int .i64 L] 157)).heap.size) := (R7.lt (w2.heap.size + 2) rfl).2; clear AL7 R6 R7 hg6 hm6)
    go_cut [9] from 36 to 37 (fun v9 wx => v9 = .pointer (some ⟨w2.heap.size + 1 + 1, 0, none⟩) ∧ Hid (Chs wx (w2.heap.size + 1) b off cap n xs wd most w2.heap.size) ∧ Hid (wx.ownsRow w.heap.size 155 3 (.slice (some ⟨w2.heap.size + 2, 0, none⟩) 1 1) 1 [.int .i64 u, .bool K, .int .i64 L]) ∧ Hid (OwnI wx w.heap.size u10 (ints pre)) ∧ Hid (Below w.heap.size w wx))
    case first =>
     go_wp2_with fail
     go_meet
     exact ⟨rfl, C7.out.kept F.out.2 (fun e => by have := Option.some.inj e; have := (HC.out.2.1); have := H2.out; omega) (fun e => by have := Option.some.inj e; omega) (fun e => by have := Option.some.inj e; omega), F.out.1, World.ownsRow.kept O7.out F.out.2 (.inr (fun e => hne.out.1 e.symm)), B7.out.grown F.out.2 B7.out.size (fun k hk => by cases hk; have := H2.out; omega)⟩
    case rest =>
     obtain ⟨rfl, hC5, hR5, hO5, hB5⟩ := hcut
     obtain ⟨x0, x1, x2⟩ := own3 hR5.out
     have XL : (ints pre).length ≤ 4000000 := by show (pre.map _).length ≤ _; rw [List.length_map]; have := HPL.out; have := HA.out; omega
     have SA : Hid (ints pre ++ [(u : Int)] = ints (pre ++ [u])) := by show _ = _; rw [ints_app]; rfl
     have eu : (u : Int) = ((u + 1 : Nat) : Int) - 1 := by omega
     have HR6 : Hid (wc.ownsRow w.heap.size 155 3 (.slice (some ⟨w2.heap.size + 2, 0, none⟩) 1 1) 1 [.int .i64 (((u + 1 : Nat) : Int) - 1), .bool (markOf xs (u + 1)), .int .i64 L]) := by
      show World.ownsRow _ _ _ _ _ _ _
      rw [← HK.out, ← eu]
      exact hR5.out
     obtain ⟨X, hX⟩ : ∃ X, X = ints pre := ⟨_, rfl⟩
     have hXl : X.length = pre.length := by rw [hX]; simp [ints]
     have HXL := Lib.hid hXl
     rw [← hX] at hO5 XL SA
     clear hX hR5 eu hXl r0 r1 r2
     go_wp2_with (at_builtin; refine append_num w wc rfl _ _ rfl w.heap.size u10 X (u : Int) rfl rfl hO5.out XL (Nat.le_refl _) hB5.out ?_; intro v' w9 hown' hbel hmv hgr)
     have RR5 := Lib.hid (World.ownsRow.kept HR6.out hgr (.inr hne.out.1))
     have CC5 := Lib.hid (hC5.out.kept hgr (fun e => by have := (World.ownsRow.lt hO5.out b e.symm).1; have := HC.out.2.1; omega) hne.out.2.1 hne.out.2.2)
     have lts := hC5.out.lts
     have ltr := (World.ownsRow.lt HR6.out (w2.heap.size + 2) rfl).2
     have NE : Hid (some (w2.heap.size + 2) ≠ v'.ownBlock ∧ some (w2.heap.size + 1) ≠ v'.ownBlock ∧ some w2.heap.size ≠ v'.ownBlock) := ⟨moved_alloc hmv hne.out.1 ltr, moved_alloc hmv hne.out.2.1 (by omega), moved_alloc hmv hne.out.2.2 (by omega)⟩
     have hl10 := own_sliceLen hown'
     rw [List.length_append, HXL.out] at hl10
     have hl10' : sliceLen v' = pre.length + 1 := hl10
     first
      | exact ⟨⟨u + 1, L, pre ++ [u], n2, ⟨n5, n6⟩, by have := HPL.out; rw [List.length_append]; simp; omega, N7.out, .inr ⟨Q0.out, N4.out⟩, by rw [← SA.out]; exact hown', NE.out, RR5.out, CC5.out, hbel⟩, by rw [hl10', HL10.out]; have := HPL.out; have := HAN.out; omega⟩
      | (go_roundw
         case rel => exact ⟨u + 1, L, pre ++ [u], n2, ⟨n5, n6⟩, by have := HPL.out; rw [List.length_append]; simp; omega, N7.out, .inr ⟨Q0.out, N4.out⟩, by rw [← SA.out]; exact hown', NE.out, RR5.out, CC5.out, hbel⟩
         case measure => rw [hl10', HL10.out]; have := HPL.out; have := HAN.out; omega)
  ·obtain rfl : a = n := by omega
   have hcond : ¬ (a : Int) - 1 < (a : Int) - 1 := by omega
   have E : Hid (bestBreaks xs wd most = some pre) := by
    show _ = _
    rcases hst.out with ⟨h, _⟩ | ⟨⟨q, v, h⟩, _⟩
    ·omega
    ·rw [HB.out, h, hpp.out, PEN.out lk, List.append_nil]
     rfl
   go_wp2
   go_ret2
   exact ⟨_, by rw [E.out]; rfl, by rw [E.out]; exact ho.out, hb.out⟩
end Go.Proofs.YtofnchdijanikaaGreatDoor
namespace Go.Proofs.YtofnchdijanikaaGreatDoor
open Go.RowKit
theorem RwC.sub {w : World} {b off n : Nat} {ks : List Bool} (h : RwC w b off n ks) (a t : Nat) (ha : a ≤ t) (ht : t ≤ n) : RwC w b (off + a * 4) (t - a) ((ks.drop a).take (t - a)) := by
 obtain ⟨h1, h2, h3⟩ := h
 refine ⟨by simp; omega, h2, fun j hj => ?_⟩
 obtain ⟨a0, a1, a2, a3⟩ := h3 (a + j) (by omega)
 have e : off + (a + j) * 4 = off + a * 4 + j * 4 := by omega
 rw [e] at a0 a1 a2 a3
 refine ⟨a0, ?_, a2, a3⟩
 rw [a1]
 congr 2
 simp [List.getD, List.getElem?_take, List.getElem?_drop, hj]
set_option maxHeartbeats 4000000 in
theorem implHeight_any (b off cap n : Nat) (ks : List Bool) (w : World) (hc : RwC w b off n ks) (n30 : n ≤ 30) : Calls Tryz.prog 109 #[.slice (some ⟨b, off, none⟩) n cap] w (NumPost n w) := by
 have HC := Lib.hid hc
 clear hc
 go_enter Tryz.func109, Tryz.ntmps109
 go_wp2
 go_loopw [3, 8] (fun sv i wr => ∃ k : Nat, k ≤ n ∧ sv = .int .i64 k ∧ i = .int .i64 k ∧ Hid (Below w.heap.size w wr)) (fun _ i _ => n - (intOf i).toNat)
 case atStart => exact ⟨0, Nat.zero_le _, rfl, rfl, Below.refl _ _⟩
 case round =>
  obtain ⟨k, hk, rfl, rfl, hb⟩ := hrel
  by_cases hlt : k < n
  ·obtain ⟨c0, c1, c2, c3⟩ := (HC.out.below hb.out).2.2 k hlt
   have hbl : b < wr.heap.size := Nat.lt_of_lt_of_le HC.out.2.1 hb.out.size
   obtain ⟨x, hxx⟩ : ∃ x, x = ks.getD k false := ⟨_, rfl⟩
   rw [← hxx] at c1
   have BB := Lib.hid (hb.out.alloc hb.out.size (.cells #[.int .i64 1, .bool x, .int .i64 0, .int .i64 0] 94))
   clear hxx
   go_wp2
   first
    | exact ⟨⟨k + 1, by omega, by go_num, by go_num, BB.out⟩, by simp [intOf]; omega⟩
    | (go_roundw
       case rel => exact ⟨k + 1, by omega, by go_num, by go_num, BB.out⟩
       case measure => simp [intOf]; omega)
  ·obtain rfl : k = n := by omega
   go_wp2
   go_ret
   exact ⟨rfl, hb.out⟩
def costO (r : Option Int) : Int := match r with | none => -1 | some c => c
set_option maxHeartbeats 8000000 in
theorem implPage_any (b off cap n a t L : Nat) (ks : List Bool) (w : World) (hc : RwC w b off n ks) (n30 : n ≤ 30) (hat : a < t) (htn : t ≤ n) (hL : L ≤ 30) (hcap : n ≤ cap) : Calls Tryz.prog 87 #[.slice (some ⟨b, off, none⟩) n cap, .int .i64 L, .int .i64 a, .int .i64 t] w (NumPost (costO (pgC ks L a t)) w) := by
 have HH := implHeight_any b (off + a * 4) (cap - a) (t - a) _ w (hc.sub a t (by omega) htn) (by omega)
 have PC : Hid (pgC ks L a t = if L < t - a then none else if t = ks.length then some 0 else if ks.getD (t - 1) false = true then none else some (((L : Int) - ((t : Int) - a)) * ((L : Int) - ((t : Int) - a)))) := rfl
 have hn := hc.1
 rw [← hn] at PC
 have hbl := hc.2.1
 obtain ⟨T, hT⟩ : ∃ T, T = costO (pgC ks L a t) := ⟨_, rfl⟩
 have HT := Lib.hid hT
 rw [← hT]
 have dd : ((t - a : Nat) : Int) = (t : Int) - a := by omega
 rw [dd] at HH
 have HD := Lib.hid HH
 have hge : ¬ (t : Int) ≤ (a : Int) := by omega
 clear hT dd HH hn
 by_cases h1 : L < t - a
 ·have E : Hid (T = -1) := by show _ = _; rw [HT.out, PC.out, if_pos h1]; rfl
  have m1 : (L : Int) - ((t : Int) - (a : Int)) < 0 := by omega
  clear PC HT hc
  go_enter Tryz.func87, Tryz.ntmps87
  go_wp2_with (go_at_call 109; refine HD.out.mono ?_; rintro e w2 ⟨rfl, hb2⟩)
  go_ret
  exact ⟨by rw [E.out]; rfl, hb2⟩
 ·have m1 : ¬ (L : Int) - ((t : Int) - (a : Int)) < 0 := by omega
  by_cases h2 : t = n
  ·have E : Hid (T = 0) := by show _ = _; rw [HT.out, PC.out, if_neg h1, if_pos h2]; rfl
   clear PC HT hc h1
   subst h2
   go_enter Tryz.func87, Tryz.ntmps87
   go_wp2_with (go_at_call 109; refine HD.out.mono ?_; rintro e w2 ⟨rfl, hb2⟩)
   go_ret
   exact ⟨by rw [E.out]; rfl, hb2⟩
  ·have nl : (t : Int) < (n : Int) := by omega
   have ne : ((t : Int) == (n : Int)) = false := by rw [beq_eq_false_iff_ne]; omega
   obtain ⟨k, hk⟩ : ∃ k, t = k + 1 := ⟨t - 1, by omega⟩
   have tk : (t : Int) - 1 = (k : Int) := by omega
   have kn : k < n := by omega
   have PC2 := PC.out
   rw [if_neg h1, if_neg h2, show t - 1 = k by omega] at PC2
   have HC := Lib.hid hc
   obtain ⟨kb, hkb⟩ : ∃ x, x = ks.getD k false := ⟨_, rfl⟩
   rw [← hkb] at PC2
   have KB := Lib.hid hkb
   clear PC hc h1 h2 hk hkb
   cases kb
   ·have E : Hid (T = ((L : Int) - ((t : Int) - a)) * ((L : Int) - ((t : Int) - a))) := by show _ = _; rw [HT.out, PC2]; rfl
    have pb := prod_bd (a := (L : Int) - ((t : Int) - a)) (b := (L : Int) - ((t : Int) - a)) (A := 30) (B := 30) (by omega) (by omega) (by omega) (by omega)
    have wv := i64_ok _ (show 0 ≤ ((L : Int) - ((t : Int) - a)) * ((L : Int) - ((t : Int) - a)) ∧ ((L : Int) - ((t : Int) - a)) * ((L : Int) - ((t : Int) - a)) ≤ 1000000000000000000 by omega)
    clear PC2 HT pb
    go_enter Tryz.func87, Tryz.ntmps87
    go_wp2_with (go_at_call 109; refine HD.out.mono ?_; rintro e w2 ⟨rfl, hb2⟩; have c1 := ((HC.out.below hb2).2.2 k kn).2.1; rw [← KB.out] at c1; have hbr : b < w2.heap.size := Nat.lt_of_lt_of_le hbl hb2.size)
    go_ret
    exact ⟨by rw [E.out]; rfl, hb2⟩
   ·have E : Hid (T = -1) := by show _ = _; rw [HT.out, PC2]; rfl
    clear PC2 HT
    go_enter Tryz.func87, Tryz.ntmps87
    go_wp2_with (go_at_call 109; refine HD.out.mono ?_; rintro e w2 ⟨rfl, hb2⟩; have c1 := ((HC.out.below hb2).2.2 k kn).2.1; rw [← KB.out] at c1; have hbr : b < w2.heap.size := Nat.lt_of_lt_of_le hbl hb2.size)
    go_ret
    exact ⟨by rw [E.out]; rfl, hb2⟩
end Go.Proofs.YtofnchdijanikaaGreatDoor
namespace Go.Proofs.YtofnchdijanikaaGreatDoor
open Go.RowKit
theorem addL_set : ∀ (xs : List (List UInt8)) (c : UInt8) (m : Nat), xs.length = m + 1 → addL xs c = xs.set m (xs.getD m [] ++ [c])
 | [], c, m, h => by simp at h
 | [x], c, m, h => by
  obtain rfl : m = 0 := by simp at h; omega
  rfl
 | x :: y :: t, c, m, h => by
  obtain ⟨k, rfl⟩ : ∃ k, m = k + 1 := ⟨m - 1, by simp at h; omega⟩
  rw [addL_cons _ _ (by simp), addL_set (y :: t) c k (by simp at h ⊢; omega)]
  rfl
theorem flat_set (xs : List (List UInt8)) (m : Nat) (y : List UInt8) : (xs.flatMap encB).set m (.string (bs y)) = (xs.set m y).flatMap encB := by
 induction xs generalizing m with
 | nil => rfl
 | cons x t ih =>
  cases m with
  | zero => rfl
  | succ m =>
   rw [List.flatMap_cons, List.set_cons_succ, List.flatMap_cons, ← ih m]
   rfl
set_option maxHeartbeats 8000000 in
theorem specWds_any (l : List UInt8) (hl : l.length ≤ 3000000) (w : World) : Calls Tryz.prog 30 #[.string (bs l)] w (TxtsPost (wds l) w) := by
 obtain ⟨n, hn⟩ : ∃ n, n = l.length := ⟨_, rfl⟩
 have hs : (bs l).size = n := by rw [hn, bs_len]
 have hs2 : l.length = n := hn.symm
 have IX := Lib.hid (fun k (hk : k < n) => idx_byte l k (by rw [← hn]; exact hk))
 have HN := Lib.hid hn
 rw [← hn] at hl
 have O0 := Lib.hid (show OwnT (w.alloc (.cells #[.string (bs [])] 9)) w.heap.size (.slice (some ⟨w.heap.size, 0, none⟩) 1 1) (wds (l.take 0)) from owns_one w 9 (.string (bs [])) (Nat.le_refl _))
 have B0 := Lib.hid ((Below.refl w.heap.size w).alloc (Nat.le_refl _) (.cells #[.string (bs [])] 9))
 clear hn
 go_enter Tryz.func30, Tryz.ntmps30
 go_wp2
 go_loopw [3, 4] (fun v i wr => ∃ k : Nat, k ≤ n ∧ i = .int .i64 k ∧ Hid (OwnT wr w.heap.size v (wds (l.take k))) ∧ Hid (Below w.heap.size w wr)) (fun _ i _ => n - (intOf i).toNat)
 case atStart => exact ⟨0, Nat.zero_le _, rfl, O0.out, B0.out⟩
 case round =>
  obtain ⟨k, hk, rfl, ho, hb⟩ := hrel
  clear O0 B0
  have hwr := hb.out.size
  by_cases hlt : k < n
  ·have ix := IX.out k hlt (k : Int) rfl
   have TS := Lib.hid (take_one l k (by omega))
   have BB := bs_byte l k (by omega)
   have wl := wds_len (l.take k)
   have wm := Lib.hid (wds_mem (l.take k))
   rw [List.length_take] at wl wm
   obtain ⟨c, hc⟩ : ∃ c, c = l.getD k 0 := ⟨_, rfl⟩
   rw [← hc] at ix TS BB
   have WS := Lib.hid (wds_snoc (l.take k) c)
   rw [← TS.out] at WS
   obtain ⟨X, hX⟩ : ∃ X, X = wds (l.take k) := ⟨_, rfl⟩
   rw [← hX] at wl wm WS ho
   obtain ⟨wl1, wl2⟩ := wl
   have XL : X.length ≤ 4000000 := by omega
   clear hc hX TS
   by_cases h32 : c = 32
   ·have q : (((c.toNat : Nat) : Int) == 32) = true := by rw [h32]; rfl
    have S2 : Hid (wds (l.take (k + 1)) = X ++ [[]]) := by show _ = _; rw [WS.out, if_pos h32]
    clear h32 WS
    go_wp2_with (at_builtin; refine append_str w wr rfl _ _ rfl w.heap.size u3 X [] rfl rfl ho.out XL (Nat.le_refl _) hb.out ?_; intro v' w5 hown' hbel hmv hgr)
    go_roundw
    case rel => exact ⟨k + 1, by omega, by go_num, by rw [S2.out]; exact hown', hbel⟩
    case measure => simp [intOf]; omega
   ·have q : (((c.toNat : Nat) : Int) == 32) = false := by rw [u8_eqs c 32 32 rfl]; simp [h32]
    obtain ⟨m, hm⟩ : ∃ m, X.length = m + 1 := ⟨X.length - 1, by omega⟩
    have S2 : Hid (wds (l.take (k + 1)) = X.set m (X.getD m [] ++ [c])) := by show _ = _; rw [WS.out, if_neg h32, addL_set X c m hm]
    have lastl : (X.getD m []).length ≤ 3000000 := by
     have e : X.getD m [] = X[m]'(by omega) := getD_eq X [] m (by omega)
     have := wm.out (X.getD m []) (by rw [e]; exact List.getElem_mem _)
     omega
    have ho2 := ho.out
    unfold OwnT at ho2
    rw [hm] at ho2
    obtain ⟨g, cap, rfl⟩ : ∃ g cap, u3 = .slice (some ⟨g, 0, none⟩) (m + 1) cap := by
     rcases ho2.2 with ⟨_, h2⟩ | ⟨g, cap, cur, h1, _⟩
     ·omega
     ·exact ⟨g, cap, h1⟩
    have e1 : wr.cell? ⟨g, m, none⟩ = some (.string (bs (X.getD m []))) := by
     obtain ⟨b', off', cap', h1, _, h3⟩ := txt_pos ho.out.row (by omega)
     simp only [Value.slice.injEq, Option.some.injEq, Addr.mk.injEq, and_true] at h1
     obtain ⟨⟨rfl, rfl⟩, _⟩ := h1
     have := h3 m (by omega)
     simpa using this
    have z1 := ho2.frozenAt m
    have ho3 : wr.drew.ownsRow w.heap.size 9 1 (.slice (some ⟨g, 0, none⟩) (m + 1) cap) (m + 1) (X.flatMap encB) := ho2
    obtain ⟨y, hy⟩ : ∃ y, y = X.getD m [] := ⟨_, rfl⟩
    rw [← hy] at S2 e1 lastl
    have ST := ho3.stored m (.string (bs (y ++ [c])))
    rw [flat_set, ← S2.out] at ST
    have RL : Hid ((wds (l.take (k + 1))).length = m + 1) := by show _ = _; rw [S2.out, List.length_set, hm]
    have ST := Lib.hid ST
    have GLT : Hid (∀ j, Option.some g = some j → w.heap.size ≤ j) := fun j hj => (ho2.lt j hj).1
    have mm : IntKind.i64.wrap (((m + 1 : Nat) : Int) - 1) = ((m : Nat) : Int) := by rw [IntWalk.i64_in _ (by omega)]; omega
    have hcat : ¬ 9223372036854775807 < y.length + 1 := by omega
    have hys : (bs y).size = y.length := bs_len y
    have hb1 : (bs [c]).size = 1 := rfl
    have CAT := bs_append y [c]
    have m4 : m ≤ 4000000 := by omega
    clear WS ho2 ho3 ho hy h32 wm S2 hm XL wl1 wl2
    go_wp2_with fail
    go_region
    go_wp2_with fail
    first
     | exact ⟨⟨k + 1, by omega, by go_num, by unfold OwnT; rw [RL.out]; exact ST.out.1, hb.out.drew.grown ST.out.2 hwr (fun j hj => GLT.out j hj)⟩, by simp [intOf]; omega⟩
     | (go_roundw
        case rel => exact ⟨k + 1, by omega, by go_num, by unfold OwnT; rw [RL.out]; exact ST.out.1, hb.out.drew.grown ST.out.2 hwr (fun j hj => GLT.out j hj)⟩
        case measure => simp [intOf]; omega)
  ·obtain rfl : k = n := by omega
   have e : l.take k = l := by rw [← hs2]; exact List.take_length
   rw [e] at ho
   go_wp2
   go_ret
   exact ⟨_, rfl, ho.out, hb.out⟩
end Go.Proofs.YtofnchdijanikaaGreatDoor
namespace Go.Proofs.YtofnchdijanikaaGreatDoor
open Go.RowKit
theorem numV_bad {s : List UInt8} {k : Nat} (hk : k < s.length) (h : dgB (s.getD k 0) = false ∨ 5 < k) : numV s = none := by
 cases hn : numV s with
 | none => rfl
 | some u =>
  exfalso
  obtain ⟨e, h6⟩ := numV_some hn
  rcases h with h | h
  ·have hm : s.getD k 0 ∈ Lib.decDigits u := by
    rw [← e, getD_eq s 0 k hk]
    exact List.getElem_mem hk
   have := dec_dig u _ hm
   have := dg_out h
   omega
  ·omega
theorem digV_take (l : List UInt8) (k : Nat) (h : k < l.length) : digV (l.take (k + 1)) = 10 * digV (l.take k) + ((l.getD k 0).toNat - 48) := by
 rw [take_one l k h, digV_snoc]
theorem digV_lt : ∀ (l : List UInt8), (∀ c ∈ l, dgB c = true) → digV l < 10 ^ l.length := by
 intro l
 have key : ∀ (n : Nat) (l : List UInt8), l.length = n → (∀ c ∈ l, dgB c = true) → digV l < 10 ^ n := by
  intro n
  induction n with
  | zero =>
   intro l h _
   obtain rfl : l = [] := List.eq_nil_of_length_eq_zero h
   decide
  | succ n ih =>
   intro l h hd
   obtain ⟨q, c, rfl⟩ : ∃ q c, l = q ++ [c] := by
    rcases List.eq_nil_or_concat l with e | ⟨q, c, e⟩
    ·rw [e] at h; cases h
    ·exact ⟨q, c, by rw [e, List.concat_eq_append]⟩
   have h1 := ih q (by simpa using h) (fun x hx => hd x (List.mem_append_left _ hx))
   have h2 := dg_not (hd c (by simp))
   rw [digV_snoc, Nat.pow_succ]
   omega
 exact fun h => key _ l rfl h
def readV (s : List UInt8) : Int := match numV s with | none => -1 | some u => (u : Int)
set_option maxHeartbeats 8000000 in
theorem specRead_any (l : List UInt8) (hl : l.length ≤ 3000000) (w : World) : Calls Tryz.prog 31 #[.string (bs l)] w (NumPost (readV l) w) := by
 obtain ⟨n, hn⟩ : ∃ n, n = l.length := ⟨_, rfl⟩
 have hs : (bs l).size = n := by rw [hn, bs_len]
 have hs2 : l.length = n := hn.symm
 have IX := Lib.hid (fun k (hk : k < n) => idx_byte l k (by rw [← hn]; exact hk))
 have RD : Hid (readV l = match numV l with | none => -1 | some u => (u : Int)) := rfl
 have BADV := Lib.hid (fun k (hk : k < n) h => numV_bad (s := l) (k := k) (by omega) h)
 have HN := Lib.hid hn
 rw [← hn] at hl
 clear hn
 generalize hR : readV l = R at RD ⊢
 clear hR
 go_enter Tryz.func31, Tryz.ntmps31
 go_wp2
 go_loop [3, 4] (fun v i => ∃ k : Nat, k ≤ n ∧ k ≤ 6 ∧ v = .int .i64 ((digV (l.take k) : Nat) : Int) ∧ i = .int .i64 k ∧ Hid (∀ j, j < k → dgB (l.getD j 0) = true)) (fun _ i => n - (intOf i).toNat)
 case atStart => exact ⟨0, Nat.zero_le _, by omega, rfl, rfl, fun j h => absurd h (Nat.not_lt_zero _)⟩
 case round =>
  obtain ⟨k, hk, hk6, rfl, rfl, hall⟩ := hrel
  have VB : digV (l.take k) < 1000000 := by
   have h1 := digV_lt (l.take k) (fun c hc => by
    obtain ⟨j, hj, rfl⟩ := List.getElem_of_mem hc
    have hj2 : j < k := by rw [List.length_take] at hj; omega
    have := hall.out j hj2
    rw [getD_eq l 0 j (by omega)] at this
    simpa using this)
   have h2 : (10 : Nat) ^ (l.take k).length ≤ 10 ^ 6 := Nat.pow_le_pow_right (by omega) (by rw [List.length_take]; omega)
   omega
  by_cases hlt : k < n
  ·have ix := IX.out k hlt (k : Int) rfl
   have DT := Lib.hid (digV_take l k (by omega))
   have BAD := Lib.hid (fun h => BADV.out k hlt h)
   have ALL := Lib.hid (fun h => all_succ (f := fun j => dgB (l.getD j 0)) hall.out h)
   obtain ⟨c, hc⟩ : ∃ c, c = l.getD k 0 := ⟨_, rfl⟩
   rw [← hc] at ix DT
   have BAD2 : Hid (dgB c = false ∨ 5 < k → numV l = none) := fun h => BAD.out (by rw [← hc]; exact h)
   have ALL2 : Hid (dgB c = true → ∀ j, j < k + 1 → dgB (l.getD j 0) = true) := fun h => ALL.out (by show dgB (l.getD k 0) = true; rw [← hc]; exact h)
   obtain ⟨V, hV⟩ : ∃ V, V = digV (l.take k) := ⟨_, rfl⟩
   rw [← hV] at VB DT ⊢
   clear hc hV BAD ALL hall
   cases hdg : dgB c
   ·have E : Hid (R = -1) := by show _ = _; rw [RD.out, BAD2.out (.inl hdg)]
    have dq := dg_out hdg
    obtain ⟨m, hm⟩ : ∃ m, m = c.toNat := ⟨_, rfl⟩
    rw [← hm] at ix dq
    clear hdg hm DT BAD2 ALL2 RD
    rcases dq with dq | dq
    ·have s1 : (m : Int) < 48 := by omega
     go_wp2
     go_ret
     exact ⟨by rw [E.out]; rfl, Below.refl _ _⟩
    ·have s1 : ¬ (m : Int) < 48 := by omega
     have s2 : 57 < (m : Int) := by omega
     go_wp2
     go_ret
     exact ⟨by rw [E.out]; rfl, Below.refl _ _⟩
   ·have dq := dg_not hdg
    have wv := u8_sub48 c hdg
    have AL := Lib.hid (ALL2.out hdg)
    obtain ⟨m, hm⟩ : ∃ m, m = c.toNat := ⟨_, rfl⟩
    rw [← hm] at ix dq wv DT
    have s1 : ¬ (m : Int) < 48 := by omega
    have s2 : ¬ 57 < (m : Int) := by omega
    by_cases h5 : 5 < k
    ·have E : Hid (R = -1) := by show _ = _; rw [RD.out, BAD2.out (.inr h5)]
     have h5' : (5 : Int) < (k : Int) := by omega
     clear hdg hm DT BAD2 ALL2 RD dq
     go_wp2
     go_ret
     exact ⟨by rw [E.out]; rfl, Below.refl _ _⟩
    ·have h5' : ¬ (5 : Int) < (k : Int) := by omega
     have D2 : Hid (((digV (l.take (k + 1)) : Nat) : Int) = 10 * (V : Int) + ((m : Int) - 48)) := by show _ = _; rw [DT.out]; omega
     have mb : (48 : Int) ≤ (m : Int) ∧ (m : Int) ≤ 57 := by omega
     obtain ⟨mb1, mb2⟩ := mb
     clear hdg hm DT BAD2 ALL2 RD dq
     go_wp2
     exact ⟨⟨k + 1, by omega, by omega, by rw [D2.out], by go_num, AL.out⟩, by simp [intOf]; omega⟩
  ·obtain rfl : k = n := by omega
   have tk : l.take k = l := by rw [← hs2]; exact List.take_length
   rw [tk] at VB ⊢
   have NV : Hid (numV l = if Lib.decDigits (digV l) = l then some (digV l) else none) := by
    show _ = _
    unfold numV
    by_cases h : Lib.decDigits (digV l) = l
    ·rw [if_pos ⟨by omega, h⟩, if_pos h]
    ·rw [if_neg (fun hh => h hh.2), if_neg h]
   obtain ⟨V, hV⟩ : ∃ V, V = digV l := ⟨_, rfl⟩
   rw [← hV] at VB NV ⊢
   have SN := Lib.hid (fun w => specNum_any V (by omega) w)
   clear hV tk
   by_cases h0 : l = []
   ·have E : Hid (R = -1) := by
     show _ = _
     rw [RD.out, NV.out, if_neg (fun h => by
      have := dec_pos V
      rw [h, h0] at this
      simp at this)]
    have z : (l == []) = true := by rw [h0]; rfl
    clear h0 NV RD
    go_wp2_with (go_at_call 33; refine (SN.out _).mono ?_; rintro e w2 ⟨rfl, hb2⟩)
    go_ret
    exact ⟨by rw [E.out]; rfl, Below.refl _ _⟩
   ·have z : (l == []) = false := by rw [beq_eq_false_iff_ne]; exact h0
    by_cases hd : Lib.decDigits V = l
    ·have E : Hid (R = (V : Int)) := by show _ = _; rw [RD.out, NV.out, if_pos hd]
     have q : (Lib.decDigits V == l) = true := by rw [hd]; exact beq_self_eq_true _
     clear h0 NV RD hd
     go_wp2_with (go_at_call 33; refine (SN.out _).mono ?_; rintro e w2 ⟨rfl, hb2⟩)
     go_ret
     exact ⟨by rw [E.out]; rfl, hb2⟩
    ·have E : Hid (R = -1) := by show _ = _; rw [RD.out, NV.out, if_neg hd]
     have q : (Lib.decDigits V == l) = false := by rw [beq_eq_false_iff_ne]; exact hd
     clear h0 NV RD hd
     go_wp2_with (go_at_call 33; refine (SN.out _).mono ?_; rintro e w2 ⟨rfl, hb2⟩)
     go_ret
     exact ⟨by rw [E.out]; rfl, hb2⟩
end Go.Proofs.YtofnchdijanikaaGreatDoor
namespace Go.Proofs.YtofnchdijanikaaGreatDoor
open Go.RowKit
def tabL (m : Nat) (f : Nat → Int) : List Int := (List.range m).map f
theorem tabL_len (m : Nat) (f : Nat → Int) : (tabL m f).length = m := by simp [tabL]
theorem tabL_get {m : Nat} {f : Nat → Int} {j : Nat} (h : j < m) : (tabL m f).getD j 0 = f j := by simp [tabL, List.getD, h]
theorem tabL_set (m : Nat) (f : Nat → Int) (i : Nat) (x : Int) : (tabL m f).set i x = tabL m (fun j => if j = i then x else f j) := by
 refine List.ext_getElem (by simp [tabL]) fun k h1 h2 => ?_
 simp only [tabL, List.getElem_set, List.getElem_map, List.getElem_range]
 by_cases hi : i = k
 ·subst hi; simp
 ·rw [if_neg hi, if_neg (fun e => hi e.symm)]
theorem tabL_zero (m : Nat) : tabL m (fun _ => 0) = List.replicate m 0 := by
 unfold tabL
 rw [List.map_const', List.length_range]
def Tb (w : World) (B g m : Nat) (f : Nat → Int) : Prop := w.ownsRow B 3 1 (.slice (some ⟨g, 0, none⟩) m m) m ((tabL m f).map (Value.int .i64))
theorem Tb.at {w : World} {B g m : Nat} {f : Nat → Int} (h : Tb w B g m f) {j : Nat} (hj : j < m) : w.cell? ⟨g, j, none⟩ = some (.int .i64 (f j)) := by
 rw [World.ownsRow.cellAt h j (by omega)]
 simp [tabL, hj]
theorem Tb.lt {w : World} {B g m : Nat} {f : Nat → Int} (h : Tb w B g m f) : B ≤ g ∧ g < w.heap.size := World.ownsRow.lt h g rfl
theorem Tb.put {w : World} {B g m : Nat} {f : Nat → Int} (h : Tb w B g m f) (j : Nat) (x : Int) : Tb (w.setCell ⟨g, j, none⟩ (.int .i64 x)) B g m (fun i => if i = j then x else f i) ∧ w.grownBy (w.setCell ⟨g, j, none⟩ (.int .i64 x)) (some g) := by
 have := World.ownsRow.stored h j (.int .i64 x)
 rw [show ((tabL m f).map (Value.int .i64)).set j (.int .i64 x) = ((tabL m f).set j x).map (Value.int .i64) by rw [List.map_set], tabL_set] at this
 exact this
theorem Tb.kept {w w' : World} {B g m : Nat} {f : Nat → Int} {row : Option Nat} (h : Tb w B g m f) (hg : w.grownBy w' row) (hne : some g ≠ row) : Tb w' B g m f := World.ownsRow.kept h hg (.inr hne)
theorem Tb.below {w w' : World} {B g m : Nat} {f : Nat → Int} (h : Tb w B g m f) (hb : Below w.heap.size w w') : Tb w' B g m f := owns_below h hb
theorem Tb.frozen {w : World} {B g m : Nat} {f : Nat → Int} (h : Tb w B g m f) (j : Nat) : w.frozen? ⟨g, j, none⟩ = false := World.ownsRow.frozenAt h j
def rowF (V : Option (Int × Nat) → Int) (P : Nat → Option (Int × Nat)) (a : Nat) (r : Option (Int × Nat)) (j : Nat) : Int := if a < j then V (P j) else if j = a then V r else 0
def cst : Option (Int × Nat) → Int | none => -1 | some (m, _) => m
def nxt : Option (Int × Nat) → Int | none => 0 | some (_, u) => u
theorem rowF_put (V : Option (Int × Nat) → Int) (P : Nat → Option (Int × Nat)) (a : Nat) (r r' : Option (Int × Nat)) : (fun j => if j = a then V r' else rowF V P a r j) = rowF V P a r' := by
 funext j
 unfold rowF
 by_cases h : j = a
 ·subst h; simp
 ·simp [h]
theorem rowF_down (V : Option (Int × Nat) → Int) (P : Nat → Option (Int × Nat)) (a : Nat) (x : Int) (hx : x = V none) : (fun j => if j = a then x else rowF V P (a + 1) (P (a + 1)) j) = rowF V P a none := by
 funext j
 subst hx
 unfold rowF
 by_cases h : j = a
 ·subst h; simp
 ·rw [if_neg h]
  by_cases h1 : a + 1 < j
  ·rw [if_pos h1, if_pos (by omega)]
  ·rw [if_neg h1]
   by_cases h2 : j = a + 1
   ·rw [if_pos h2, if_pos (by omega), h2]
   ·rw [if_neg h2, if_neg (by omega), if_neg h]
theorem rowF_zero (V : Option (Int × Nat) → Int) (P : Nat → Option (Int × Nat)) (a : Nat) (hV : V none = 0) : rowF V P (a + 1) (P (a + 1)) = rowF V P a none := by
 rw [← rowF_down V P a 0 hV.symm]
 funext j
 unfold rowF
 by_cases h : j = a
 ·subst h; rw [if_neg (by omega), if_neg (by omega)]; simp
 ·rw [if_neg h]
theorem rowF_start (V : Option (Int × Nat) → Int) (P : Nat → Option (Int × Nat)) (n j : Nat) (hj : j < n + 1) (hV : V (P n) = 0) : rowF V P n (P n) j = 0 := by
 unfold rowF
 rw [if_neg (by omega)]
 split
 ·exact hV
 ·rfl
theorem rowF_at (V : Option (Int × Nat) → Int) (P : Nat → Option (Int × Nat)) (a : Nat) (r : Option (Int × Nat)) : rowF V P a r a = V r := by
 unfold rowF
 rw [if_neg (by omega), if_pos rfl]
theorem rowF_past (V : Option (Int × Nat) → Int) (P : Nat → Option (Int × Nat)) (a : Nat) (r : Option (Int × Nat)) (j : Nat) (h : a < j) : rowF V P a r j = V (P j) := by
 unfold rowF
 rw [if_pos h]
theorem tabL_congr {m : Nat} {f g : Nat → Int} (h : ∀ j, j < m → f j = g j) : tabL m f = tabL m g := by
 unfold tabL
 exact List.map_congr_left (fun j hj => h j (List.mem_range.1 hj))
theorem Tb.made {w : World} {B g m : Nat} {f : Nat → Int} (h0 : ∀ j, j < m → f j = 0) (h : w.ownsRow B 3 1 (.slice (some ⟨g, 0, none⟩) m m) m (List.replicate m (.int .i64 0))) : Tb w B g m f := by
 unfold Tb
 rw [tabL_congr h0, tabL_zero, List.map_replicate]
 exact h
theorem pgP_step {ks : List Bool} {L a u : Nat} {m : Int} {pre : List Nat} (ha : a < ks.length) (h : pgB ks L a = some (m, u)) (he : pgP ks L 0 = pre ++ pgP ks L a) : pgP ks L 0 = (pre ++ [u]) ++ pgP ks L u := by
 rw [he, pgP_at ha h, List.append_assoc]
 rfl
def BestPPost (ks : List Bool) (L : Nat) (w : World) (e : Ending) (w' : World) : Prop := ∃ v, e = .returned (.tuple #[v, .bool (bestP ks L).isSome]) ∧ OwnI w' w.heap.size v (ints ((bestP ks L).getD [])) ∧ Below w.heap.size w w'
end Go.Proofs.YtofnchdijanikaaGreatDoor

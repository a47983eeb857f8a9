/-
  PROVED HERE: what the printer's lines need, part C10. Conditions: each theorem's own.
-/
import Derived.Test.YtofnchdijanikaaGreatDoorC09
set_option linter.unusedVariables false
set_option linter.unusedSimpArgs false
set_option maxRecDepth 100000
namespace Go.Proofs.YtofnchdijanikaaGreatDoor
open Go.RowKit
structure Cell7 (w : World) (b o : Nat) (x : DItem) : Prop where
 c0 : w.cell? ⟨b, o, none⟩ = some (.int .i64 x.kind)
 c1 : w.cell? ⟨b, o + 1, none⟩ = some (.int .i64 x.w)
 c2 : w.cell? ⟨b, o + 2, none⟩ = some (.int .i64 x.st)
 c3 : w.cell? ⟨b, o + 3, none⟩ = some (.int .i64 x.sh)
 c4 : w.cell? ⟨b, o + 4, none⟩ = some (.int .i64 x.od)
 c5 : w.cell? ⟨b, o + 5, none⟩ = some (.int .i64 x.cost)
 c6 : w.cell? ⟨b, o + 6, none⟩ = some (.bool x.mark)
def ItC (w : World) (b off n : Nat) (xs : List DItem) : Prop := n = xs.length ∧ b < w.heap.size ∧ ∀ j, j < n → Cell7 w b (off + j * 7) (it xs j)
theorem Cell7.below {w w' : World} {b o : Nat} {x : DItem} (h : Cell7 w b o x) (hb : Below w.heap.size w w') (hl : b < w.heap.size) : Cell7 w' b o x :=
 ⟨(hb.cell (p := ⟨b, o, none⟩) hl).trans h.c0, (hb.cell (p := ⟨b, o + 1, none⟩) hl).trans h.c1, (hb.cell (p := ⟨b, o + 2, none⟩) hl).trans h.c2, (hb.cell (p := ⟨b, o + 3, none⟩) hl).trans h.c3, (hb.cell (p := ⟨b, o + 4, none⟩) hl).trans h.c4, (hb.cell (p := ⟨b, o + 5, none⟩) hl).trans h.c5, (hb.cell (p := ⟨b, o + 6, none⟩) hl).trans h.c6⟩
theorem ItC.below {w w' : World} {b off n : Nat} {xs : List DItem} (h : ItC w b off n xs) (hb : Below w.heap.size w w') : ItC w' b off n xs :=
 ⟨h.1, Nat.lt_of_lt_of_le h.2.1 hb.size, fun j hj => (h.2.2 j hj).below hb h.2.1⟩
theorem ItC.of_row {w : World} {v : Value} {xs : List DItem} (h : SRow 7 encI w v xs) (hp : 0 < xs.length) : ∃ b off cap, v = .slice (some ⟨b, off, none⟩) xs.length cap ∧ ItC w b off xs.length xs := by
 obtain ⟨b, off, cap, hv, hb, hc⟩ := h.pos encI_pos hp
 refine ⟨b, off, cap, hv, rfl, hb, fun j hj => ?_⟩
 rw [it_lt xs j hj]
 exact ⟨by simpa using hc j hj 0 _ rfl, hc j hj 1 _ rfl, hc j hj 2 _ rfl, hc j hj 3 _ rfl, hc j hj 4 _ rfl, hc j hj 5 _ rfl, hc j hj 6 _ rfl⟩
theorem pit_kind {x : DItem} (h : PIt x) : (x.kind = 1 ∧ x.cost = 0 ∧ x.st = 0 ∧ x.sh = 0 ∧ x.od = 0 ∧ x.mark = false) ∨ (x.kind = 2 ∧ x.cost = 0 ∧ x.mark = false) ∨ (x.kind = 3 ∧ 0 ≤ x.cost ∧ x.cost ≤ 10000) ∨ (x.kind = 3 ∧ x.cost = -10000) := by
 rcases h with ⟨q, h1, h2, rfl⟩ | rfl | rfl | rfl | rfl | rfl
 ·exact .inl ⟨rfl, rfl, rfl, rfl, rfl, rfl⟩
 ·exact .inr (.inr (.inl (by unfold hyI; decide)))
 ·exact .inr (.inl (by unfold gluI; decide))
 ·exact .inr (.inr (.inl (by decide)))
 ·exact .inr (.inl (by decide))
 ·exact .inr (.inr (.inr (by decide)))
theorem PIs.at {xs : List DItem} (h : PIs xs) {j : Nat} (hj : j < xs.length) : PIt (it xs j) := by
 rw [it_lt xs j hj]
 exact h.all _ (List.getElem_mem hj)
theorem noForced_bad {xs : List DItem} {a tz j : Nat} (h1 : a ≤ j) (h2 : j < tz) (h : isForced (it xs j) = true) : noForced xs a tz = false := by
 unfold noForced
 cases hh : (List.range (tz - a)).all fun j => !isForced (it xs (a + j))
 ·rfl
 ·rw [all_range] at hh
  have := hh (j - a) (by omega)
  rw [show a + (j - a) = j by omega, h] at this
  cases this
theorem noForced_good {xs : List DItem} {a tz : Nat} (h : ∀ j, a ≤ j → j < tz → isForced (it xs j) = false) : noForced xs a tz = true := by
 unfold noForced
 rw [all_range]
 intro j hj
 rw [h (a + j) (by omega) (by omega)]
 rfl
set_option maxHeartbeats 4000000 in
theorem implItems_any (b off cap n : Nat) (xs : List DItem) (hx : PIs xs) (w : World) (hc : ItC w b off n xs) : Calls Tryz.prog 164 #[.slice (some ⟨b, off, none⟩) n cap] w (Ret (.bool true) w) := by
 have hn := hc.1
 have n60 : n ≤ 60 := by rw [hn]; exact hx.len
 have HX := Lib.hid hx
 have HC := Lib.hid hc
 have HN := Lib.hid hn
 clear hc hx hn
 go_enter Tryz.func164, Tryz.ntmps164
 go_wp2
 go_loopw [7] (fun i wr => ∃ k : Nat, k ≤ n ∧ i = .int .i64 k ∧ Hid (Below w.heap.size w wr)) (fun i _ => n - (intOf i).toNat)
 case atStart => exact ⟨0, Nat.zero_le _, rfl, Below.refl _ _⟩
 case round =>
  obtain ⟨k, hk, rfl, hb⟩ := hrel
  by_cases hlt : k < n
  ·obtain ⟨c0, c1, c2, c3, c4, c5, c6⟩ := (HC.out.below hb.out).2.2 k hlt
   have hbl : b < wr.heap.size := Nat.lt_of_lt_of_le HC.out.2.1 hb.out.size
   have hp := HX.out.at (j := k) (by rw [← HN.out]; exact hlt)
   obtain ⟨x, hxx⟩ : ∃ x, x = it xs k := ⟨_, rfl⟩
   rw [← hxx] at c0 c1 c2 c3 c4 c5 c6 hp
   have IV := Lib.hid (fun w => implItem_any x hp w)
   unfold itV at IV
   have BB := Lib.hid (hb.out.alloc hb.out.size (.cells #[.int .i64 x.kind, .int .i64 x.w, .int .i64 x.st, .int .i64 x.sh, .int .i64 x.od, .int .i64 x.cost, .bool x.mark] 113))
   clear hp hxx
   go_wp2_with (go_at_call 183; refine (IV.out _).mono ?_; rintro e w2 ⟨rfl, hb2⟩)
   have B2 := Lib.hid (below_next BB.out hb2 (Nat.le_refl _))
   clear hb2
   first
    | exact ⟨⟨k + 1, by omega, by go_num, B2.out⟩, by simp [intOf]; omega⟩
    | (go_roundw
       case rel => exact ⟨k + 1, by omega, by go_num, B2.out⟩
       case measure => simp [intOf]; omega)
  ·obtain rfl : k = n := by omega
   have n60' : (k : Int) ≤ 60 := by omega
   go_wp2
   go_ret
   exact ⟨rfl, hb.out⟩
set_option maxHeartbeats 4000000 in
theorem specItems_any (b off cap n : Nat) (xs : List DItem) (hx : PIs xs) (w : World) (hc : ItC w b off n xs) : Calls Tryz.prog 122 #[.slice (some ⟨b, off, none⟩) n cap] w (Ret (.bool true) w) := by
 have hn := hc.1
 have n60 : n ≤ 60 := by rw [hn]; exact hx.len
 have HX := Lib.hid hx
 have HC := Lib.hid hc
 have HN := Lib.hid hn
 clear hc hx hn
 go_enter Tryz.func122, Tryz.ntmps122
 go_wp2
 go_loopw [3] (fun i wr => ∃ k : Nat, k ≤ n ∧ i = .int .i64 k ∧ Hid (Below w.heap.size w wr)) (fun i _ => n - (intOf i).toNat)
 case atStart => exact ⟨0, Nat.zero_le _, rfl, Below.refl _ _⟩
 case round =>
  obtain ⟨k, hk, rfl, hb⟩ := hrel
  by_cases hlt : k < n
  ·obtain ⟨c0, c1, c2, c3, c4, c5, c6⟩ := (HC.out.below hb.out).2.2 k hlt
   have hbl : b < wr.heap.size := Nat.lt_of_lt_of_le HC.out.2.1 hb.out.size
   have hp := HX.out.at (j := k) (by rw [← HN.out]; exact hlt)
   obtain ⟨x, hxx⟩ : ∃ x, x = it xs k := ⟨_, rfl⟩
   rw [← hxx] at c0 c1 c2 c3 c4 c5 c6 hp
   have IV := Lib.hid (fun w => specItem_any x hp w)
   unfold itV at IV
   have BB := Lib.hid (hb.out)
   clear hp hxx
   go_wp2_with (go_at_call 152; refine (IV.out _).mono ?_; rintro e w2 ⟨rfl, hb2⟩)
   have B2 := Lib.hid (below_next BB.out hb2 (Nat.le_refl _))
   clear hb2
   first
    | exact ⟨⟨k + 1, by omega, by go_num, B2.out⟩, by simp [intOf]; omega⟩
    | (go_roundw
       case rel => exact ⟨k + 1, by omega, by go_num, B2.out⟩
       case measure => simp [intOf]; omega)
  ·obtain rfl : k = n := by omega
   have n60' : (k : Int) ≤ 60 := by omega
   go_wp2
   go_ret
   exact ⟨rfl, hb.out⟩
end Go.Proofs.YtofnchdijanikaaGreatDoor
namespace Go.Proofs.YtofnchdijanikaaGreatDoor
open Go.RowKit
def glV (g : DGlue) : Value := .agg #[.int .i64 g.w, .int .i64 g.st, .int .i64 g.sh, .int .i64 g.od]
def GlueSm (g : DGlue) : Prop := 0 ≤ g.w ∧ g.w ≤ 100000 ∧ 0 ≤ g.st ∧ g.st ≤ 100000 ∧ 0 ≤ g.sh ∧ g.sh ≤ 100000 ∧ (g.od = 0 ∨ g.od = 1)
theorem GlueOk.sm {g : DGlue} (h : GlueOk g) : GlueSm g := by unfold GlueOk at h; unfold GlueSm; omega
def GluePost (g : DGlue) (w : World) (e : Ending) (w' : World) : Prop := e = .returned (glV g) ∧ Below w.heap.size w w'
set_option maxHeartbeats 8000000 in
theorem specAdd_any (a b : DGlue) (ha : GlueSm a) (hb : GlueSm b) (w : World) : Calls Tryz.prog 177 #[glV a, glV b] w (GluePost (addG a b) w) := by
 obtain ⟨aw, ast, ash, aod⟩ := a
 obtain ⟨bw, bst, bsh, bod⟩ := b
 unfold GlueSm at ha hb
 simp only at ha hb
 obtain ⟨a1, a2, a3, a4, a5, a6, a7⟩ := ha
 obtain ⟨b1, b2, b3, b4, b5, b6, b7⟩ := hb
 unfold GluePost glV
 simp only
 by_cases h1 : ast = 0
 ·by_cases h2 : bst = 0
  ·skip
   have E : Hid (addG ⟨aw, ast, ash, aod⟩ ⟨bw, bst, bsh, bod⟩ = ⟨aw + bw, 0, ash + bsh, 0⟩) := by
    show _ = _
    unfold addG
    simp [h1, h2, show max (0 : Int) 1 = 1 from rfl, show max (1 : Int) 0 = 1 from rfl]
   rw [E.out]
   have z1 : (ast == 0) = true := by rw [h1]; rfl
   have z2 : (bst == 0) = true := by rw [h2]; rfl
   subst h1
   subst h2
   clear E
   go_enter Tryz.func177, Tryz.ntmps177
   go_wp2
   refine bodyPost_ret (v := .agg #[.int .i64 (aw + bw), .int .i64 (0), .int .i64 (ash + bsh), .int .i64 0]) (by simp [results, Tryz.results177, go_sem, show max (0 : Int) 1 = 1 from rfl, show max (1 : Int) 0 = 1 from rfl]) rfl ⟨rfl, ?_⟩
   repeat (first | exact Below.refl _ _ | refine Below.alloc ?_ (by simp; try omega) _)
  ·rcases b7 with h4 | h4
   ·skip
    have E : Hid (addG ⟨aw, ast, ash, aod⟩ ⟨bw, bst, bsh, bod⟩ = ⟨aw + bw, bst, ash + bsh, 0⟩) := by
     show _ = _
     unfold addG
     simp [h1, h2, h4, show max (0 : Int) 1 = 1 from rfl, show max (1 : Int) 0 = 1 from rfl]
    rw [E.out]
    have z1 : (ast == 0) = true := by rw [h1]; rfl
    have z2 : (bst == 0) = false := by rw [beq_eq_false_iff_ne]; exact h2
    subst h4
    subst h1
    clear h2
    clear E
    go_enter Tryz.func177, Tryz.ntmps177
    go_wp2
    refine bodyPost_ret (v := .agg #[.int .i64 (aw + bw), .int .i64 (bst), .int .i64 (ash + bsh), .int .i64 0]) (by simp [results, Tryz.results177, go_sem, show max (0 : Int) 1 = 1 from rfl, show max (1 : Int) 0 = 1 from rfl]) rfl ⟨rfl, ?_⟩
    repeat (first | exact Below.refl _ _ | refine Below.alloc ?_ (by simp; try omega) _)
   ·skip
    have E : Hid (addG ⟨aw, ast, ash, aod⟩ ⟨bw, bst, bsh, bod⟩ = ⟨aw + bw, bst, ash + bsh, 1⟩) := by
     show _ = _
     unfold addG
     simp [h1, h2, h4, show max (0 : Int) 1 = 1 from rfl, show max (1 : Int) 0 = 1 from rfl]
    rw [E.out]
    have z1 : (ast == 0) = true := by rw [h1]; rfl
    have z2 : (bst == 0) = false := by rw [beq_eq_false_iff_ne]; exact h2
    subst h4
    subst h1
    clear h2
    clear E
    go_enter Tryz.func177, Tryz.ntmps177
    go_wp2
    refine bodyPost_ret (v := .agg #[.int .i64 (aw + bw), .int .i64 (bst), .int .i64 (ash + bsh), .int .i64 1]) (by simp [results, Tryz.results177, go_sem, show max (0 : Int) 1 = 1 from rfl, show max (1 : Int) 0 = 1 from rfl]) rfl ⟨rfl, ?_⟩
    repeat (first | exact Below.refl _ _ | refine Below.alloc ?_ (by simp; try omega) _)
 ·by_cases h2 : bst = 0
  ·rcases a7 with h3 | h3
   ·skip
    have E : Hid (addG ⟨aw, ast, ash, aod⟩ ⟨bw, bst, bsh, bod⟩ = ⟨aw + bw, ast, ash + bsh, 0⟩) := by
     show _ = _
     unfold addG
     simp [h1, h2, h3, show max (0 : Int) 1 = 1 from rfl, show max (1 : Int) 0 = 1 from rfl]
    rw [E.out]
    have z1 : (ast == 0) = false := by rw [beq_eq_false_iff_ne]; exact h1
    have z2 : (bst == 0) = true := by rw [h2]; rfl
    subst h3
    clear h1
    subst h2
    clear E
    go_enter Tryz.func177, Tryz.ntmps177
    go_wp2
    refine bodyPost_ret (v := .agg #[.int .i64 (aw + bw), .int .i64 (ast), .int .i64 (ash + bsh), .int .i64 0]) (by simp [results, Tryz.results177, go_sem, show max (0 : Int) 1 = 1 from rfl, show max (1 : Int) 0 = 1 from rfl]) rfl ⟨rfl, ?_⟩
    repeat (first | exact Below.refl _ _ | refine Below.alloc ?_ (by simp; try omega) _)
   ·skip
    have E : Hid (addG ⟨aw, ast, ash, aod⟩ ⟨bw, bst, bsh, bod⟩ = ⟨aw + bw, ast, ash + bsh, 1⟩) := by
     show _ = _
     unfold addG
     simp [h1, h2, h3, show max (0 : Int) 1 = 1 from rfl, show max (1 : Int) 0 = 1 from rfl]
    rw [E.out]
    have z1 : (ast == 0) = false := by rw [beq_eq_false_iff_ne]; exact h1
    have z2 : (bst == 0) = true := by rw [h2]; rfl
    subst h3
    clear h1
    subst h2
    clear E
    go_enter Tryz.func177, Tryz.ntmps177
    go_wp2
    refine bodyPost_ret (v := .agg #[.int .i64 (aw + bw), .int .i64 (ast), .int .i64 (ash + bsh), .int .i64 1]) (by simp [results, Tryz.results177, go_sem, show max (0 : Int) 1 = 1 from rfl, show max (1 : Int) 0 = 1 from rfl]) rfl ⟨rfl, ?_⟩
    repeat (first | exact Below.refl _ _ | refine Below.alloc ?_ (by simp; try omega) _)
  ·rcases a7 with h3 | h3
   ·rcases b7 with h4 | h4
    ·skip
     have E : Hid (addG ⟨aw, ast, ash, aod⟩ ⟨bw, bst, bsh, bod⟩ = ⟨aw + bw, ast + bst, ash + bsh, 0⟩) := by
      show _ = _
      unfold addG
      simp [h1, h2, h3, h4, show max (0 : Int) 1 = 1 from rfl, show max (1 : Int) 0 = 1 from rfl]
     rw [E.out]
     have z1 : (ast == 0) = false := by rw [beq_eq_false_iff_ne]; exact h1
     have z2 : (bst == 0) = false := by rw [beq_eq_false_iff_ne]; exact h2
     subst h3
     subst h4
     clear h1
     clear h2
     clear E
     go_enter Tryz.func177, Tryz.ntmps177
     go_wp2
     refine bodyPost_ret (v := .agg #[.int .i64 (aw + bw), .int .i64 (ast + bst), .int .i64 (ash + bsh), .int .i64 0]) (by simp [results, Tryz.results177, go_sem, show max (0 : Int) 1 = 1 from rfl, show max (1 : Int) 0 = 1 from rfl]) rfl ⟨rfl, ?_⟩
     repeat (first | exact Below.refl _ _ | refine Below.alloc ?_ (by simp; try omega) _)
    ·skip
     have E : Hid (addG ⟨aw, ast, ash, aod⟩ ⟨bw, bst, bsh, bod⟩ = ⟨aw + bw, bst, ash + bsh, 1⟩) := by
      show _ = _
      unfold addG
      simp [h1, h2, h3, h4, show max (0 : Int) 1 = 1 from rfl, show max (1 : Int) 0 = 1 from rfl]
     rw [E.out]
     have z1 : (ast == 0) = false := by rw [beq_eq_false_iff_ne]; exact h1
     have z2 : (bst == 0) = false := by rw [beq_eq_false_iff_ne]; exact h2
     subst h3
     subst h4
     clear h1
     clear h2
     clear E
     go_enter Tryz.func177, Tryz.ntmps177
     go_wp2
     refine bodyPost_ret (v := .agg #[.int .i64 (aw + bw), .int .i64 (bst), .int .i64 (ash + bsh), .int .i64 1]) (by simp [results, Tryz.results177, go_sem, show max (0 : Int) 1 = 1 from rfl, show max (1 : Int) 0 = 1 from rfl]) rfl ⟨rfl, ?_⟩
     repeat (first | exact Below.refl _ _ | refine Below.alloc ?_ (by simp; try omega) _)
   ·rcases b7 with h4 | h4
    ·skip
     have E : Hid (addG ⟨aw, ast, ash, aod⟩ ⟨bw, bst, bsh, bod⟩ = ⟨aw + bw, ast, ash + bsh, 1⟩) := by
      show _ = _
      unfold addG
      simp [h1, h2, h3, h4, show max (0 : Int) 1 = 1 from rfl, show max (1 : Int) 0 = 1 from rfl]
     rw [E.out]
     have z1 : (ast == 0) = false := by rw [beq_eq_false_iff_ne]; exact h1
     have z2 : (bst == 0) = false := by rw [beq_eq_false_iff_ne]; exact h2
     subst h3
     subst h4
     clear h1
     clear h2
     clear E
     go_enter Tryz.func177, Tryz.ntmps177
     go_wp2
     refine bodyPost_ret (v := .agg #[.int .i64 (aw + bw), .int .i64 (ast), .int .i64 (ash + bsh), .int .i64 1]) (by simp [results, Tryz.results177, go_sem, show max (0 : Int) 1 = 1 from rfl, show max (1 : Int) 0 = 1 from rfl]) rfl ⟨rfl, ?_⟩
     repeat (first | exact Below.refl _ _ | refine Below.alloc ?_ (by simp; try omega) _)
    ·skip
     have E : Hid (addG ⟨aw, ast, ash, aod⟩ ⟨bw, bst, bsh, bod⟩ = ⟨aw + bw, ast + bst, ash + bsh, 1⟩) := by
      show _ = _
      unfold addG
      simp [h1, h2, h3, h4, show max (0 : Int) 1 = 1 from rfl, show max (1 : Int) 0 = 1 from rfl]
     rw [E.out]
     have z1 : (ast == 0) = false := by rw [beq_eq_false_iff_ne]; exact h1
     have z2 : (bst == 0) = false := by rw [beq_eq_false_iff_ne]; exact h2
     subst h3
     subst h4
     clear h1
     clear h2
     clear E
     go_enter Tryz.func177, Tryz.ntmps177
     go_wp2
     refine bodyPost_ret (v := .agg #[.int .i64 (aw + bw), .int .i64 (ast + bst), .int .i64 (ash + bsh), .int .i64 1]) (by simp [results, Tryz.results177, go_sem, show max (0 : Int) 1 = 1 from rfl, show max (1 : Int) 0 = 1 from rfl]) rfl ⟨rfl, ?_⟩
     repeat (first | exact Below.refl _ _ | refine Below.alloc ?_ (by simp; try omega) _)
end Go.Proofs.YtofnchdijanikaaGreatDoor
namespace Go.Proofs.YtofnchdijanikaaGreatDoor
open Go.RowKit
def encG (g : DGlue) : List Value := [.int .i64 g.w, .int .i64 g.st, .int .i64 g.sh, .int .i64 g.od]
theorem encG_len (g : DGlue) : (encG g).length = 4 := rfl
theorem encG_pos (g : DGlue) : 0 < (encG g).length := by rw [encG_len]; decide
def GlOwn (w : World) (B t : Nat) (a b c d : Int) : Prop := w.ownsRow B 71 4 (.slice (some ⟨t, 0, none⟩) 1 1) 1 [.int .i64 a, .int .i64 b, .int .i64 c, .int .i64 d]
theorem GlOwn.made (w : World) {B : Nat} (hB : B ≤ w.heap.size) (a b c d : Int) : GlOwn (w.alloc (.cells #[.int .i64 a, .int .i64 b, .int .i64 c, .int .i64 d] 71)) B w.heap.size a b c d :=
 ⟨rfl, .inr ⟨w.heap.size, 1, #[.int .i64 a, .int .i64 b, .int .i64 c, .int .i64 d], rfl, hB, heap_alloc_new w _, Nat.le_refl _, by unfold maxLen; omega, rfl, rfl⟩⟩
theorem GlOwn.lt {w : World} {B t : Nat} {a b c d : Int} (h : GlOwn w B t a b c d) : B ≤ t ∧ t < w.heap.size := World.ownsRow.lt h t rfl
theorem GlOwn.cells {w : World} {B t : Nat} {a b c d : Int} (h : GlOwn w B t a b c d) : w.cell? ⟨t, 0, none⟩ = some (.int .i64 a) ∧ w.cell? ⟨t, 1, none⟩ = some (.int .i64 b) ∧ w.cell? ⟨t, 2, none⟩ = some (.int .i64 c) ∧ w.cell? ⟨t, 3, none⟩ = some (.int .i64 d) :=
 ⟨World.ownsRow.cellAt h 0 (by decide), World.ownsRow.cellAt h 1 (by decide), World.ownsRow.cellAt h 2 (by decide), World.ownsRow.cellAt h 3 (by decide)⟩
theorem GlOwn.free {w : World} {B t : Nat} {a b c d : Int} (h : GlOwn w B t a b c d) (j : Nat) : w.frozen? ⟨t, j, none⟩ = false := World.ownsRow.frozenAt h j
theorem GlOwn.put0 {w : World} {B t : Nat} {a b c d : Int} (h : GlOwn w B t a b c d) (x : Int) : GlOwn (w.setCell ⟨t, 0, none⟩ (.int .i64 x)) B t x b c d ∧ w.grownBy (w.setCell ⟨t, 0, none⟩ (.int .i64 x)) (some t) := World.ownsRow.stored h 0 (.int .i64 x)
theorem GlOwn.put1 {w : World} {B t : Nat} {a b c d : Int} (h : GlOwn w B t a b c d) (x : Int) : GlOwn (w.setCell ⟨t, 1, none⟩ (.int .i64 x)) B t a x c d ∧ w.grownBy (w.setCell ⟨t, 1, none⟩ (.int .i64 x)) (some t) := World.ownsRow.stored h 1 (.int .i64 x)
theorem GlOwn.put2 {w : World} {B t : Nat} {a b c d : Int} (h : GlOwn w B t a b c d) (x : Int) : GlOwn (w.setCell ⟨t, 2, none⟩ (.int .i64 x)) B t a b x d ∧ w.grownBy (w.setCell ⟨t, 2, none⟩ (.int .i64 x)) (some t) := World.ownsRow.stored h 2 (.int .i64 x)
theorem GlOwn.put3 {w : World} {B t : Nat} {a b c d : Int} (h : GlOwn w B t a b c d) (x : Int) : GlOwn (w.setCell ⟨t, 3, none⟩ (.int .i64 x)) B t a b c x ∧ w.grownBy (w.setCell ⟨t, 3, none⟩ (.int .i64 x)) (some t) := World.ownsRow.stored h 3 (.int .i64 x)
theorem GlOwn.keep {w w' : World} {B t : Nat} {a b c d : Int} (h : GlOwn w B t a b c d) (hb : Below w.heap.size w w') : GlOwn w' B t a b c d := owns_below h hb
theorem gl_read {w : World} {B t : Nat} {a b c d : Int} (h : GlOwn w B t a b c d) (x y z u : Int) :
  (w.setCell ⟨t, 0, none⟩ (.int .i64 x)).cell? ⟨t, 0, none⟩ = some (.int .i64 x) ∧ ((w.setCell ⟨t, 0, none⟩ (.int .i64 x)).setCell ⟨t, 1, none⟩ (.int .i64 y)).cell? ⟨t, 1, none⟩ = some (.int .i64 y) ∧ (((w.setCell ⟨t, 0, none⟩ (.int .i64 x)).setCell ⟨t, 1, none⟩ (.int .i64 y)).setCell ⟨t, 2, none⟩ (.int .i64 z)).cell? ⟨t, 2, none⟩ = some (.int .i64 z) ∧ ((((w.setCell ⟨t, 0, none⟩ (.int .i64 x)).setCell ⟨t, 1, none⟩ (.int .i64 y)).setCell ⟨t, 2, none⟩ (.int .i64 z)).setCell ⟨t, 3, none⟩ (.int .i64 u)).cell? ⟨t, 3, none⟩ = some (.int .i64 u) := by
 have s0 := h.put0 x
 have s1 := s0.1.put1 y
 have s2 := s1.1.put2 z
 have s3 := s2.1.put3 u
 exact ⟨s0.1.cells.1, s1.1.cells.2.1, s2.1.cells.2.2.1, s3.1.cells.2.2.2⟩
theorem gl_put {w0 w : World} {B t : Nat} {a b c d : Int} (h : GlOwn w B t a b c d) (hb : Below w0.heap.size w0 w) (hg : w0.heap.size ≤ t) (x y z u : Int) :
  Below w0.heap.size w0 ((((w.setCell ⟨t, 0, none⟩ (.int .i64 x)).setCell ⟨t, 1, none⟩ (.int .i64 y)).setCell ⟨t, 2, none⟩ (.int .i64 z)).setCell ⟨t, 3, none⟩ (.int .i64 u)) := by
 have s0 := h.put0 x
 have s1 := s0.1.put1 y
 have s2 := s1.1.put2 z
 have s3 := s2.1.put3 u
 have h0 := hb.size
 have h1 := s0.2.size
 have h2 := s1.2.size
 have h3 := s2.2.size
 exact (((hb.grown s0.2 h0 (fun j hj => by cases hj; exact hg)).grown s1.2 (by omega) (fun j hj => by cases hj; exact hg)).grown s2.2 (by omega) (fun j hj => by cases hj; exact hg)).grown s3.2 (by omega) (fun j hj => by cases hj; exact hg)
def odTo (gs : List DGlue) (k : Nat) : Int := if anyOd (gs.take k) = true then 1 else 0
theorem take_more {α : Type} (gs : List α) (k : Nat) (h : k < gs.length) : gs.take (k + 1) = gs.take k ++ [gs[k]] := List.take_succ_eq_append_getElem h
theorem odTo_more (gs : List DGlue) (k : Nat) (h : k < gs.length) : odTo gs (k + 1) = if (decide (gs[k].od = 1) && decide (0 < gs[k].st)) = true then 1 else odTo gs k := by
 unfold odTo anyOd
 rw [take_more gs k h, List.any_append, List.any_cons, List.any_nil, Bool.or_false]
 cases h1 : (gs.take k).any fun g => decide (g.od = 1) && decide (0 < g.st) <;> cases h2 : (decide (gs[k].od = 1) && decide (0 < gs[k].st)) <;> simp
theorem tot_more (gs : List DGlue) (k : Nat) (h : k < gs.length) (o : Int) : totW (gs.take (k + 1)) = totW (gs.take k) + gs[k].w ∧ totSh (gs.take (k + 1)) = totSh (gs.take k) + gs[k].sh ∧ totSt o (gs.take (k + 1)) = totSt o (gs.take k) + (if gs[k].od = o then gs[k].st else 0) := by
 rw [take_more gs k h, totW_snoc, totSh_snoc, totSt_snoc]
 exact ⟨rfl, rfl, rfl⟩
set_option maxHeartbeats 8000000 in
theorem implTotal_any (v : Value) (gs : List DGlue) (w : World) (hr : SRow 4 encG w v gs) (hg : ∀ g ∈ gs, GlueOk g) (hl : gs.length ≤ 61) : Calls Tryz.prog 194 #[v] w (GluePost (sumG gs) w) := by
 have SG := Lib.hid (sumG_tot _ gs rfl hg)
 by_cases h0 : gs.length = 0
 ·obtain rfl : gs = [] := List.eq_nil_of_length_eq_zero h0
  obtain ⟨a, cap, rfl⟩ := hr.empty
  clear hr h0 hl hg SG
  go_enter Tryz.func194, Tryz.ntmps194
  go_wp2
  refine wp_loop_rounds 1 ?_
  rw [rounds_succ]
  go_wp2
  refine wp_loop_rounds 1 ?_
  rw [rounds_succ]
  go_wp2
  refine bodyPost_ret (v := .agg #[.int .i64 0, .int .i64 0, .int .i64 0, .int .i64 0]) (by simp [results, Tryz.results194, go_sem]) rfl ⟨rfl, ?_⟩
  repeat (first | exact Below.refl _ _ | refine Below.alloc ?_ (by simp; try omega) _)
 ·obtain ⟨b, off, cap, rfl, hbl, hc⟩ := hr.pos encG_pos (by omega)
  obtain ⟨n, hn⟩ : ∃ n, n = gs.length := ⟨_, rfl⟩
  have HB := Lib.hid (fun k (hk : k < gs.length) => hg gs[k] (List.getElem_mem hk))
  have TB := Lib.hid (fun k => tot_bd (gs.take k) (fun g h => hg g (List.mem_of_mem_take h)))
  rw [← hn] at hl h0 ⊢
  have HC := Lib.hid hc
  have HN := Lib.hid hn
  have DN : Hid (∀ k, k < n → k < gs.length) := fun k hk => by omega
  clear hc hn hr hg
  obtain ⟨t, ht⟩ : ∃ t, t = w.heap.size + 1 := ⟨_, rfl⟩
  obtain ⟨r, hr⟩ : ∃ r, r = w.heap.size := ⟨_, rfl⟩
  have O0 : Hid (GlOwn ((w.alloc (.cells #[.int .i64 0, .int .i64 0, .int .i64 0, .int .i64 0] 71)).alloc (.cells #[.int .i64 0, .int .i64 0, .int .i64 0, .int .i64 0] 71)) w.heap.size t 0 0 0 (odTo gs 0)) := by
   have := GlOwn.made (w.alloc (.cells #[.int .i64 0, .int .i64 0, .int .i64 0, .int .i64 0] 71)) (B := w.heap.size) (by simp) 0 0 0 0
   rw [show (w.alloc (.cells #[.int .i64 0, .int .i64 0, .int .i64 0, .int .i64 0] 71)).heap.size = w.heap.size + 1 by simp, ← ht] at this
   exact this
  have R0 : Hid (GlOwn ((w.alloc (.cells #[.int .i64 0, .int .i64 0, .int .i64 0, .int .i64 0] 71)).alloc (.cells #[.int .i64 0, .int .i64 0, .int .i64 0, .int .i64 0] 71)) w.heap.size r 0 0 0 0) := by
   have := (GlOwn.made w (B := w.heap.size) (Nat.le_refl _) 0 0 0 0).keep ((Below.refl _ _).alloc (Nat.le_refl _) (.cells #[.int .i64 0, .int .i64 0, .int .i64 0, .int .i64 0] 71))
   rw [hr]
   exact this
  have B0 := Lib.hid (((Below.refl w.heap.size w).alloc (Nat.le_refl _) (.cells #[.int .i64 0, .int .i64 0, .int .i64 0, .int .i64 0] 71)).alloc (by simp) (.cells #[.int .i64 0, .int .i64 0, .int .i64 0, .int .i64 0] 71))
  go_enter Tryz.func194, Tryz.ntmps194
  go_wp2
  rw [← ht]
  have trn : t ≠ r := by omega
  have wt : w.heap.size ≤ t := by omega
  rw [show (Value.pointer (some ⟨w.heap.size, 0, none⟩)) = .pointer (some ⟨r, 0, none⟩) by rw [hr]]
  have wr0 : w.heap.size ≤ r := by omega
  clear ht hr
  go_loopw [10] (fun i wr => ∃ k : Nat, k ≤ n ∧ i = .int .i64 k ∧ Hid (GlOwn wr w.heap.size t 0 0 0 (odTo gs k)) ∧ Hid (GlOwn wr w.heap.size r 0 0 0 0) ∧ Hid (Below w.heap.size w wr)) (fun i _ => n - (intOf i).toNat)
  case atStart => exact ⟨0, Nat.zero_le _, rfl, O0.out, R0.out, B0.out⟩
  case round =>
   obtain ⟨k, hk, rfl, ho, hq, hb⟩ := hrel
   clear O0 R0 B0
   by_cases hlt : k < n
   ·have hk' := DN.out k hlt
    have q : ∀ i u, (encG gs[k])[i]? = some u → wr.cell? ⟨b, off + k * 4 + i, none⟩ = some u := fun i u hu => (hb.out.cell (p := ⟨b, off + k * 4 + i, none⟩) hbl).trans (HC.out k hk' i u hu)
    have OM := Lib.hid (odTo_more gs k hk')
    obtain ⟨g, hgx⟩ : ∃ g, g = gs[k] := ⟨_, rfl⟩
    rw [← hgx] at q OM
    have c0 : wr.cell? ⟨b, off + k * 4, none⟩ = some (.int .i64 g.w) := by simpa using q 0 _ rfl
    have c1 := q 1 _ rfl
    have c2 := q 2 _ rfl
    have c3 := q 3 _ rfl
    have hbr : b < wr.heap.size := Nat.lt_of_lt_of_le hbl hb.out.size
    have AL := (Below.refl wr.heap.size wr).alloc (Nat.le_refl _) (.cells #[.int .i64 g.w, .int .i64 g.st, .int .i64 g.sh, .int .i64 g.od] 71)
    have O1 := Lib.hid (ho.out.keep AL)
    have R1 := Lib.hid (hq.out.keep AL)
    have B1 := Lib.hid (hb.out.alloc hb.out.size (.cells #[.int .i64 g.w, .int .i64 g.st, .int .i64 g.sh, .int .i64 g.od] 71))
    clear q hgx AL ho hq
    by_cases h1 : g.od = 1
    ·have e1 : (g.od == 1) = true := by rw [h1]; rfl
     by_cases h2 : 0 < g.st
     ·have N2 : Hid (odTo gs (k + 1) = 1) := by show _ = _; rw [OM.out, decide_eq_true h1, decide_eq_true h2]; rfl
      have z3 := O1.out.free 3
      have e3 := O1.out.cells.2.2.2
      have P := O1.out.put3 1
      have PO := Lib.hid P.1
      have PR := Lib.hid (World.ownsRow.kept R1.out P.2 (.inr (show some r ≠ some t from fun e => trn (Option.some.inj e).symm)))
      have PB := Lib.hid (B1.out.grown P.2 B1.out.size (fun j hj => by cases hj; exact wt))
      clear OM P h1
      go_wp2
      first
       | exact ⟨⟨k + 1, by omega, by go_num, by rw [N2.out]; exact PO.out, PR.out, PB.out⟩, by simp [intOf]; omega⟩
       | (go_roundw
          case rel => exact ⟨k + 1, by omega, by go_num, by rw [N2.out]; exact PO.out, PR.out, PB.out⟩
          case measure => simp [intOf]; omega)
     ·have N2 : Hid (odTo gs (k + 1) = odTo gs k) := by show _ = _; rw [OM.out, decide_eq_false h2, Bool.and_false]; rfl
      clear OM h1
      go_wp2
      first
       | exact ⟨⟨k + 1, by omega, by go_num, by rw [N2.out]; exact O1.out, R1.out, B1.out⟩, by simp [intOf]; omega⟩
       | (go_roundw
          case rel => exact ⟨k + 1, by omega, by go_num, by rw [N2.out]; exact O1.out, R1.out, B1.out⟩
          case measure => simp [intOf]; omega)
    ·have e1 : (g.od == 1) = false := by rw [beq_eq_false_iff_ne]; exact h1
     have N2 : Hid (odTo gs (k + 1) = odTo gs k) := by show _ = _; rw [OM.out, decide_eq_false h1]; rfl
     clear OM h1
     go_wp2
     first
      | exact ⟨⟨k + 1, by omega, by go_num, by rw [N2.out]; exact O1.out, R1.out, B1.out⟩, by simp [intOf]; omega⟩
      | (go_roundw
         case rel => exact ⟨k + 1, by omega, by go_num, by rw [N2.out]; exact O1.out, R1.out, B1.out⟩
         case measure => simp [intOf]; omega)
   ·obtain rfl : k = n := by omega
    have OK : Hid (odTo gs k = if anyOd gs = true then 1 else 0) := by show _ = _; unfold odTo; rw [HN.out, List.take_length]
    rw [OK.out] at ho
    have o01 : (if anyOd gs = true then (1 : Int) else 0) = 0 ∨ (if anyOd gs = true then (1 : Int) else 0) = 1 := by split <;> simp
    obtain ⟨o, hoo⟩ : ∃ o : Int, o = if anyOd gs = true then 1 else 0 := ⟨_, rfl⟩
    rw [← hoo] at ho o01
    have SG2 : Hid (sumG gs = ⟨totW gs, totSt o gs, totSh gs, o⟩) := by show _ = _; rw [SG.out, ← hoo]
    have TK : Hid (gs.take k = gs) := by show _ = _; rw [HN.out, List.take_length]
    have S2 : Hid (GlOwn wr w.heap.size t (totW (gs.take 0)) (totSt o (gs.take 0)) (totSh (gs.take 0)) o) := ho.out
    have R2 := Lib.hid hq.out
    have B2 := Lib.hid hb.out
    clear ho hq hb OK hoo SG
    go_wp2
    go_loopw [26] (fun i wr => ∃ j : Nat, j ≤ k ∧ i = .int .i64 j ∧ Hid (GlOwn wr w.heap.size t (totW (gs.take j)) (totSt o (gs.take j)) (totSh (gs.take j)) o) ∧ Hid (GlOwn wr w.heap.size r 0 0 0 0) ∧ Hid (Below w.heap.size w wr)) (fun i _ => k - (intOf i).toNat)
    case atStart => exact ⟨0, Nat.zero_le _, rfl, S2.out, R2.out, B2.out⟩
    case round =>
     obtain ⟨j, hj, rfl, ho, hq, hb⟩ := hrel
     clear S2 R2 B2
     have bd := TB.out j
     have tl : (gs.take j).length ≤ 61 := by rw [List.length_take]; omega
     by_cases hlj : j < k
     ·have hj' := DN.out j hlj
      have q : ∀ i u, (encG gs[j])[i]? = some u → wr.cell? ⟨b, off + j * 4 + i, none⟩ = some u := fun i u hu => (hb.out.cell (p := ⟨b, off + j * 4 + i, none⟩) hbl).trans (HC.out j hj' i u hu)
      have TM := tot_more gs j hj' o
      have GK := HB.out j hj'
      obtain ⟨g, hgx⟩ : ∃ g, g = gs[j] := ⟨_, rfl⟩
      rw [← hgx] at q TM GK
      unfold GlueOk at GK
      have c0 : wr.cell? ⟨b, off + j * 4, none⟩ = some (.int .i64 g.w) := by simpa using q 0 _ rfl
      have c1 := q 1 _ rfl
      have c2 := q 2 _ rfl
      have c3 := q 3 _ rfl
      have hbr : b < wr.heap.size := Nat.lt_of_lt_of_le hbl hb.out.size
      obtain ⟨bd1, bd2, bd3, bd4, bd5⟩ := bd
      have bd5 := bd5 o
      obtain ⟨tw, htw⟩ : ∃ x, x = totW (gs.take j) := ⟨_, rfl⟩
      obtain ⟨tst, htst⟩ : ∃ x, x = totSt o (gs.take j) := ⟨_, rfl⟩
      obtain ⟨tsh, htsh⟩ : ∃ x, x = totSh (gs.take j) := ⟨_, rfl⟩
      rw [← htw, ← htst, ← htsh] at TM
      rw [← htw] at bd1 bd2 bd4
      rw [← htsh] at bd3 bd4
      rw [← htst] at bd5
      rw [← htw, ← htst, ← htsh] at ho
      have TM1 := Lib.hid TM.1
      have TM2 := Lib.hid TM.2.1
      have TM3 := Lib.hid TM.2.2
      have AL := (Below.refl wr.heap.size wr).alloc (Nat.le_refl _) (.cells #[.int .i64 g.w, .int .i64 g.st, .int .i64 g.sh, .int .i64 g.od] 71)
      have O1 := ho.out.keep AL
      have R1 := hq.out.keep AL
      have B1 := hb.out.alloc hb.out.size (.cells #[.int .i64 g.w, .int .i64 g.st, .int .i64 g.sh, .int .i64 g.od] 71)
      obtain ⟨gb, hgb⟩ : ∃ gb, gb = wr.heap.size := ⟨_, rfl⟩
      have gbt : some gb ≠ some t := fun e => by have := ho.out.lt; have := Option.some.inj e; omega
      have GC : GlOwn (wr.alloc (.cells #[.int .i64 g.w, .int .i64 g.st, .int .i64 g.sh, .int .i64 g.od] 71)) wr.heap.size gb g.w g.st g.sh g.od := by rw [hgb]; exact GlOwn.made wr (Nat.le_refl _) _ _ _ _
      have rt : some r ≠ some t := fun e => trn (Option.some.inj e).symm
      -- the width
      have z0 := O1.free 0
      have e0 := O1.cells.1
      have P1 := O1.put0 (tw + g.w)
      have G1 := World.ownsRow.kept GC P1.2 (.inr gbt)
      have R2 := World.ownsRow.kept R1 P1.2 (.inr rt)
      have B2 := B1.grown P1.2 B1.size (fun j hj => by cases hj; exact wt)
      -- the shrink
      have z2 := P1.1.free 2
      have e2 := P1.1.cells.2.2.1
      have f2 := (show GlOwn _ _ gb g.w g.st g.sh g.od from G1).cells.2.2.1
      have P2 := P1.1.put2 (tsh + g.sh)
      have G2 := World.ownsRow.kept G1 P2.2 (.inr gbt)
      have R3 := World.ownsRow.kept R2 P2.2 (.inr rt)
      have B3 := B2.grown P2.2 B2.size (fun j hj => by cases hj; exact wt)
      -- the order and the stretch
      have e3 := P2.1.cells.2.2.2
      have f3 := (show GlOwn _ _ gb g.w g.st g.sh g.od from G2).cells.2.2.2
      have z1 := P2.1.free 1
      have e1 := P2.1.cells.2.1
      have f1 := (show GlOwn _ _ gb g.w g.st g.sh g.od from G2).cells.2.1
      have P3 := P2.1.put1 (tst + g.st)
      have R4 := World.ownsRow.kept R3 P3.2 (.inr rt)
      have B4 := B3.grown P3.2 B3.size (fun j hj => by cases hj; exact wt)
      have HP2 := Lib.hid P2.1
      have HP3 := Lib.hid P3.1
      have HR3 := Lib.hid R3
      have HR4 := Lib.hid R4
      have HB3 := Lib.hid B3
      have HB4 := Lib.hid B4
      rw [hgb] at f1 f2 f3
      clear q hgx AL ho hq O1 R1 B1 GC P1 G1 R2 B2 P2 G2 R3 B3 P3 R4 B4 TM htw htst htsh hgb gbt rt
      by_cases h1 : g.od = o
      ·have e5 : (g.od == o) = true := by rw [h1]; exact beq_self_eq_true _
       have T3 : Hid (totSt o (gs.take (j + 1)) = tst + g.st) := by show _ = _; rw [TM3.out, if_pos h1]
       clear h1
       go_wp2
       first
        | exact ⟨⟨j + 1, by omega, by go_num, by rw [TM1.out, TM2.out, T3.out]; exact HP3.out, HR4.out, HB4.out⟩, by simp [intOf]; omega⟩
        | (go_roundw
           case rel => exact ⟨j + 1, by omega, by go_num, by rw [TM1.out, TM2.out, T3.out]; exact HP3.out, HR4.out, HB4.out⟩
           case measure => simp [intOf]; omega)
      ·have e5 : (g.od == o) = false := by rw [beq_eq_false_iff_ne]; exact h1
       have T3 : Hid (totSt o (gs.take (j + 1)) = tst) := by show _ = _; rw [TM3.out, if_neg h1, Int.add_zero]
       clear h1
       go_wp2
       first
        | exact ⟨⟨j + 1, by omega, by go_num, by rw [TM1.out, TM2.out, T3.out]; exact HP2.out, HR3.out, HB3.out⟩, by simp [intOf]; omega⟩
        | (go_roundw
           case rel => exact ⟨j + 1, by omega, by go_num, by rw [TM1.out, TM2.out, T3.out]; exact HP2.out, HR3.out, HB3.out⟩
           case measure => simp [intOf]; omega)
     ·obtain rfl : j = k := by omega
      rw [TK.out] at ho
      obtain ⟨tw, htw⟩ : ∃ x, x = totW gs := ⟨_, rfl⟩
      obtain ⟨tst, htst⟩ : ∃ x, x = totSt o gs := ⟨_, rfl⟩
      obtain ⟨tsh, htsh⟩ : ∃ x, x = totSh gs := ⟨_, rfl⟩
      rw [← htw, ← htst, ← htsh] at ho
      have SG3 : Hid (sumG gs = ⟨tw, tst, tsh, o⟩) := by show _ = _; rw [SG2.out, ← htw, ← htst, ← htsh]
      obtain ⟨t0, t1, t2, t3⟩ := ho.out.cells
      obtain ⟨r0, r1, r2, r3⟩ := hq.out.cells
      have y0 := hq.out.free 0
      have y1 := hq.out.free 1
      have y2 := hq.out.free 2
      have y3 := hq.out.free 3
      obtain ⟨rf0, rf1, rf2, rf3⟩ := gl_read hq.out tw tst tsh o
      have BF := Lib.hid (gl_put hq.out hb.out wr0 tw tst tsh o)
      clear htw htst htsh TB bd tl
      go_wp2
      exact bodyPost_ret (v := .agg #[.int .i64 tw, .int .i64 tst, .int .i64 tsh, .int .i64 o]) (by simp [results, Tryz.results194, go_sem, rf0, rf1, rf2, rf3]) rfl ⟨by rw [SG3.out]; rfl, BF.out⟩
end Go.Proofs.YtofnchdijanikaaGreatDoor
namespace Go.Proofs.YtofnchdijanikaaGreatDoor
open Go.RowKit
theorem prod_bd {a b A B : Int} (ha : 0 ≤ a) (ha' : a ≤ A) (hb : 0 ≤ b) (hb' : b ≤ B) : 0 ≤ a * b ∧ a * b ≤ A * B := ⟨Int.mul_nonneg ha hb, Int.mul_le_mul ha' hb' hb (by omega)⟩
theorem i64_ok (x : Int) (h : 0 ≤ x ∧ x ≤ 1000000000000000000) : IntKind.i64.wrap x = x := IntWalk.i64_in _ (by omega)
set_option maxHeartbeats 4000000 in
theorem implBad_any (need room : Int) (hn : 0 ≤ need ∧ need ≤ 100000) (hr : 0 ≤ room ∧ room ≤ 100000) (w : World) : Calls Tryz.prog 192 #[.int .i64 need, .int .i64 room] w fun e w' => e = .returned (.int .i64 (badV need room)) ∧ w = w' := by
 have BV := Lib.hid (badV_prog hn.1 hr.1)
 obtain ⟨n1, n2⟩ := hn
 obtain ⟨r1, r2⟩ := hr
 have p1 := prod_bd (a := 100) (b := need) (A := 100) (B := 100000) (by decide) (by decide) n1 n2
 have p2 := prod_bd (A := 100 * 100000) (B := 100000) p1.1 p1.2 n1 n2
 have p3 := prod_bd (A := 100 * 100000 * 100000) (B := 100000) p2.1 p2.2 n1 n2
 have q2 := prod_bd (A := 100000) (B := 100000) r1 r2 r1 r2
 have q3 := prod_bd (A := 100000 * 100000) (B := 100000) q2.1 q2.2 r1 r2
 have w2 := i64_ok (100 * need * need) (by omega)
 have w3 := i64_ok (100 * need * need * need) (by omega)
 have v2 := i64_ok (room * room) (by omega)
 have v3 := i64_ok (room * room * room) (by omega)
 have w1 := i64_ok (100 * need) (by omega)
 by_cases h0 : need = 0
 ·have E : Hid (badV need room = 0) := by show _ = _; rw [BV.out, if_pos h0]
  have c0 : (need == 0) = true := by rw [h0]; rfl
  clear BV h0 w1 w2 w3 v2 v3 p1 p2 p3 q2 q3
  go_enter Tryz.func192, Tryz.ntmps192
  go_wp2_with fail
  go_ret
  exact ⟨by rw [E.out]; rfl, rfl⟩
 ·have c0 : (need == 0) = false := by rw [beq_eq_false_iff_ne]; exact h0
  by_cases h1 : room = 0
  ·have E : Hid (badV need room = 10000) := by show _ = _; rw [BV.out, if_neg h0, if_pos h1]
   have c1 : (room == 0) = true := by rw [h1]; rfl
   clear BV h0 h1 w1 w2 w3 v2 v3 p1 p2 p3 q2 q3
   go_enter Tryz.func192, Tryz.ntmps192
   go_wp2_with fail
   go_ret
   exact ⟨by rw [E.out]; rfl, rfl⟩
  ·have c1 : (room == 0) = false := by rw [beq_eq_false_iff_ne]; exact h1
   by_cases h2 : need > 10 * room
   ·have E : Hid (badV need room = 10000) := by show _ = _; rw [BV.out, if_neg h0, if_neg h1, if_pos h2]
    have c2 : 10 * room < need := h2
    clear BV h0 h1 h2 w1 w2 w3 v2 v3 p1 p2 p3 q2 q3
    go_enter Tryz.func192, Tryz.ntmps192
    go_wp2_with fail
    go_ret
    exact ⟨by rw [E.out]; rfl, rfl⟩
   ·have E : Hid (badV need room = min 10000 (100 * need * need * need / (room * room * room))) := by show _ = _; rw [BV.out, if_neg h0, if_neg h1, if_neg h2]
    have c2 : ¬ 10 * room < need := h2
    have rp : 0 < room := by omega
    have c3 : (room * room * room == 0) = false := by
     rw [beq_eq_false_iff_ne]
     have := Int.mul_pos (Int.mul_pos rp rp) rp
     omega
    have c4 : ¬ room * room * room = 0 := by
     have := Int.mul_pos (Int.mul_pos rp rp) rp
     omega
    have td : (100 * need * need * need).tdiv (room * room * room) = 100 * need * need * need / (room * room * room) := Int.tdiv_eq_ediv_of_nonneg p3.1
    have dv : 0 ≤ 100 * need * need * need / (room * room * room) ∧ 100 * need * need * need / (room * room * room) ≤ 1000000000000000000 := ⟨Int.ediv_nonneg p3.1 q3.1, by have := Int.ediv_le_self (a := 100 * need * need * need) (room * room * room) p3.1; omega⟩
    have wd := i64_ok _ dv
    clear BV h0 h1 h2 p1 p2 p3 q2 q3 rp
    go_enter Tryz.func192, Tryz.ntmps192
    go_wp2_with fail
    go_ret
    exact ⟨by rw [E.out]; rfl, rfl⟩
theorem implLooks_any (st : Bool) (b : Int) (hb : 0 ≤ b ∧ b ≤ 10000) (w : World) : Calls Tryz.prog 185 #[.bool st, .int .i64 b] w fun e w' => e = .returned (.int .i64 (looksV st b)) ∧ w = w' := by
 have I1 : Hid (inB b 0 10000 = true) := inB_yes hb.1 hb.2
 have LV : Hid (looksV st b = if b ≤ 12 then 1 else if st = false then 0 else if b < 100 then 2 else 3) := rfl
 clear hb
 by_cases h1 : b ≤ 12
 ·have E : Hid (looksV st b = 1) := by show _ = _; rw [LV.out, if_pos h1]
  clear LV
  go_enter Tryz.func185, Tryz.ntmps185
  go_wp2_with (go_at_call 58; refine (isBad_any _ _).mono ?_; rintro e w' ⟨rfl, rfl⟩; rw [I1.out])
  go_ret
  exact ⟨by rw [E.out]; rfl, rfl⟩
 ·cases st
  ·have E : Hid (looksV false b = 0) := by show _ = _; rw [LV.out, if_neg h1]; rfl
   clear LV
   go_enter Tryz.func185, Tryz.ntmps185
   go_wp2_with (go_at_call 58; refine (isBad_any _ _).mono ?_; rintro e w' ⟨rfl, rfl⟩; rw [I1.out])
   go_ret
   exact ⟨by rw [E.out]; rfl, rfl⟩
  ·by_cases h2 : b < 100
   ·have E : Hid (looksV true b = 2) := by show _ = _; rw [LV.out, if_neg h1, if_neg (by decide), if_pos h2]
    clear LV
    go_enter Tryz.func185, Tryz.ntmps185
    go_wp2_with (go_at_call 58; refine (isBad_any _ _).mono ?_; rintro e w' ⟨rfl, rfl⟩; rw [I1.out])
    go_ret
    exact ⟨by rw [E.out]; rfl, rfl⟩
   ·have E : Hid (looksV true b = 3) := by show _ = _; rw [LV.out, if_neg h1, if_neg (by decide), if_neg h2]
    clear LV
    go_enter Tryz.func185, Tryz.ntmps185
    go_wp2_with (go_at_call 58; refine (isBad_any _ _).mono ?_; rintro e w' ⟨rfl, rfl⟩; rw [I1.out])
    go_ret
    exact ⟨by rw [E.out]; rfl, rfl⟩
theorem implCost_any (b c : Int) (hb : 0 ≤ b ∧ b ≤ 10000) (hc : (0 ≤ c ∧ c ≤ 10000) ∨ c = -10000) (w : World) : Calls Tryz.prog 186 #[.int .i64 b, .int .i64 c] w fun e w' => e = .returned (.int .i64 (costV b c)) ∧ w = w' := by
 have I1 : Hid (inB b 0 10000 = true) := inB_yes hb.1 hb.2
 have CV := Lib.hid (fun w => isCost_any c hc w)
 have CO : Hid (costV b c = (10 + b) * (10 + b) + (if c = -10000 then 0 else c * c)) := rfl
 have p1 := prod_bd (a := 10 + b) (b := 10 + b) (A := 10010) (B := 10010) (by omega) (by omega) (by omega) (by omega)
 have w1 := i64_ok _ (show 0 ≤ (10 + b) * (10 + b) ∧ (10 + b) * (10 + b) ≤ 1000000000000000000 by omega)
 obtain ⟨b1, b2⟩ := hb
 rcases hc with ⟨c1, c2⟩ | rfl
 ·have p2 := prod_bd c1 c2 c1 c2
  have w2 := i64_ok (c * c) (by omega)
  have w3 := i64_ok ((10 + b) * (10 + b) + c * c) (by omega)
  have nc : (c != -10000) = true := by rw [bne_iff_ne]; omega
  have E : Hid (costV b c = (10 + b) * (10 + b) + c * c) := by show _ = _; rw [CO.out, if_neg (by omega)]
  clear CO p1 p2
  go_enter Tryz.func186, Tryz.ntmps186
  go_wp2_with (first | (go_at_call 58; refine (isBad_any _ _).mono ?_; rintro e w' ⟨rfl, rfl⟩; rw [I1.out]) | (go_at_call 190; refine (CV.out _).mono ?_; rintro e w' ⟨rfl, rfl⟩))
  go_ret
  exact ⟨by rw [E.out]; rfl, rfl⟩
 ·have nc : ((-10000 : Int) != -10000) = false := rfl
  have E : Hid (costV b (-10000) = (10 + b) * (10 + b)) := by show _ = _; rw [CO.out, if_pos rfl, Int.add_zero]
  clear CO p1
  go_enter Tryz.func186, Tryz.ntmps186
  go_wp2_with (first | (go_at_call 58; refine (isBad_any _ _).mono ?_; rintro e w' ⟨rfl, rfl⟩; rw [I1.out]) | (go_at_call 190; refine (CV.out _).mono ?_; rintro e w' ⟨rfl, rfl⟩))
  go_ret
  exact ⟨by rw [E.out]; rfl, rfl⟩
set_option maxHeartbeats 4000000 in
theorem specBad_any (need room : Int) (hn : 0 ≤ need ∧ need ≤ 100000) (hr : 0 ≤ room ∧ room ≤ 100000) (w : World) : Calls Tryz.prog 156 #[.int .i64 need, .int .i64 room] w fun e w' => e = .returned (.int .i64 (badV need room)) ∧ w = w' := by
 have BV := Lib.hid (show badV need room = if need = 0 then 0 else if room = 0 ∨ need > 5 * room then 10000 else min 10000 (100 * need * need * need / (room * room * room)) from rfl)
 obtain ⟨n1, n2⟩ := hn
 obtain ⟨r1, r2⟩ := hr
 have p1 := prod_bd (a := 100) (b := need) (A := 100) (B := 100000) (by decide) (by decide) n1 n2
 have p2 := prod_bd (A := 100 * 100000) (B := 100000) p1.1 p1.2 n1 n2
 have p3 := prod_bd (A := 100 * 100000 * 100000) (B := 100000) p2.1 p2.2 n1 n2
 have q2 := prod_bd (A := 100000) (B := 100000) r1 r2 r1 r2
 have q3 := prod_bd (A := 100000 * 100000) (B := 100000) q2.1 q2.2 r1 r2
 have w2 := i64_ok (100 * need * need) (by omega)
 have w3 := i64_ok (100 * need * need * need) (by omega)
 have v2 := i64_ok (room * room) (by omega)
 have v3 := i64_ok (room * room * room) (by omega)
 have w1 := i64_ok (100 * need) (by omega)
 have I1 : Hid (inB need 0 100000 = true) := inB_yes (by omega) (by omega)
 have I2 : Hid (inB room 0 100000 = true) := inB_yes (by omega) (by omega)
 by_cases h0 : need = 0
 ·have E : Hid (badV need room = 0) := by show _ = _; rw [BV.out, if_pos h0]
  have c0 : (need == 0) = true := by rw [h0]; rfl
  clear BV h0 w1 w2 w3 v2 v3 p1 p2 p3 q2 q3
  go_enter Tryz.func156, Tryz.ntmps156
  go_wp2_with (go_at_call 34; refine (l1In_any _ _ _ _).mono ?_; rintro e w' ⟨rfl, rfl⟩; first | rw [I1.out] | rw [I2.out])
  go_ret
  exact ⟨by rw [E.out]; rfl, rfl⟩
 ·have c0 : (need == 0) = false := by rw [beq_eq_false_iff_ne]; exact h0
  by_cases h1 : room = 0
  ·have E : Hid (badV need room = 10000) := by show _ = _; rw [BV.out, if_neg h0, if_pos (.inl h1)]
   have c1 : (room == 0) = true := by rw [h1]; rfl
   clear BV h0 h1 w1 w2 w3 v2 v3 p1 p2 p3 q2 q3
   go_enter Tryz.func156, Tryz.ntmps156
   go_wp2_with (go_at_call 34; refine (l1In_any _ _ _ _).mono ?_; rintro e w' ⟨rfl, rfl⟩; first | rw [I1.out] | rw [I2.out])
   go_ret
   exact ⟨by rw [E.out]; rfl, rfl⟩
  ·have c1 : (room == 0) = false := by rw [beq_eq_false_iff_ne]; exact h1
   by_cases h2 : need > 5 * room
   ·have E : Hid (badV need room = 10000) := by show _ = _; rw [BV.out, if_neg h0, if_pos (.inr h2)]
    have c2 : 5 * room < need := h2
    clear BV h0 h1 h2 w1 w2 w3 v2 v3 p1 p2 p3 q2 q3
    go_enter Tryz.func156, Tryz.ntmps156
    go_wp2_with (go_at_call 34; refine (l1In_any _ _ _ _).mono ?_; rintro e w' ⟨rfl, rfl⟩; first | rw [I1.out] | rw [I2.out])
    go_ret
    exact ⟨by rw [E.out]; rfl, rfl⟩
   ·have E : Hid (badV need room = min 10000 (100 * need * need * need / (room * room * room))) := by show _ = _; rw [BV.out, if_neg h0, if_neg (fun h => by rcases h with h | h; exact h1 h; exact h2 h)]
    have c2 : ¬ 5 * room < need := h2
    have rp : 0 < room := by omega
    have c3 : (room * room * room == 0) = false := by
     rw [beq_eq_false_iff_ne]
     have := Int.mul_pos (Int.mul_pos rp rp) rp
     omega
    have c4 : ¬ room * room * room = 0 := by
     have := Int.mul_pos (Int.mul_pos rp rp) rp
     omega
    have td : (100 * need * need * need).tdiv (room * room * room) = 100 * need * need * need / (room * room * room) := Int.tdiv_eq_ediv_of_nonneg p3.1
    have dv : 0 ≤ 100 * need * need * need / (room * room * room) ∧ 100 * need * need * need / (room * room * room) ≤ 1000000000000000000 := ⟨Int.ediv_nonneg p3.1 q3.1, by have := Int.ediv_le_self (a := 100 * need * need * need) (room * room * room) p3.1; omega⟩
    have wd := i64_ok _ dv
    clear BV h0 h1 h2 p1 p2 p3 q2 q3 rp
    go_enter Tryz.func156, Tryz.ntmps156
    go_wp2_with (go_at_call 34; refine (l1In_any _ _ _ _).mono ?_; rintro e w' ⟨rfl, rfl⟩; first | rw [I1.out] | rw [I2.out])
    go_ret
    exact ⟨by rw [E.out]; rfl, rfl⟩
theorem specLooks_any (st : Bool) (b : Int) (hb : 0 ≤ b ∧ b ≤ 10000) (w : World) : Calls Tryz.prog 126 #[.bool st, .int .i64 b] w fun e w' => e = .returned (.int .i64 (looksV st b)) ∧ w = w' := by
 have I1 : Hid (inB b 0 10000 = true) := inB_yes hb.1 hb.2
 have LV : Hid (looksV st b = if b ≤ 12 then 1 else if st = false then 0 else if b < 100 then 2 else 3) := rfl
 clear hb
 by_cases h1 : b ≤ 12
 ·have E : Hid (looksV st b = 1) := by show _ = _; rw [LV.out, if_pos h1]
  clear LV
  go_enter Tryz.func126, Tryz.ntmps126
  go_wp2_with (go_at_call 34; refine (l1In_any _ _ _ _).mono ?_; rintro e w' ⟨rfl, rfl⟩; rw [I1.out])
  go_ret
  exact ⟨by rw [E.out]; rfl, rfl⟩
 ·cases st
  ·have E : Hid (looksV false b = 0) := by show _ = _; rw [LV.out, if_neg h1]; rfl
   clear LV
   go_enter Tryz.func126, Tryz.ntmps126
   go_wp2_with (go_at_call 34; refine (l1In_any _ _ _ _).mono ?_; rintro e w' ⟨rfl, rfl⟩; rw [I1.out])
   go_ret
   exact ⟨by rw [E.out]; rfl, rfl⟩
  ·by_cases h2 : b < 100
   ·have E : Hid (looksV true b = 2) := by show _ = _; rw [LV.out, if_neg h1, if_neg (by decide), if_pos h2]
    clear LV
    go_enter Tryz.func126, Tryz.ntmps126
    go_wp2_with (go_at_call 34; refine (l1In_any _ _ _ _).mono ?_; rintro e w' ⟨rfl, rfl⟩; rw [I1.out])
    go_ret
    exact ⟨by rw [E.out]; rfl, rfl⟩
   ·have E : Hid (looksV true b = 3) := by show _ = _; rw [LV.out, if_neg h1, if_neg (by decide), if_neg h2]
    clear LV
    go_enter Tryz.func126, Tryz.ntmps126
    go_wp2_with (go_at_call 34; refine (l1In_any _ _ _ _).mono ?_; rintro e w' ⟨rfl, rfl⟩; rw [I1.out])
    go_ret
    exact ⟨by rw [E.out]; rfl, rfl⟩
theorem specCost_any (b c : Int) (hb : 0 ≤ b ∧ b ≤ 10000) (hc : (0 ≤ c ∧ c ≤ 10000) ∨ c = -10000) (w : World) : Calls Tryz.prog 127 #[.int .i64 b, .int .i64 c] w fun e w' => e = .returned (.int .i64 (costV b c)) ∧ w = w' := by
 have I1 : Hid (inB b 0 10000 = true) := inB_yes hb.1 hb.2
 have CO : Hid (costV b c = (10 + b) * (10 + b) + (if c = -10000 then 0 else c * c)) := rfl
 have p1 := prod_bd (a := 10 + b) (b := 10 + b) (A := 10010) (B := 10010) (by omega) (by omega) (by omega) (by omega)
 have w1 := i64_ok _ (show 0 ≤ (10 + b) * (10 + b) ∧ (10 + b) * (10 + b) ≤ 1000000000000000000 by omega)
 obtain ⟨b1, b2⟩ := hb
 rcases hc with ⟨c1, c2⟩ | rfl
 ·have p2 := prod_bd c1 c2 c1 c2
  have w2 := i64_ok (c * c) (by omega)
  have w3 := i64_ok ((10 + b) * (10 + b) + c * c) (by omega)
  have I2 : Hid (inB c 0 10000 = true) := inB_yes c1 c2
  by_cases h0 : 0 < c
  ·have E : Hid (costV b c = (10 + b) * (10 + b) + c * c) := by show _ = _; rw [CO.out, if_neg (by omega)]
   clear CO p1 p2
   go_enter Tryz.func127, Tryz.ntmps127
   go_wp2_with (go_at_call 34; refine (l1In_any _ _ _ _).mono ?_; rintro e w' ⟨rfl, rfl⟩; first | rw [I1.out] | rw [I2.out])
   go_ret
   exact ⟨by rw [E.out]; rfl, rfl⟩
  ·have E : Hid (costV b c = (10 + b) * (10 + b)) := by
    show _ = _
    rw [CO.out, if_neg (by omega), show c = 0 by omega]
    simp
   clear CO p1 p2
   go_enter Tryz.func127, Tryz.ntmps127
   go_wp2_with (go_at_call 34; refine (l1In_any _ _ _ _).mono ?_; rintro e w' ⟨rfl, rfl⟩; first | rw [I1.out] | rw [I2.out])
   go_ret
   exact ⟨by rw [E.out]; rfl, rfl⟩
 ·have I2 : Hid (inB (-10000) 0 10000 = false) := inB_no (by omega)
  have E : Hid (costV b (-10000) = (10 + b) * (10 + b)) := by show _ = _; rw [CO.out, if_pos rfl, Int.add_zero]
  clear CO p1
  go_enter Tryz.func127, Tryz.ntmps127
  go_wp2_with (go_at_call 34; refine (l1In_any _ _ _ _).mono ?_; rintro e w' ⟨rfl, rfl⟩; first | rw [I1.out] | rw [I2.out])
  go_ret
  exact ⟨by rw [E.out]; rfl, rfl⟩
end Go.Proofs.YtofnchdijanikaaGreatDoor

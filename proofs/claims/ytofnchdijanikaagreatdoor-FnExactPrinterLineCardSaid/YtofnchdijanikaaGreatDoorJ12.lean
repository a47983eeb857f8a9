/-
  PROVED HERE: what the printer's lines need, part J12. Conditions: each theorem's own.
-/
import Derived.Test.YtofnchdijanikaaGreatDoorJ11
set_option linter.unusedVariables false
set_option linter.unusedSimpArgs false
/- PrO5: PROVED HERE: the glue of a line, as the program tells it. Conditions: each theorem's own. -/
namespace Go.Proofs.YtofnchdijanikaaGreatDoor
open Go.RowKit
set_option maxRecDepth 100000 in
theorem implItemsOf_any (b off cap n a t : Nat) (xs : List DItem) (hx : PIs xs) (w : World) (hc : ItC w b off n xs) (hat : a ≤ t) (htn : t < n) : Calls Tryz.prog 107 #[.slice (some ⟨b, off, none⟩) n cap, .int .i64 ((a : Int) - 1), .int .i64 t] w (NumsPost (ints (lineX xs a t)) w) := by
 have LI := Lib.hid (implLine_any b off cap n a t xs hx w hc hat htn)
 clear hx hc
 go_enter Tryz.func107, Tryz.ntmps107
 go_wp2_with (go_at_call 139; refine LI.out.mono ?_; rintro e w2 ⟨v, rfl, hown, hbel⟩)
 go_ret
 exact ⟨_, rfl, hown, hbel⟩
theorem info_Glue : (Tryz.prog.info? 71).map (fun i => (i.zero, i.size, i.bytes)) = some (some (.agg #[.int .i64 0, .int .i64 0, .int .i64 0, .int .i64 0]), 4, 32) := by kernel_rfl
/-- The call's own row of these glues. -/
def OwnG (w : World) (B : Nat) (v : Value) (gs : List DGlue) : Prop := w.ownsRow B 71 4 v gs.length (gs.flatMap encG)
theorem OwnG.nil (w : World) (B : Nat) : OwnG w B (.slice none 0 0) [] := ⟨rfl, .inl ⟨rfl, rfl⟩⟩
theorem OwnG.row {w : World} {B : Nat} {v : Value} {gs : List DGlue} (h : OwnG w B v gs) : SRow 4 encG w v gs := SRow.of_owns encG_len rfl h
/-- One glue more. -/
theorem append_glue (w wr : World) {ops : Array Oper} {rest : List Oper} {o : Oper} {a : Act} {Q : Exit → Act → World → Prop} (hgd : o.guard = none) (s x : Operand)
  (ho : o.op = .call { callee := .builtin .append, args := #[s, x], argTypes := #[202, 202] }) (B : Nat) (v : Value) (gs : List DGlue) (g : DGlue)
  (hs : a.eval s = v) (hx : a.eval x = .slice (some ⟨wr.heap.size, 0, none⟩) 1 1) (hown : OwnG wr B v gs) (hn : gs.length ≤ 4000000) (hB : B ≤ w.heap.size) (hb : Below B w wr)
  (h : ∀ v' w', OwnG w' B v' (gs ++ [g]) → Below B w w' → Moved (wr.alloc (.cells #[.int .i64 g.w, .int .i64 g.st, .int .i64 g.sh, .int .i64 g.od] 71)) v v' → wr.grownBy w' v.ownBlock → wpList Tryz.prog ops Q rest (a.put o.dst v') w') :
  wpList Tryz.prog ops Q (o :: rest) a (wr.alloc (.cells #[.int .i64 g.w, .int .i64 g.st, .int .i64 g.sh, .int .i64 g.od] 71)) := by
 obtain ⟨i0, hi, hz0, hz1, hz2⟩ := info_parts info_Glue
 have hws := hb.size
 refine append_mine _ hgd s x 202 ho B 71 i0 (.agg #[.int .i64 0, .int .i64 0, .int .i64 0, .int .i64 0]) 4 32 Tryz.underlying202 hi hz0 hz1 hz2 rfl (by decide) v gs.length _ hs (World.ownsRow.alloc hown _) ⟨wr.heap.size, 0, none⟩ 1 1 [.int .i64 g.w, .int .i64 g.st, .int .i64 g.sh, .int .i64 g.od] hx rfl (by simpa using cells_new wr [_, _, _, _] _) (by intro u hu; simp at hu; rcases hu with rfl | rfl | rfl | rfl <;> rfl) (by unfold maxLen; omega) (by omega) (by simp; omega) ?_
 intro v' w' h1 h2 h3
 refine h v' w' ?_ ?_ h3 (grownBy_trans (World.grownBy_alloc wr _ _) h2)
 ·unfold OwnG
  rw [List.length_append, List.flatMap_append]
  exact h1
 ·exact below_append hb hB hown h2
/-- It returns a glue and a Bool. -/
def GlOkPost (xs : List DItem) (a t : Nat) (w : World) (e : Ending) (w' : World) : Prop := e = .returned (.tuple #[glV (if lineB xs a t = true then lineG xs a t else zG), .bool (lineB xs a t)]) ∧ Below w.heap.size w w'
def spc (xs : List DItem) (l : List Nat) : List DGlue := l.map fun k => (it xs k).space
theorem spc_take (xs : List DItem) (l : List Nat) (k : Nat) (h : k < l.length) : spc xs (l.take (k + 1)) = spc xs (l.take k) ++ [(it xs (l.getD k 0)).space] := by
 unfold spc
 rw [List.take_succ_eq_append_getElem h, List.map_append]
 simp [List.getD, h]
set_option maxRecDepth 100000 in
set_option maxHeartbeats 16000000 in
theorem implGlueOf_any (b off cap n a t : Nat) (xs : List DItem) (hx : PIs xs) (w : World) (hc : ItC w b off n xs) (hat : a ≤ t) (htn : t < n) : Calls Tryz.prog 191 #[.slice (some ⟨b, off, none⟩) n cap, .int .i64 ((a : Int) - 1), .int .i64 t] w (GlOkPost xs a t w) := by
 have n60 : n ≤ 60 := by rw [hc.1]; exact hx.len
 have HX := Lib.hid hx
 have HC := Lib.hid hc
 have HL := Lib.hid (show lineG xs a t = sumG (gluesTo xs (start xs a) t ++ (if (it xs t).kind = 3 then [(it xs t).space] else [])) from rfl)
 have IG := Lib.hid (ixTo_glues xs (start xs a) t)
 have IL := Lib.hid (ixTo_lt xs (start xs a) t)
 have IN := ixTo_len xs (start xs a) t
 have GO := Lib.hid (gluesTo_ok hx.ok (start xs a) t (by rw [← hc.1]; omega))
 have PT := hx.at (j := t) (by rw [← hc.1]; exact htn)
 have R0 := GlOwn.made w (B := w.heap.size) (Nat.le_refl _) 0 0 0 0
 have B0 := (Below.refl w.heap.size w).alloc (Nat.le_refl _) (.cells #[.int .i64 0, .int .i64 0, .int .i64 0, .int .i64 0] 71)
 have LI := Lib.hid (implLine_any b off cap n a t xs hx (w.alloc (.cells #[.int .i64 0, .int .i64 0, .int .i64 0, .int .i64 0] 71)) (hc.below ((Below.refl w.heap.size w).alloc (Nat.le_refl _) (.cells #[.int .i64 0, .int .i64 0, .int .i64 0, .int .i64 0] 71))) hat htn)
 have XY := Lib.hid (fun h => lineX_yes (xs := xs) (a := a) (t := t) h)
 obtain ⟨s, hs⟩ : ∃ s, s = start xs a := ⟨_, rfl⟩
 rw [← hs] at HL IG IL IN GO XY
 clear hx hs
 have gt := PT.ok.1
 have HR0 := Lib.hid R0
 have HB0 := Lib.hid B0
 clear R0 B0 hc PT
 cases hlb : lineB xs a t
 ·have E : Hid (lineB xs a t = false) := hlb
  go_enter Tryz.func191, Tryz.ntmps191
  go_wp2_with (go_at_call 139; refine LI.out.mono ?_; rintro e w2 ⟨v, rfl, hown, hbel⟩; rw [hlb]; have R2 := HR0.out.keep hbel; obtain ⟨r0, r1, r2, r3⟩ := R2.cells; have y0 := R2.free 0; have y1 := R2.free 1; have y2 := R2.free 2; have y3 := R2.free 3; have HR2 := Lib.hid R2; clear R2)
  obtain ⟨rf0, rf1, rf2, rf3⟩ := gl_read HR2.out 0 0 0 0
  have B2 := below_next HB0.out hbel (Nat.le_refl _)
  have BF := Lib.hid (gl_put HR2.out B2 (Nat.le_refl _) 0 0 0 0)
  refine bodyPost_ret (v := .tuple #[.agg #[.int .i64 0, .int .i64 0, .int .i64 0, .int .i64 0], .bool false]) (by simp [results, Tryz.results191, go_sem, rf0, rf1, rf2, rf3]) rfl ⟨by rw [hlb]; rfl, BF.out⟩
 ·have E : Hid (lineB xs a t = true) := hlb
  have HG := Lib.hid (show (if lineB xs a t = true then lineG xs a t else zG) = lineG xs a t by rw [hlb]; rfl)
  obtain ⟨L, hL⟩ : ∃ L, L = ixTo xs s t := ⟨_, rfl⟩
  have XL : Hid (lineX xs a t = L) := by show _ = _; rw [XY.out hlb, hL]
  have LI2 := LI.out
  unfold ItemsPost at LI2
  rw [XL.out, hlb] at LI2
  have LI3 := Lib.hid LI2
  have IG2 : Hid (gluesTo xs s t = spc xs L) := by show _ = _; rw [IG.out, hL]; rfl
  rw [← hL] at IL IN
  rw [IG2.out] at HL GO
  have gok := GO.out
  clear hL LI2 LI XL hlb IG XY
  by_cases h0 : L.length = 0
  ·obtain rfl : L = [] := List.eq_nil_of_length_eq_zero h0
   go_enter Tryz.func191, Tryz.ntmps191
   go_wp2_with (go_at_call 139; refine LI3.out.mono ?_; rintro e w2 ⟨v, rfl, hown, hbel⟩; obtain ⟨la, lcap, rfl⟩ := (OwnI.row hown).empty)
   have HR2 := Lib.hid (HR0.out.keep hbel)
   have B2 := Lib.hid (below_next HB0.out hbel (Nat.le_refl _))
   obtain ⟨wr, hwr⟩ : ∃ wr, wr = w2 := ⟨_, rfl⟩
   have hog : Hid (OwnG wr w2.heap.size (.slice none 0 0) (spc xs [])) := OwnG.nil _ _
   have hb : Hid (Below w2.heap.size w2 wr) := by show Below _ _ _; rw [hwr]; exact Below.refl _ _
   rw [← hwr]
   clear hown hbel h0 hwr
   refine wp_loop_rounds 1 ?_
   rw [rounds_succ]
   have bw := below_next B2.out hb.out (Nat.le_refl _)
   obtain ⟨c0, c1, c2, c3, c4, c5, c6⟩ := (HC.out.below bw).2.2 t htn
   obtain ⟨x, hxx⟩ : ∃ x, x = it xs t := ⟨_, rfl⟩
   rw [← hxx] at c0 c1 c2 c3 c4 c5 c6 HL gt
   have HSL : (spc xs []).length ≤ 60 := by unfold spc; rw [List.length_map]; omega
   obtain ⟨GS, hGS⟩ : ∃ GS, GS = spc xs [] := ⟨_, rfl⟩
   rw [← hGS] at HSL hog HL gok
   have GL2 : GS.length ≤ 4000000 := by omega
   obtain ⟨gok1, gok2⟩ := gok
   have GOK := Lib.hid gok1
   clear hxx hGS bw gok1 gok2
   by_cases h3 : x.kind = 3
   ·have q3 : (x.kind == 3) = true := by rw [h3]; rfl
    have S2 : Hid (lineG xs a t = sumG (GS ++ [x.space])) := by show _ = _; rw [HL.out, if_pos h3]
    have GA : Hid (∀ g ∈ GS ++ [x.space], GlueOk g) := fun g hg => by
     rw [List.mem_append, List.mem_singleton] at hg
     rcases hg with hg | rfl
     ·exact GOK.out g hg
     ·exact gt
    have GN : (GS ++ [x.space]).length ≤ 61 := by rw [List.length_append]; simp; omega
    obtain ⟨C, hC⟩ : ∃ C, C = sumG (GS ++ [x.space]) := ⟨_, rfl⟩
    have TT := Lib.hid (fun v w (h : SRow 4 encG w v (GS ++ [x.space])) => implTotal_any v (GS ++ [x.space]) w h GA.out GN)
    rw [← hC] at S2 TT
    unfold GluePost glV at TT
    clear h3 hC HL gt
    go_wp2_with (first | (at_builtin; refine append_glue w2 wr rfl _ _ rfl w2.heap.size (.slice none 0 0) GS x.space rfl rfl hog.out GL2 (Nat.le_refl _) hb.out ?_; intro v' w5 hown' hbel hmv hgr) | (go_at_call 194; refine (TT.out _ _ hown'.row).mono ?_; rintro e w6 ⟨rfl, hb6⟩; have R6 := (HR2.out.keep hbel).keep hb6; obtain ⟨r0, r1, r2, r3⟩ := R6.cells; have y0 := R6.free 0; have y1 := R6.free 1; have y2 := R6.free 2; have y3 := R6.free 3; have HR6 := Lib.hid R6; clear R6))
    obtain ⟨rf0, rf1, rf2, rf3⟩ := gl_read HR6.out C.w C.st C.sh C.od
    have BF := Lib.hid (gl_put HR6.out (below_next (below_next B2.out hbel (Nat.le_refl _)) hb6 (Nat.le_refl _)) (Nat.le_refl _) C.w C.st C.sh C.od)
    refine bodyPost_ret (v := .tuple #[.agg #[.int .i64 C.w, .int .i64 C.st, .int .i64 C.sh, .int .i64 C.od], .bool true]) (by simp [results, Tryz.results191, go_sem, rf0, rf1, rf2, rf3]) rfl ⟨by rw [HG.out, E.out, S2.out]; rfl, BF.out⟩
   ·have q3 : (x.kind == 3) = false := by rw [beq_eq_false_iff_ne]; exact h3
    have S2 : Hid (lineG xs a t = sumG GS) := by show _ = _; rw [HL.out, if_neg h3, List.append_nil]
    have GN : GS.length ≤ 61 := by omega
    obtain ⟨C, hC⟩ : ∃ C, C = sumG GS := ⟨_, rfl⟩
    have TT := Lib.hid (fun v w (h : SRow 4 encG w v GS) => implTotal_any v GS w h GOK.out GN)
    rw [← hC] at S2 TT
    unfold GluePost glV at TT
    clear h3 hC HL gt
    go_wp2_with (go_at_call 194; refine (TT.out _ _ hog.out.row).mono ?_; rintro e w6 ⟨rfl, hb6⟩; have R6 := (HR2.out.keep hb.out).keep hb6; obtain ⟨r0, r1, r2, r3⟩ := R6.cells; have y0 := R6.free 0; have y1 := R6.free 1; have y2 := R6.free 2; have y3 := R6.free 3; have HR6 := Lib.hid R6; clear R6)
    obtain ⟨rf0, rf1, rf2, rf3⟩ := gl_read HR6.out C.w C.st C.sh C.od
    have BF := Lib.hid (gl_put HR6.out (below_next (below_next B2.out hb.out (Nat.le_refl _)) hb6 (Nat.le_refl _)) (Nat.le_refl _) C.w C.st C.sh C.od)
    refine bodyPost_ret (v := .tuple #[.agg #[.int .i64 C.w, .int .i64 C.st, .int .i64 C.sh, .int .i64 C.od], .bool true]) (by simp [results, Tryz.results191, go_sem, rf0, rf1, rf2, rf3]) rfl ⟨by rw [HG.out, E.out, S2.out]; rfl, BF.out⟩
  ·obtain ⟨m, hm⟩ : ∃ m, m = L.length := ⟨_, rfl⟩
   have m0 : 0 < m := by omega
   have m60 : m ≤ 60 := by omega
   have HM := Lib.hid hm
   have HML : Hid (m = (ints L).length) := by show _ = _; rw [ints_len, hm]
   have IGD := Lib.hid (fun j (hj : j < m) => ints_getD L j (by rw [← hm]; exact hj))
   have IL2 := Lib.hid (fun j (hj : j < m) => IL.out (L.getD j 0) (by have e : L.getD j 0 = L[j]'(by rw [← hm]; exact hj) := getD_eq L 0 j (by rw [← hm]; exact hj); rw [e]; exact List.getElem_mem _))
   have ST := Lib.hid (fun k (hk : k < m) => spc_take xs L k (by rw [← hm]; exact hk))
   have LF : Hid (L.take m = L) := by show _ = _; rw [hm, List.take_length]
   have GLN : Hid (∀ k, (spc xs (L.take k)).length ≤ 60) := fun k => by unfold spc; rw [List.length_map, List.length_take]; omega
   clear hm h0
   go_enter Tryz.func191, Tryz.ntmps191
   go_wp2_with (go_at_call 139; refine LI3.out.mono ?_; rintro e w2 ⟨v, rfl, hown, hbel⟩; obtain ⟨lb, lcap, rfl, hll, hlg, LC⟩ := nums_pos HML.out m0 hown)
   have HR2 := Lib.hid (HR0.out.keep hbel)
   have B2 := Lib.hid (below_next HB0.out hbel (Nat.le_refl _))
   have O2 : Hid (OwnG w2 w2.heap.size (.slice none 0 0) (spc xs (L.take 0))) := OwnG.nil _ _
   clear hown hbel hlg
   go_loopw [10, 25] (fun v i wr => ∃ k : Nat, k ≤ m ∧ i = .int .i64 k ∧ Hid (OwnG wr w2.heap.size v (spc xs (L.take k))) ∧ Hid (Below w2.heap.size w2 wr)) (fun _ i _ => m - (intOf i).toNat)
   case atStart => exact ⟨0, Nat.zero_le _, rfl, O2.out, Below.refl _ _⟩
   case round =>
    obtain ⟨k, hk, rfl, hog, hb⟩ := hrel
    clear O2
    by_cases hlt : k < m
    ·have l0 : wr.cell? ⟨lb, k, none⟩ = some (.int .i64 ((ints L).getD k 0)) := (hb.out.cell (p := ⟨lb, k, none⟩) hll).trans (LC.out k hlt)
     rw [IGD.out k hlt] at l0
     have pt := IL2.out k hlt
     have GL := GLN.out k
     have SN := Lib.hid (ST.out k hlt)
     obtain ⟨p, hp⟩ : ∃ p, p = L.getD k 0 := ⟨_, rfl⟩
     rw [← hp] at l0 pt SN
     have pn : p < n := by omega
     have bw := below_next B2.out hb.out (Nat.le_refl _)
     obtain ⟨c0, c1, c2, c3, c4, c5, c6⟩ := (HC.out.below bw).2.2 p pn
     obtain ⟨x, hxx⟩ : ∃ x, x = it xs p := ⟨_, rfl⟩
     rw [← hxx] at c0 c1 c2 c3 c4 c5 c6 SN
     obtain ⟨GS, hGS⟩ : ∃ GS, GS = spc xs (L.take k) := ⟨_, rfl⟩
     rw [← hGS] at SN hog GL
     have GL2 : GS.length ≤ 4000000 := by omega
     clear hp hxx hGS bw GL
     go_wp2_with (at_builtin; refine append_glue w2 wr rfl _ _ rfl w2.heap.size u10 GS x.space rfl rfl hog.out GL2 (Nat.le_refl _) hb.out ?_; intro v' w5 hown' hbel hmv hgr)
     go_roundw
     case rel => exact ⟨k + 1, by omega, by go_num, by rw [SN.out]; exact hown', hbel⟩
     case measure => simp [intOf]; omega
    ·obtain rfl : k = m := by omega
     rw [LF.out] at hog
     clear LC hll
     have bw := below_next B2.out hb.out (Nat.le_refl _)
     obtain ⟨c0, c1, c2, c3, c4, c5, c6⟩ := (HC.out.below bw).2.2 t htn
     obtain ⟨x, hxx⟩ : ∃ x, x = it xs t := ⟨_, rfl⟩
     rw [← hxx] at c0 c1 c2 c3 c4 c5 c6 HL gt
     have HSL : (spc xs L).length ≤ 60 := by unfold spc; rw [List.length_map]; omega
     obtain ⟨GS, hGS⟩ : ∃ GS, GS = spc xs L := ⟨_, rfl⟩
     rw [← hGS] at HSL hog HL gok
     have GL2 : GS.length ≤ 4000000 := by omega
     obtain ⟨gok1, gok2⟩ := gok
     have GOK := Lib.hid gok1
     clear hxx hGS bw gok1 gok2
     by_cases h3 : x.kind = 3
     ·have q3 : (x.kind == 3) = true := by rw [h3]; rfl
      have S2 : Hid (lineG xs a t = sumG (GS ++ [x.space])) := by show _ = _; rw [HL.out, if_pos h3]
      have GA : Hid (∀ g ∈ GS ++ [x.space], GlueOk g) := fun g hg => by
       rw [List.mem_append, List.mem_singleton] at hg
       rcases hg with hg | rfl
       ·exact GOK.out g hg
       ·exact gt
      have GN : (GS ++ [x.space]).length ≤ 61 := by rw [List.length_append]; simp; omega
      obtain ⟨C, hC⟩ : ∃ C, C = sumG (GS ++ [x.space]) := ⟨_, rfl⟩
      have TT := Lib.hid (fun v w (h : SRow 4 encG w v (GS ++ [x.space])) => implTotal_any v (GS ++ [x.space]) w h GA.out GN)
      rw [← hC] at S2 TT
      unfold GluePost glV at TT
      clear h3 hC HL gt
      go_wp2_with (first | (at_builtin; refine append_glue w2 wr rfl _ _ rfl w2.heap.size u10 GS x.space rfl rfl hog.out GL2 (Nat.le_refl _) hb.out ?_; intro v' w5 hown' hbel hmv hgr) | (go_at_call 194; refine (TT.out _ _ hown'.row).mono ?_; rintro e w6 ⟨rfl, hb6⟩; have R6 := (HR2.out.keep hbel).keep hb6; obtain ⟨r0, r1, r2, r3⟩ := R6.cells; have y0 := R6.free 0; have y1 := R6.free 1; have y2 := R6.free 2; have y3 := R6.free 3; have HR6 := Lib.hid R6; clear R6))
      obtain ⟨rf0, rf1, rf2, rf3⟩ := gl_read HR6.out C.w C.st C.sh C.od
      have BF := Lib.hid (gl_put HR6.out (below_next (below_next B2.out hbel (Nat.le_refl _)) hb6 (Nat.le_refl _)) (Nat.le_refl _) C.w C.st C.sh C.od)
      refine bodyPost_ret (v := .tuple #[.agg #[.int .i64 C.w, .int .i64 C.st, .int .i64 C.sh, .int .i64 C.od], .bool true]) (by simp [results, Tryz.results191, go_sem, rf0, rf1, rf2, rf3]) rfl ⟨by rw [HG.out, E.out, S2.out]; rfl, BF.out⟩
     ·have q3 : (x.kind == 3) = false := by rw [beq_eq_false_iff_ne]; exact h3
      have S2 : Hid (lineG xs a t = sumG GS) := by show _ = _; rw [HL.out, if_neg h3, List.append_nil]
      have GN : GS.length ≤ 61 := by omega
      obtain ⟨C, hC⟩ : ∃ C, C = sumG GS := ⟨_, rfl⟩
      have TT := Lib.hid (fun v w (h : SRow 4 encG w v GS) => implTotal_any v GS w h GOK.out GN)
      rw [← hC] at S2 TT
      unfold GluePost glV at TT
      clear h3 hC HL gt
      go_wp2_with (go_at_call 194; refine (TT.out _ _ hog.out.row).mono ?_; rintro e w6 ⟨rfl, hb6⟩; have R6 := (HR2.out.keep hb.out).keep hb6; obtain ⟨r0, r1, r2, r3⟩ := R6.cells; have y0 := R6.free 0; have y1 := R6.free 1; have y2 := R6.free 2; have y3 := R6.free 3; have HR6 := Lib.hid R6; clear R6)
      obtain ⟨rf0, rf1, rf2, rf3⟩ := gl_read HR6.out C.w C.st C.sh C.od
      have BF := Lib.hid (gl_put HR6.out (below_next (below_next B2.out hb.out (Nat.le_refl _)) hb6 (Nat.le_refl _)) (Nat.le_refl _) C.w C.st C.sh C.od)
      refine bodyPost_ret (v := .tuple #[.agg #[.int .i64 C.w, .int .i64 C.st, .int .i64 C.sh, .int .i64 C.od], .bool true]) (by simp [results, Tryz.results191, go_sem, rf0, rf1, rf2, rf3]) rfl ⟨by rw [HG.out, E.out, S2.out]; rfl, BF.out⟩
end Go.Proofs.YtofnchdijanikaaGreatDoor
/- PrO6: PROVED HERE: how bad a line is, as the program tells. Conditions: each theorem's own. -/
namespace Go.Proofs.YtofnchdijanikaaGreatDoor
open Go.RowKit
def lineBad (xs : List DItem) (a t : Nat) (wd : Int) : Int × Bool := if lineB xs a t = true then setB (lineG xs a t) wd else (-1, false)
set_option maxRecDepth 100000 in
set_option maxHeartbeats 8000000 in
theorem implLineBad_any (b off cap n a t : Nat) (xs : List DItem) (hx : PIs xs) (w : World) (hc : ItC w b off n xs) (hat : a ≤ t) (htn : t < n) (wd : Int) (hw : 0 ≤ wd ∧ wd ≤ 1000) : Calls Tryz.prog 184 #[.slice (some ⟨b, off, none⟩) n cap, .int .i64 ((a : Int) - 1), .int .i64 t, .int .i64 wd] w (BadPost (lineBad xs a t wd) w) := by
 have bd := lineG_bd hx.ok a t (by rw [← hc.1]; exact htn)
 have GL := implGlueOf_any b off cap n a t xs hx w hc hat htn
 have IN : Hid (inB wd 0 1000 = true) := inB_yes hw.1 hw.2
 have LD : Hid (lineBad xs a t wd = if lineB xs a t = true then setB (lineG xs a t) wd else (-1, false)) := rfl
 generalize hR : lineBad xs a t wd = R at LD ⊢
 unfold GlOkPost at GL
 obtain ⟨w1, w2⟩ := hw
 clear hR hx hc
 cases hlb : lineB xs a t
 ·have E : Hid (R = (-1, false)) := by show _ = _; rw [LD.out, hlb]; rfl
  rw [hlb] at GL
  unfold glV zG at GL
  simp only [Bool.false_eq_true, if_false] at GL
  have G2 := Lib.hid GL
  clear GL hlb LD bd
  go_enter Tryz.func184, Tryz.ntmps184
  go_wp2_with (go_at_call 191; refine G2.out.mono ?_; rintro e w3 ⟨rfl, hb3⟩)
  go_ret2
  exact ⟨by rw [E.out]; rfl, hb3.alloc (by have := hb3.size; omega) _⟩
 ·have LD2 := LD.out
  rw [hlb, if_pos rfl] at LD2
  rw [hlb] at GL
  simp only [if_true] at GL
  obtain ⟨C, hC⟩ : ∃ C, C = lineG xs a t := ⟨_, rfl⟩
  rw [← hC] at GL LD2 bd
  clear hC hlb LD
  obtain ⟨cw, cst, csh, cod⟩ := C
  unfold GlueSm at bd
  simp only at bd
  obtain ⟨⟨b1, b2, b3, b4, b5, b6, b7⟩, b8, b9, b10⟩ := bd
  unfold glV at GL
  simp only at GL
  have G2 := Lib.hid GL
  have SB : setB ⟨cw, cst, csh, cod⟩ wd = if cw ≤ wd then (if cod = 1 then (0, true) else (badV (wd - cw) cst, true)) else if cw - csh > wd then (-1, false) else (badV (cw - wd) csh, false) := rfl
  rw [SB] at LD2
  have LD3 := Lib.hid LD2
  clear GL LD2 SB
  by_cases h1 : cw ≤ wd
  ·by_cases h2 : cod = 1
   ·have E : Hid (R = (0, true)) := by show _ = _; rw [LD3.out, if_pos h1, if_pos h2]
    have q2 : (cod == 1) = true := by rw [h2]; rfl
    clear h2
    go_enter Tryz.func184, Tryz.ntmps184
    go_wp2_with (first | (go_at_call 191; refine G2.out.mono ?_; rintro e w3 ⟨rfl, hb3⟩) | (go_at_call 57; refine (in_any _ _ _ _).mono ?_; rintro e w' ⟨rfl, rfl⟩; rw [IN.out]))
    go_ret2
    exact ⟨by rw [E.out]; rfl, hb3.alloc (by have := hb3.size; omega) _⟩
   ·have E : Hid (R = (badV (wd - cw) cst, true)) := by show _ = _; rw [LD3.out, if_pos h1, if_neg h2]
    have q2 : (cod == 1) = false := by rw [beq_eq_false_iff_ne]; exact h2
    have BV := Lib.hid (fun w => implBad_any (wd - cw) cst (by omega) (by omega) w)
    clear h2
    go_enter Tryz.func184, Tryz.ntmps184
    go_wp2_with (first | (go_at_call 191; refine G2.out.mono ?_; rintro e w3 ⟨rfl, hb3⟩) | (go_at_call 57; refine (in_any _ _ _ _).mono ?_; rintro e w' ⟨rfl, rfl⟩; rw [IN.out]) | (go_at_call 192; refine (BV.out _).mono ?_; rintro e w' ⟨rfl, rfl⟩))
    go_ret2
    exact ⟨by rw [E.out]; rfl, hb3.alloc (by have := hb3.size; omega) _⟩
  ·by_cases h2 : cw - csh > wd
   ·have E : Hid (R = (-1, false)) := by show _ = _; rw [LD3.out, if_neg h1, if_pos h2]
    have h2' : ¬ cw - wd ≤ csh := by omega
    clear h2
    go_enter Tryz.func184, Tryz.ntmps184
    go_wp2_with (first | (go_at_call 191; refine G2.out.mono ?_; rintro e w3 ⟨rfl, hb3⟩) | (go_at_call 57; refine (in_any _ _ _ _).mono ?_; rintro e w' ⟨rfl, rfl⟩; rw [IN.out]))
    go_ret2
    exact ⟨by rw [E.out]; rfl, hb3.alloc (by have := hb3.size; omega) _⟩
   ·have E : Hid (R = (badV (cw - wd) csh, false)) := by show _ = _; rw [LD3.out, if_neg h1, if_neg h2]
    have h2' : cw - wd ≤ csh := by omega
    have BV := Lib.hid (fun w => implBad_any (cw - wd) csh (by omega) (by omega) w)
    clear h2
    go_enter Tryz.func184, Tryz.ntmps184
    go_wp2_with (first | (go_at_call 191; refine G2.out.mono ?_; rintro e w3 ⟨rfl, hb3⟩) | (go_at_call 57; refine (in_any _ _ _ _).mono ?_; rintro e w' ⟨rfl, rfl⟩; rw [IN.out]) | (go_at_call 192; refine (BV.out _).mono ?_; rintro e w' ⟨rfl, rfl⟩))
    go_ret2
    exact ⟨by rw [E.out]; rfl, hb3.alloc (by have := hb3.size; omega) _⟩
end Go.Proofs.YtofnchdijanikaaGreatDoor
/- PrO7: PROVED HERE: what a line costs behind another one, as the program tells. Conditions: each theorem's own. -/
namespace Go.Proofs.YtofnchdijanikaaGreatDoor
open Go.RowKit
theorem own3 {w : World} {base g : Nat} {E : TypeId} {x y z : Value} (h : w.ownsRow base E 3 (.slice (some ⟨g, 0, none⟩) 1 1) 1 [x, y, z]) : w.cell? ⟨g, 0, none⟩ = some x ∧ w.cell? ⟨g, 1, none⟩ = some y ∧ w.cell? ⟨g, 2, none⟩ = some z :=
 ⟨h.cellAt 0 (by omega), h.cellAt 1 (by omega), h.cellAt 2 (by omega)⟩
theorem own3_made (w : World) {B : Nat} (hB : B ≤ w.heap.size) (E : TypeId) (x y z : Value) : (w.alloc (.cells #[x, y, z] E)).ownsRow B E 3 (.slice (some ⟨w.heap.size, 0, none⟩) 1 1) 1 [x, y, z] :=
 ⟨rfl, .inr ⟨w.heap.size, 1, #[x, y, z], rfl, hB, heap_alloc_new w _, Nat.le_refl _, by unfold maxLen; omega, rfl, rfl⟩⟩
theorem own3_put {w0 w : World} {base g : Nat} {E : TypeId} {x y z : Value} (h : w.ownsRow base E 3 (.slice (some ⟨g, 0, none⟩) 1 1) 1 [x, y, z]) (hb : Below w0.heap.size w0 w) (hg : w0.heap.size ≤ g) (a b c : Value) :
  Below w0.heap.size w0 (((w.setCell ⟨g, 0, none⟩ a).setCell ⟨g, 1, none⟩ b).setCell ⟨g, 2, none⟩ c) := by
 have s0 := h.stored 0 a
 have s1 := s0.1.stored 1 b
 have s2 := s1.1.stored 2 c
 have h0 := hb.size
 have h1 := s0.2.size
 have h2 := s1.2.size
 exact ((hb.grown s0.2 h0 (fun j hj => by cases hj; exact hg)).grown s1.2 (by omega) (fun j hj => by cases hj; exact hg)).grown s2.2 (by omega) (fun j hj => by cases hj; exact hg)
theorem own3_read {w : World} {base g : Nat} {E : TypeId} {x y z : Value} (h : w.ownsRow base E 3 (.slice (some ⟨g, 0, none⟩) 1 1) 1 [x, y, z]) (a b c : Value) :
  (w.setCell ⟨g, 0, none⟩ a).cell? ⟨g, 0, none⟩ = some a ∧ ((w.setCell ⟨g, 0, none⟩ a).setCell ⟨g, 1, none⟩ b).cell? ⟨g, 1, none⟩ = some b ∧ (((w.setCell ⟨g, 0, none⟩ a).setCell ⟨g, 1, none⟩ b).setCell ⟨g, 2, none⟩ c).cell? ⟨g, 2, none⟩ = some c := by
 have s0 := h.stored 0 a
 have s1 := s0.1.stored 1 b
 have s2 := s1.1.stored 2 c
 exact ⟨s0.1.cellAt 0 (by omega), s1.1.cellAt 1 (by omega), s2.1.cellAt 2 (by omega)⟩
/-- Where a line ends, whether there is a mark, how it looks. -/
def endV (at' : Int) (m : Bool) (lk : Int) : Value := .agg #[.int .i64 at', .bool m, .int .i64 lk]
/-- What lineCost returns. -/
def costV2 (xs : List DItem) (wd most : Int) (a t : Nat) (bl : Int) : Value :=
 match lineC xs wd most a t with
 | none => .tuple #[.int .i64 (-1), endV 0 false 0]
 | some (c, lk) => .tuple #[.int .i64 (c + between xs a t bl lk), endV t (it xs t).mark lk]
theorem lineC_is (xs : List DItem) (wd most : Int) (a t : Nat) : lineC xs wd most a t = if (lineBad xs a t wd).1 < 0 ∨ most < (lineBad xs a t wd).1 then none else some (costV (lineBad xs a t wd).1 (it xs t).cost, looksV (lineBad xs a t wd).2 (lineBad xs a t wd).1) := by
 unfold lineC lineBad
 by_cases h : lineB xs a t = true
 ·rw [if_pos h, if_pos h]
 ·rw [if_neg h, if_neg h, if_pos (.inl (by show (-1 : Int) < 0; decide))]
set_option maxRecDepth 100000 in
set_option maxHeartbeats 16000000 in
theorem implCostOf_any (b off cap n a t : Nat) (xs : List DItem) (hx : PIs xs) (w : World) (hc : ItC w b off n xs) (hat : a ≤ t) (htn : t < n) (wd most : Int) (hw : 0 ≤ wd ∧ wd ≤ 1000) (hm : 0 ≤ most ∧ most ≤ 10000) (bm : Bool) (bl : Int) (hbm : 0 < a → bm = (it xs (a - 1)).mark) (hbl : 0 ≤ bl ∧ bl ≤ 3) :
  Calls Tryz.prog 165 #[.slice (some ⟨b, off, none⟩) n cap, .int .i64 wd, .int .i64 most, .agg #[.int .i64 ((a : Int) - 1), .bool bm, .int .i64 bl], .int .i64 t] w (Ret (costV2 xs wd most a t bl) w) := by
 obtain ⟨A, hA⟩ : ∃ A, A = (a : Int) - 1 := ⟨_, rfl⟩
 have LB0 := fun w hc => implLineBad_any b off cap n a t xs hx w hc hat htn wd hw
 rw [← hA] at LB0 ⊢
 have HA := Lib.hid hA
 clear hA
 have AL1 := (Below.refl w.heap.size w).alloc (Nat.le_refl _) (.cells #[.int .i64 A, .bool bm, .int .i64 bl] 155)
 have AL2 := AL1.alloc (by simp) (.cells #[.int .i64 0, .bool false, .int .i64 0] 155)
 have RO := own3_made (w.alloc (.cells #[.int .i64 A, .bool bm, .int .i64 bl] 155)) (B := w.heap.size) (by simp) 155 (.int .i64 0) (.bool false) (.int .i64 0)
 rw [show (w.alloc (.cells #[.int .i64 A, .bool bm, .int .i64 bl] 155)).heap.size = w.heap.size + 1 by simp] at RO
 have BO : ((w.alloc (.cells #[.int .i64 A, .bool bm, .int .i64 bl] 155)).alloc (.cells #[.int .i64 0, .bool false, .int .i64 0] 155)).ownsRow w.heap.size 155 3 (.slice (some ⟨w.heap.size, 0, none⟩) 1 1) 1 [.int .i64 A, .bool bm, .int .i64 bl] := (own3_made w (B := w.heap.size) (Nat.le_refl _) _ _ _ _).alloc _
 have LBD := LB0 _ (hc.below AL2)
 have HC2 := Lib.hid (hc.below AL2)
 have HB0 := Lib.hid AL2
 have HRO := Lib.hid RO
 have HBO := Lib.hid BO
 have LC := Lib.hid (lineC_is xs wd most a t)
 have CVD : Hid (costV2 xs wd most a t bl = match lineC xs wd most a t with | none => .tuple #[.int .i64 (-1), endV 0 false 0] | some (c, lk) => .tuple #[.int .i64 (c + between xs a t bl lk), endV t (it xs t).mark lk]) := rfl
 have hcost := (hx.at (j := t) (by rw [← hc.1]; exact htn)).ok
 have hcc : (0 ≤ (it xs t).cost ∧ (it xs t).cost ≤ 10000) ∨ (it xs t).cost = -10000 := by
  rcases hcost.2 with h | h | h
  ·obtain ⟨_, _, _, _, h, _⟩ := h; omega
  ·obtain ⟨_, h, _⟩ := h; omega
  ·exact h.2.2.2.2
 have hci := item_cost hcost
 have BT : Hid (∀ lk, between xs a t bl lk = if 0 < a then (if ((it xs (a - 1)).mark && (it xs t).mark) = true then 3000 else 0) + (if 1 < max (bl - lk) (lk - bl) then 3000 else 0) else 0) := fun lk => rfl
 obtain ⟨R, hR⟩ : ∃ R, R = lineBad xs a t wd := ⟨_, rfl⟩
 rw [← hR] at LBD LC
 unfold BadPost at LBD
 obtain ⟨bad, st⟩ := R
 simp only at LBD LC
 have LBD := Lib.hid LBD
 generalize hT : costV2 xs wd most a t bl = T at CVD ⊢
 clear hT hR hx hcost RO BO AL1 AL2 hc LB0
 by_cases h1 : bad < 0
 ·have hno : bad < 0 ∨ most < bad := .inl h1
  have E : Hid (T = .tuple #[.int .i64 (-1), .agg #[.int .i64 0, .bool false, .int .i64 0]]) := by show _ = _; rw [CVD.out, LC.out, if_pos hno]; rfl
  clear hno LC CVD BT
  go_enter Tryz.func165, Tryz.ntmps165
  go_wp2_with (go_at_call 184; refine LBD.out.mono ?_; rintro e w3 ⟨rfl, hb3⟩; have R3 := owns_below HRO.out hb3; obtain ⟨r0, r1, r2⟩ := own3 R3; have y0 := World.ownsRow.frozenAt R3 0; have y1 := World.ownsRow.frozenAt R3 1; have y2 := World.ownsRow.frozenAt R3 2; have B3 := owns_below HBO.out hb3; obtain ⟨k0, k1, k2⟩ := own3 B3; have HR3 := Lib.hid R3; clear R3 B3)
  obtain ⟨rf0, rf1, rf2⟩ := own3_read HR3.out (.int .i64 0) (.bool false) (.int .i64 0)
  have BF := Lib.hid (own3_put HR3.out (below_next HB0.out hb3 (Nat.le_refl _)) (Nat.le_succ _) (.int .i64 0) (.bool false) (.int .i64 0))
  refine bodyPost_ret (v := .tuple #[.int .i64 (-1), .agg #[.int .i64 0, .bool false, .int .i64 0]]) (by simp [results, Tryz.results165, go_sem, rf0, rf1, rf2]) rfl ⟨by rw [E.out], BF.out⟩
 ·by_cases h2 : most < bad
  ·have hno : bad < 0 ∨ most < bad := .inr h2
   have E : Hid (T = .tuple #[.int .i64 (-1), .agg #[.int .i64 0, .bool false, .int .i64 0]]) := by show _ = _; rw [CVD.out, LC.out, if_pos hno]; rfl
   clear hno LC CVD BT
   go_enter Tryz.func165, Tryz.ntmps165
   go_wp2_with (go_at_call 184; refine LBD.out.mono ?_; rintro e w3 ⟨rfl, hb3⟩; have R3 := owns_below HRO.out hb3; obtain ⟨r0, r1, r2⟩ := own3 R3; have y0 := World.ownsRow.frozenAt R3 0; have y1 := World.ownsRow.frozenAt R3 1; have y2 := World.ownsRow.frozenAt R3 2; have B3 := owns_below HBO.out hb3; obtain ⟨k0, k1, k2⟩ := own3 B3; have HR3 := Lib.hid R3; clear R3 B3)
   obtain ⟨rf0, rf1, rf2⟩ := own3_read HR3.out (.int .i64 0) (.bool false) (.int .i64 0)
   have BF := Lib.hid (own3_put HR3.out (below_next HB0.out hb3 (Nat.le_refl _)) (Nat.le_succ _) (.int .i64 0) (.bool false) (.int .i64 0))
   refine bodyPost_ret (v := .tuple #[.int .i64 (-1), .agg #[.int .i64 0, .bool false, .int .i64 0]]) (by simp [results, Tryz.results165, go_sem, rf0, rf1, rf2]) rfl ⟨by rw [E.out], BF.out⟩
  ·have LC2 := LC.out
   rw [if_neg (fun h => by rcases h with h | h; exact h1 h; exact h2 h)] at LC2
   have E1 := CVD.out
   rw [LC2] at E1
   simp only at E1
   have lkb := looksV_bd st bad
   have LKA := Lib.hid (fun w => implLooks_any st bad (by omega) w)
   obtain ⟨cm, hcm⟩ : ∃ x, x = (it xs t).mark := ⟨_, rfl⟩
   obtain ⟨cc, hcx⟩ : ∃ x, x = (it xs t).cost := ⟨_, rfl⟩
   rw [← hcx] at E1 hcc hci
   have COA := Lib.hid (fun w => implCost_any bad cc (by omega) hcc w)
   have cvb := costV_bd (b := bad) (c := cc) (by omega) (by omega) hci.1 hci.2
   obtain ⟨lk, hlk⟩ : ∃ x, x = looksV st bad := ⟨_, rfl⟩
   rw [← hlk] at E1 lkb LKA
   obtain ⟨cv, hcv⟩ : ∃ x, x = costV bad cc := ⟨_, rfl⟩
   rw [← hcv] at E1 COA cvb
   have BL := BT.out lk
   rw [← hcm] at E1 BL
   obtain ⟨lkb1, lkb2⟩ := lkb
   obtain ⟨cvb1, cvb2⟩ := cvb
   obtain ⟨bl1, bl2⟩ := hbl
   obtain ⟨hm1, hm2⟩ := hm
   have HM6 := Lib.hid hcm
   have HM5 := Lib.hid hcx
   have EE := Lib.hid E1
   have HBL := Lib.hid BL
   have hbm2 := Lib.hid hbm
   clear LC LC2 CVD E1 BT hcm hcx hlk hcv BL hcc hci hw hbm
   go_enter Tryz.func165, Tryz.ntmps165
   go_wp2_with (go_at_call 184; refine LBD.out.mono ?_; rintro e w3 ⟨rfl, hb3⟩; have R3 := owns_below HRO.out hb3; obtain ⟨r0, r1, r2⟩ := own3 R3; have y0 := World.ownsRow.frozenAt R3 0; have y1 := World.ownsRow.frozenAt R3 1; have y2 := World.ownsRow.frozenAt R3 2; have B3 := owns_below HBO.out hb3; obtain ⟨k0, k1, k2⟩ := own3 B3; have HR3 := Lib.hid R3; clear R3 B3; obtain ⟨i0, i1, i2, i3, i4, i5, i6⟩ := (HC2.out.below hb3).2.2 t htn; rw [← HM5.out] at i5; rw [← HM6.out] at i6)
   have AL4 : Below w3.heap.size w3 (w3.alloc (.cells #[.int .i64 t, .bool cm, .int .i64 lk] 155)) := (Below.refl w3.heap.size w3).alloc (Nat.le_refl _) _
   have R4 := owns_below HR3.out AL4
   obtain ⟨s0, s1, s2⟩ := own3 R4
   have z0 := World.ownsRow.frozenAt R4 0
   have z1 := World.ownsRow.frozenAt R4 1
   have z2 := World.ownsRow.frozenAt R4 2
   obtain ⟨b0, b1, b2⟩ := own3 (owns_below HBO.out (below_next hb3 AL4 (by exact Nat.le_refl _)))
   have j5 := ((HC2.out.below hb3).below AL4).2.2 t htn |>.c5
   rw [← HM5.out] at j5
   have q4 : (w3.alloc (.cells #[.int .i64 t, .bool cm, .int .i64 lk] 155)).cell? ⟨w3.heap.size, 0, none⟩ = some (.int .i64 t) ∧ (w3.alloc (.cells #[.int .i64 t, .bool cm, .int .i64 lk] 155)).cell? ⟨w3.heap.size, 1, none⟩ = some (.bool cm) ∧ (w3.alloc (.cells #[.int .i64 t, .bool cm, .int .i64 lk] 155)).cell? ⟨w3.heap.size, 2, none⟩ = some (.int .i64 lk) := own3 (own3_made w3 (B := w3.heap.size) (Nat.le_refl _) _ _ _ _)
   obtain ⟨q40, q41, q42⟩ := q4
   have d0 : (w3.alloc (.cells #[.int .i64 t, .bool cm, .int .i64 lk] 155)).drew.cell? ⟨w.heap.size + 1, 0, none⟩ = some (.int .i64 0) := s0
   have d1 : (w3.alloc (.cells #[.int .i64 t, .bool cm, .int .i64 lk] 155)).drew.cell? ⟨w.heap.size + 1, 1, none⟩ = some (.bool false) := s1
   have d2 : (w3.alloc (.cells #[.int .i64 t, .bool cm, .int .i64 lk] 155)).drew.cell? ⟨w.heap.size + 1, 2, none⟩ = some (.int .i64 0) := s2
   have d3 : (w3.alloc (.cells #[.int .i64 t, .bool cm, .int .i64 lk] 155)).drew.frozen? ⟨w.heap.size + 1, 0, none⟩ = false := z0
   have d4 : (w3.alloc (.cells #[.int .i64 t, .bool cm, .int .i64 lk] 155)).drew.frozen? ⟨w.heap.size + 1, 1, none⟩ = false := z1
   have d5 : (w3.alloc (.cells #[.int .i64 t, .bool cm, .int .i64 lk] 155)).drew.frozen? ⟨w.heap.size + 1, 2, none⟩ = false := z2
   have d6 : (w3.alloc (.cells #[.int .i64 t, .bool cm, .int .i64 lk] 155)).drew.cell? ⟨w.heap.size, 0, none⟩ = some (.int .i64 A) := b0
   have d7 : (w3.alloc (.cells #[.int .i64 t, .bool cm, .int .i64 lk] 155)).drew.cell? ⟨w.heap.size, 1, none⟩ = some (.bool bm) := b1
   have d8 : (w3.alloc (.cells #[.int .i64 t, .bool cm, .int .i64 lk] 155)).drew.cell? ⟨w.heap.size, 2, none⟩ = some (.int .i64 bl) := b2
   have d9 : (w3.alloc (.cells #[.int .i64 t, .bool cm, .int .i64 lk] 155)).drew.cell? ⟨b, off + t * 7 + 5, none⟩ = some (.int .i64 cc) := j5
   have e0 : (w3.alloc (.cells #[.int .i64 t, .bool cm, .int .i64 lk] 155)).drew.cell? ⟨w3.heap.size, 0, none⟩ = some (.int .i64 t) := q40
   have e1 : (w3.alloc (.cells #[.int .i64 t, .bool cm, .int .i64 lk] 155)).drew.cell? ⟨w3.heap.size, 1, none⟩ = some (.bool cm) := q41
   have e2 : (w3.alloc (.cells #[.int .i64 t, .bool cm, .int .i64 lk] 155)).drew.cell? ⟨w3.heap.size, 2, none⟩ = some (.int .i64 lk) := q42
   have R5 : (w3.alloc (.cells #[.int .i64 t, .bool cm, .int .i64 lk] 155)).drew.ownsRow w.heap.size 155 3 (.slice (some ⟨w.heap.size + 1, 0, none⟩) 1 1) 1 [.int .i64 0, .bool false, .int .i64 0] := R4
   have HR5 := Lib.hid R5
   have B5 := Lib.hid (below_next (below_next HB0.out hb3 (Nat.le_refl _)) AL4 (Nat.le_refl _))
   clear R4 R5 AL4 r0 r1 r2 y0 y1 y2 k0 k1 k2
   go_cut [14] from 34 to 43 (fun v wx => v = .pointer (some ⟨w3.heap.size, 0, none⟩) ∧ wx = (w3.alloc (.cells #[.int .i64 t, .bool cm, .int .i64 lk] 155)).drew)
   case first =>
    have AZ : Below w3.heap.size w3 (w3.alloc (.cells #[.int .i64 0, .bool false, .int .i64 0] 155)) := (Below.refl w3.heap.size w3).alloc (Nat.le_refl _) _
    have g1 := ((HC2.out.below hb3).below AZ).2.2 t htn |>.c6
    rw [← HM6.out] at g1
    have g2 : (w3.alloc (.cells #[.int .i64 0, .bool false, .int .i64 0] 155)).drew.cell? ⟨b, off + t * 7 + 6, none⟩ = some (.bool cm) := g1
    have g3 : w3.drew.cell? ⟨b, off + t * 7 + 6, none⟩ = some (.bool cm) := i6
    clear AZ
    go_region_with (first | (go_at_call 185; refine (LKA.out _).mono ?_; rintro e w' ⟨rfl, rfl⟩))
    all_goals (go_wp2_with fail; go_meet; exact ⟨rfl, rfl⟩)
   case rest =>
     obtain ⟨rfl, rfl⟩ := hcut
     obtain ⟨rf0, rf1, rf2⟩ := own3_read (show (w3.alloc (.cells #[.int .i64 t, .bool cm, .int .i64 lk] 155)).ownsRow _ _ 3 _ 1 _ from HR5.out) (.int .i64 t) (.bool cm) (.int .i64 lk)
     have BF := Lib.hid ((own3_put (show (w3.alloc (.cells #[.int .i64 t, .bool cm, .int .i64 lk] 155)).ownsRow _ _ 3 _ 1 _ from HR5.out) (show Below w.heap.size w (w3.alloc (.cells #[.int .i64 t, .bool cm, .int .i64 lk] 155)) from B5.out) (Nat.le_succ _) (.int .i64 t) (.bool cm) (.int .i64 lk)).drew.drew)
     by_cases ha : a = 0
     ·have hA2 : A = -1 := by have := HA.out; omega
      have BW : Hid (T = .tuple #[.int .i64 cv, endV t cm lk]) := by show _ = _; rw [EE.out, HBL.out, if_neg (by omega), Int.add_zero]
      clear ha HA
      subst hA2
      go_wp2_with (first | (go_at_call 185; refine (LKA.out _).mono ?_; rintro e w' ⟨rfl, rfl⟩) | (go_at_call 186; refine (COA.out _).mono ?_; rintro e w' ⟨rfl, rfl⟩))
      go_region
      go_wp2_with fail
      refine bodyPost_ret (v := .tuple #[.int .i64 (cv), .agg #[.int .i64 t, .bool cm, .int .i64 lk]]) (by simp [results, Tryz.results165, go_sem, rf0, rf1, rf2]) rfl ⟨by rw [BW.out]; rfl, BF.out⟩
     ·have hA2 : 0 ≤ A := by have := HA.out; omega
      have MK : Hid (bm = (it xs (a - 1)).mark) := hbm2.out (by omega)
      have BL2 := HBL.out
      rw [if_pos (by omega), ← MK.out] at BL2
      have E2 := EE.out
      rw [BL2] at E2
      clear ha HA MK BL2
      obtain ⟨D, hD⟩ : ∃ D, D = bl - lk := ⟨_, rfl⟩
      have hD2 : lk - bl = -D := by omega
      rw [← hD, hD2] at E2
      have HE := Lib.hid E2
      clear E2 hD2
      by_cases d1 : 1 < bl - lk
      ·have mx : 1 < max D (-D) := by omega
       clear hD
       cases bm
       ·have BW : Hid (T = .tuple #[.int .i64 (cv + 3000), endV t cm lk]) := by show _ = _; rw [HE.out, if_pos mx]; simp
        go_wp2_with (first | (go_at_call 185; refine (LKA.out _).mono ?_; rintro e w' ⟨rfl, rfl⟩) | (go_at_call 186; refine (COA.out _).mono ?_; rintro e w' ⟨rfl, rfl⟩))
        go_region
        go_wp2_with fail
        refine bodyPost_ret (v := .tuple #[.int .i64 (cv + 3000), .agg #[.int .i64 t, .bool cm, .int .i64 lk]]) (by simp [results, Tryz.results165, go_sem, rf0, rf1, rf2]) rfl ⟨by rw [BW.out]; rfl, BF.out⟩
       ·cases cm
        ·have BW : Hid (T = .tuple #[.int .i64 (cv + 3000), endV t false lk]) := by show _ = _; rw [HE.out, if_pos mx]; simp
         go_wp2_with (first | (go_at_call 185; refine (LKA.out _).mono ?_; rintro e w' ⟨rfl, rfl⟩) | (go_at_call 186; refine (COA.out _).mono ?_; rintro e w' ⟨rfl, rfl⟩))
         go_region
         go_wp2_with fail
         refine bodyPost_ret (v := .tuple #[.int .i64 (cv + 3000), .agg #[.int .i64 t, .bool false, .int .i64 lk]]) (by simp [results, Tryz.results165, go_sem, rf0, rf1, rf2]) rfl ⟨by rw [BW.out]; rfl, BF.out⟩
        ·have BW : Hid (T = .tuple #[.int .i64 (cv + 3000 + 3000), endV t true lk]) := by show _ = _; rw [HE.out, if_pos mx]; simp; omega
         go_wp2_with (first | (go_at_call 185; refine (LKA.out _).mono ?_; rintro e w' ⟨rfl, rfl⟩) | (go_at_call 186; refine (COA.out _).mono ?_; rintro e w' ⟨rfl, rfl⟩))
         go_region
         go_wp2_with fail
         refine bodyPost_ret (v := .tuple #[.int .i64 (cv + 3000 + 3000), .agg #[.int .i64 t, .bool true, .int .i64 lk]]) (by simp [results, Tryz.results165, go_sem, rf0, rf1, rf2]) rfl ⟨by rw [BW.out]; rfl, BF.out⟩
      ·by_cases d2 : bl - lk < -1
       ·have mx : 1 < max D (-D) := by omega
        clear hD
        cases bm
        ·have BW : Hid (T = .tuple #[.int .i64 (cv + 3000), endV t cm lk]) := by show _ = _; rw [HE.out, if_pos mx]; simp
         go_wp2_with (first | (go_at_call 185; refine (LKA.out _).mono ?_; rintro e w' ⟨rfl, rfl⟩) | (go_at_call 186; refine (COA.out _).mono ?_; rintro e w' ⟨rfl, rfl⟩))
         go_region
         go_wp2_with fail
         refine bodyPost_ret (v := .tuple #[.int .i64 (cv + 3000), .agg #[.int .i64 t, .bool cm, .int .i64 lk]]) (by simp [results, Tryz.results165, go_sem, rf0, rf1, rf2]) rfl ⟨by rw [BW.out]; rfl, BF.out⟩
        ·cases cm
         ·have BW : Hid (T = .tuple #[.int .i64 (cv + 3000), endV t false lk]) := by show _ = _; rw [HE.out, if_pos mx]; simp
          go_wp2_with (first | (go_at_call 185; refine (LKA.out _).mono ?_; rintro e w' ⟨rfl, rfl⟩) | (go_at_call 186; refine (COA.out _).mono ?_; rintro e w' ⟨rfl, rfl⟩))
          go_region
          go_wp2_with fail
          refine bodyPost_ret (v := .tuple #[.int .i64 (cv + 3000), .agg #[.int .i64 t, .bool false, .int .i64 lk]]) (by simp [results, Tryz.results165, go_sem, rf0, rf1, rf2]) rfl ⟨by rw [BW.out]; rfl, BF.out⟩
         ·have BW : Hid (T = .tuple #[.int .i64 (cv + 3000 + 3000), endV t true lk]) := by show _ = _; rw [HE.out, if_pos mx]; simp; omega
          go_wp2_with (first | (go_at_call 185; refine (LKA.out _).mono ?_; rintro e w' ⟨rfl, rfl⟩) | (go_at_call 186; refine (COA.out _).mono ?_; rintro e w' ⟨rfl, rfl⟩))
          go_region
          go_wp2_with fail
          refine bodyPost_ret (v := .tuple #[.int .i64 (cv + 3000 + 3000), .agg #[.int .i64 t, .bool true, .int .i64 lk]]) (by simp [results, Tryz.results165, go_sem, rf0, rf1, rf2]) rfl ⟨by rw [BW.out]; rfl, BF.out⟩
       ·have mx : ¬ 1 < max D (-D) := by omega
        clear hD
        cases bm
        ·have BW : Hid (T = .tuple #[.int .i64 (cv), endV t cm lk]) := by show _ = _; rw [HE.out, if_neg mx]; simp
         go_wp2_with (first | (go_at_call 185; refine (LKA.out _).mono ?_; rintro e w' ⟨rfl, rfl⟩) | (go_at_call 186; refine (COA.out _).mono ?_; rintro e w' ⟨rfl, rfl⟩))
         go_region
         go_wp2_with fail
         refine bodyPost_ret (v := .tuple #[.int .i64 (cv), .agg #[.int .i64 t, .bool cm, .int .i64 lk]]) (by simp [results, Tryz.results165, go_sem, rf0, rf1, rf2]) rfl ⟨by rw [BW.out]; rfl, BF.out⟩
        ·cases cm
         ·have BW : Hid (T = .tuple #[.int .i64 (cv), endV t false lk]) := by show _ = _; rw [HE.out, if_neg mx]; simp
          go_wp2_with (first | (go_at_call 185; refine (LKA.out _).mono ?_; rintro e w' ⟨rfl, rfl⟩) | (go_at_call 186; refine (COA.out _).mono ?_; rintro e w' ⟨rfl, rfl⟩))
          go_region
          go_wp2_with fail
          refine bodyPost_ret (v := .tuple #[.int .i64 (cv), .agg #[.int .i64 t, .bool false, .int .i64 lk]]) (by simp [results, Tryz.results165, go_sem, rf0, rf1, rf2]) rfl ⟨by rw [BW.out]; rfl, BF.out⟩
         ·have BW : Hid (T = .tuple #[.int .i64 (cv + 3000), endV t true lk]) := by show _ = _; rw [HE.out, if_neg mx]; simp
          go_wp2_with (first | (go_at_call 185; refine (LKA.out _).mono ?_; rintro e w' ⟨rfl, rfl⟩) | (go_at_call 186; refine (COA.out _).mono ?_; rintro e w' ⟨rfl, rfl⟩))
          go_region
          go_wp2_with fail
          refine bodyPost_ret (v := .tuple #[.int .i64 (cv + 3000), .agg #[.int .i64 t, .bool true, .int .i64 lk]]) (by simp [results, Tryz.results165, go_sem, rf0, rf1, rf2]) rfl ⟨by rw [BW.out]; rfl, BF.out⟩
end Go.Proofs.YtofnchdijanikaaGreatDoor

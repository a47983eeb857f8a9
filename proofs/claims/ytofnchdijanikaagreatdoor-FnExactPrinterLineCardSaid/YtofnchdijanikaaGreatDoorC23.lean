/-
  PROVED HERE: what the printer's lines need, part C23. Conditions: each theorem's own.
-/
import Derived.Test.YtofnchdijanikaaGreatDoorC22
import Derived.Test.YtofnchdijanikaaGreatDoorC16
import Derived.Deep.RegionHeld3
set_option linter.unusedVariables false
set_option linter.unusedSimpArgs false
set_option maxRecDepth 100000
namespace Go.Proofs.YtofnchdijanikaaGreatDoor
open Go.RowKit
theorem bestP_nil (L : Nat) : bestP [] L = some [] := rfl
theorem implRows0_any (z : Option Addr) (c : Nat) (w : World) : Calls Tryz.prog 108 #[.slice z 0 c] w fun e w' => e = .returned (.bool true) ∧ w = w' := by
 go_enter Tryz.func108, Tryz.ntmps108
 go_wp2
 refine wp_loop_rounds 1 ?_
 rw [rounds_succ]
 go_wp2
 go_ret
 exact ⟨rfl, rfl⟩
theorem pageArgs0_any (z : Option Addr) (c L : Nat) (w : World) (hL : 1 ≤ L ∧ L ≤ 30) : Calls Tryz.prog 86 #[.slice z 0 c, .int .i64 L] w fun e w' => e = .returned (.bool true) ∧ w = w' := by
 have I1 : Hid (inB (L : Int) 1 1000 = true) := inB_yes (by omega) (by omega)
 go_enter Tryz.func86, Tryz.ntmps86
 go_wp2_with (first | (go_at_call 108; refine (implRows0_any _ _ _).mono ?_; rintro e w' ⟨rfl, rfl⟩) | (go_at_call 88; refine (isHeight_any _ _).mono ?_; rintro e w' ⟨rfl, rfl⟩; rw [I1.out]))
 go_ret
 exact ⟨rfl, rfl⟩
set_option maxHeartbeats 4000000 in
theorem implPages0_any (z : Option Addr) (c L : Nat) (w : World) (hL : 1 ≤ L ∧ L ≤ 30) : Calls Tryz.prog 65 #[.slice z 0 c, .int .i64 L] w (BestPPost [] L w) := by
 obtain ⟨i0, hi, hz0, hz1, hz2⟩ := info_parts info_int
 have I1 : Hid (inB (L : Int) 1 1000 = true) := inB_yes (by omega) (by omega)
 have OM := Lib.hid (OwnI.made w (B := w.heap.size) (Nat.le_refl _))
 have AW := Lib.hid ((Below.refl w.heap.size w).alloc (Nat.le_refl _) (.cells #[] 3))
 go_enter Tryz.func65, Tryz.ntmps65
 go_wp2_with (first | (go_at_call 86; refine (pageArgs0_any _ _ _ _ hL).mono ?_; rintro e w' ⟨rfl, rfl⟩) | (at_make; refine wpList_make_full _ rfl _ _ 72 rfl w.heap.size 3 i0 (.int .i64 0) 1 Tryz.underlying72 hi hz0 hz1 .i64 .i64 _ _ 1 rfl rfl rfl rfl (by rw [hz2]; omega) (by unfold maxLen; omega) (Nat.le_refl _) ?_; intro w3 hown3 hgrow3) | (at_make; refine wpList_make_full _ rfl _ _ 72 rfl w3.heap.size 3 i0 (.int .i64 0) 1 Tryz.underlying72 hi hz0 hz1 .i64 .i64 _ _ 1 rfl rfl rfl rfl (by rw [hz2]; omega) (by unfold maxLen; omega) (Nat.le_refl _) ?_; intro w4 hown4 hgrow4))
 have c3 : w3.cell? ⟨w.heap.size, 0, none⟩ = some (.int .i64 0) := by
  have h : w3.ownsRow (w.heap.size) 3 1 (.slice (some ⟨w.heap.size, 0, none⟩) 1 1) 1 [.int .i64 0] := by
   have hh := hown3
   simp [madeCells] at hh
   exact hh
  exact h.cellAt 0 (by omega)
 have b3 : Below w.heap.size w w3 := below_of_grown hgrow3 (Nat.le_refl _)
 have b4 : Below w3.heap.size w3 w4 := below_of_grown hgrow4 (Nat.le_refl _)
 have c4 := keepc c3 b4
 have B4 := Lib.hid (below_next (Below.refl w.heap.size w) (below_next b3 b4 (Nat.le_refl _)) (Nat.le_refl _))
 clear hown3 hown4 hgrow3 hgrow4 b3 b4 c3
 refine wp_loop_rounds 1 ?_
 rw [rounds_succ]
 go_wp2
 refine wp_loop_rounds 1 ?_
 rw [rounds_succ]
 go_wp2
 go_ret2
 exact ⟨_, rfl, OwnI.nil _ _, B4.out⟩
theorem specRows0_any (z : Option Addr) (c : Nat) (w : World) : Calls Tryz.prog 81 #[.slice z 0 c] w fun e w' => e = .returned (.bool true) ∧ w = w' := by
 go_enter Tryz.func81, Tryz.ntmps81
 go_wp2
 refine wp_loop_rounds 1 ?_
 rw [rounds_succ]
 go_wp2
 go_ret
 exact ⟨rfl, rfl⟩
set_option maxHeartbeats 4000000 in
theorem specPages0_any (z : Option Addr) (c L : Nat) (w : World) (hL : 1 ≤ L ∧ L ≤ 30) : Calls Tryz.prog 61 #[.slice z 0 c, .int .i64 L] w (BestPPost [] L w) := by
 obtain ⟨i0, hi, hz0, hz1, hz2⟩ := info_parts info_int
 have I1 : Hid (inB (L : Int) 1 1000 = true) := inB_yes (by omega) (by omega)
 have OM := Lib.hid (OwnI.made w (B := w.heap.size) (Nat.le_refl _))
 have AW := Lib.hid ((Below.refl w.heap.size w).alloc (Nat.le_refl _) (.cells #[] 3))
 go_enter Tryz.func61, Tryz.ntmps61
 go_wp2_with (first | (go_at_call 81; refine (specRows0_any _ _ _).mono ?_; rintro e w' ⟨rfl, rfl⟩) | (go_at_call 34; refine (l1In_any _ _ _ _).mono ?_; rintro e w' ⟨rfl, rfl⟩; rw [I1.out]) | (at_make; refine wpList_make_full _ rfl _ _ 72 rfl (w.alloc (.cells #[] 3)).heap.size 3 i0 (.int .i64 0) 1 Tryz.underlying72 hi hz0 hz1 .i64 .i64 _ _ 1 rfl rfl rfl rfl (by rw [hz2]; omega) (by unfold maxLen; omega) (Nat.le_refl _) ?_; intro w3 hown3 hgrow3) | (at_make; refine wpList_make_full _ rfl _ _ 72 rfl w3.heap.size 3 i0 (.int .i64 0) 1 Tryz.underlying72 hi hz0 hz1 .i64 .i64 _ _ 1 rfl rfl rfl rfl (by rw [hz2]; omega) (by unfold maxLen; omega) (Nat.le_refl _) ?_; intro w4 hown4 hgrow4))
 have c3 : w3.cell? ⟨w.heap.size + 1, 0, none⟩ = some (.int .i64 0) := by
  have h : w3.ownsRow (w.heap.size + 1) 3 1 (.slice (some ⟨w.heap.size + 1, 0, none⟩) 1 1) 1 [.int .i64 0] := by
   have hh := hown3
   simp [madeCells] at hh
   exact hh
  exact h.cellAt 0 (by omega)
 have b3 : Below (w.alloc (.cells #[] 3)).heap.size (w.alloc (.cells #[] 3)) w3 := below_of_grown hgrow3 (Nat.le_refl _)
 have b4 : Below w3.heap.size w3 w4 := below_of_grown hgrow4 (Nat.le_refl _)
 have c4 := keepc c3 b4
 have B4 := Lib.hid (below_next (AW.out) (below_next b3 b4 (Nat.le_refl _)) (Nat.le_refl _))
 have O4 := Lib.hid (owns_below (owns_below OM.out b3) b4)
 clear hown3 hown4 hgrow3 hgrow4 b3 b4 c3
 refine wp_loop_rounds 1 ?_
 rw [rounds_succ]
 go_wp2
 refine wp_loop_rounds 1 ?_
 rw [rounds_succ]
 go_wp2
 go_ret2
 exact ⟨_, rfl, O4.out, B4.out⟩
end Go.Proofs.YtofnchdijanikaaGreatDoor
namespace Go.Proofs.YtofnchdijanikaaGreatDoor
open Go.RowKit
theorem info_Row : (Tryz.prog.info? 94).map (fun i => (i.zero, i.size, i.bytes)) = some (some (.agg #[.int .i64 0, .bool false, .int .i64 0, .int .i64 0]), 4, 32) := by kernel_rfl
def OwnR (w : World) (B : Nat) (v : Value) (ks : List Bool) : Prop := w.ownsRow B 94 4 v ks.length (ks.flatMap encR)
theorem OwnR.nil (w : World) (B : Nat) : OwnR w B (.slice none 0 0) [] := ⟨rfl, .inl ⟨rfl, rfl⟩⟩
theorem OwnR.made (w : World) {B : Nat} (hB : B ≤ w.heap.size) : OwnR (w.alloc (.cells #[] 94)) B (.slice (some ⟨w.heap.size, 0, none⟩) 0 0) [] := World.ownsRow_made w #[] 0 hB (Nat.zero_le _) rfl
theorem OwnR.below {w w' : World} {B : Nat} {v : Value} {ks : List Bool} (h : OwnR w B v ks) (hb : Below w.heap.size w w') : OwnR w' B v ks := owns_below h hb
theorem flat_encR (ks : List Bool) : (ks.flatMap encR).length = ks.length * 4 := flatMap_len encR 4 ks (fun x _ => encR_len x)
theorem append_row (w wr : World) {ops : Array Oper} {rest : List Oper} {o : Oper} {a : Act} {Q : Exit → Act → World → Prop} (hgd : o.guard = none) (s x : Operand)
  (ho : o.op = .call { callee := .builtin .append, args := #[s, x], argTypes := #[77, 77] }) (B : Nat) (v : Value) (ks : List Bool) (l : Bool)
  (hs : a.eval s = v) (hx : a.eval x = .slice (some ⟨wr.heap.size, 0, none⟩) 1 1) (hown : OwnR wr B v ks) (hn : ks.length ≤ 10000) (hB : B ≤ w.heap.size) (hb : Below B w wr)
  (h : ∀ v' w', OwnR w' B v' (ks ++ [l]) → Below B w w' → wpList Tryz.prog ops Q rest (a.put o.dst v') w') :
  wpList Tryz.prog ops Q (o :: rest) a (wr.alloc (.cells #[.int .i64 1, .bool l, .int .i64 0, .int .i64 0] 94)) := by
 obtain ⟨i0, hi, hz0, hz1, hz2⟩ := info_parts info_Row
 have hws := hb.size
 refine append_mine _ hgd s x 77 ho B 94 i0 (.agg #[.int .i64 0, .bool false, .int .i64 0, .int .i64 0]) 4 32 Tryz.underlying77 hi hz0 hz1 hz2 rfl (by decide) v ks.length _ hs (World.ownsRow.alloc hown _) ⟨wr.heap.size, 0, none⟩ 1 1 [.int .i64 1, .bool l, .int .i64 0, .int .i64 0] hx rfl (by simpa using cells_new wr [.int .i64 1, .bool l, .int .i64 0, .int .i64 0] _) (by intro u hu; simp at hu; rcases hu with rfl | rfl | rfl | rfl <;> rfl) (by unfold maxLen; omega) (by omega) (by simp; omega) ?_
 intro v' w' h1 h2 h3
 refine h v' w' ?_ ?_
 ·unfold OwnR
  rw [List.length_append, List.flatMap_append]
  exact h1
 ·exact below_append hb hB hown h2
theorem OwnR.rows {w : World} {B : Nat} {v : Value} {ks : List Bool} (h : OwnR w B v ks) (hp : 0 < ks.length) : ∃ b cap, v = .slice (some ⟨b, 0, none⟩) ks.length cap ∧ ks.length ≤ cap ∧ RwC w b 0 ks.length ks := by
 have hl := h.lt
 rcases h.2 with ⟨_, h2⟩ | ⟨g, cap, cur, rfl, hg, hb, hcap, _⟩
 ·omega
 ·refine ⟨g, cap, rfl, hcap, rfl, (hl g rfl).2, fun j hj => ?_⟩
  have e : ∀ i, i < 4 → w.cell? ⟨g, 0 + j * 4 + i, none⟩ = (encR (ks.getD j false))[i]? := fun i hi => by
   rw [h.cellAt (0 + j * 4 + i) (by omega)]
   have := flatMap_get encR 4 ks j i hj (fun x _ => encR_len x) hi
   rw [show 0 + j * 4 + i = j * 4 + i by omega, this]
   simp [List.getD, hj]
  exact ⟨e 0 (by omega), e 1 (by omega), e 2 (by omega), e 3 (by omega)⟩
def RowsPost (ks : List Bool) (w : World) (e : Ending) (w' : World) : Prop := ∃ v, e = .returned v ∧ OwnR w' w.heap.size v ks ∧ Below w.heap.size w w'
theorem keeps_take {cs : List Nat} {k : Nat} (hk : k < cs.length) : keeps (cs.take (k + 1)) = keeps (cs.take k) ++ keepN (cs.getD k 0) := by
 rw [List.take_succ_eq_append_getElem hk, keeps_snoc, getD_eq cs 0 k hk]
theorem keepN_take {n j : Nat} (h : j < n) : (keepN n).take (j + 1) = (keepN n).take j ++ [keep1 n j] := by
 rw [List.take_succ_eq_append_getElem (by rw [keepN_len]; exact h)]
 simp [keepN]
theorem ints_getN (cs : List Nat) (k : Nat) : (ints cs).getD k 0 = ((cs.getD k 0 : Nat) : Int) := by
 unfold ints
 by_cases h : k < cs.length
 ·simp [List.getD, h]
 ·simp [List.getD, Nat.le_of_not_lt h]
def sliceCap : Value → Nat | .slice _ _ c => c | _ => 0
theorem own_slice {w : World} {B : Nat} {v : Value} {ks : List Bool} (h : OwnR w B v ks) : ∃ z, v = .slice z ks.length (sliceCap v) := by
 rcases h.2 with ⟨rfl, h0⟩ | ⟨g, cap, cur, rfl, _⟩
 ·exact ⟨none, by rw [h0]; rfl⟩
 ·exact ⟨_, rfl⟩
set_option maxHeartbeats 16000000 in
theorem implPRows_any (v : Value) (cs : List Nat) (hcs : ∀ c ∈ cs, 1 ≤ c) (h30 : sumN cs ≤ 30) (w : World) (h : IRow w v (ints cs)) :
  Calls Tryz.prog 66 #[v, .int .i64 1] w (RowsPost (keeps cs) w) := by
 have I0 : Hid (inB 1 1 1000 = true) := inB_yes (by omega) (by omega)
 obtain ⟨va, vc, rfl⟩ : ∃ va vc, v = .slice va (ints cs).length vc := by obtain ⟨a, c, e, _⟩ := h; exact ⟨a, c, e⟩
 have hidx : ∀ j, j < cs.length → ∃ b off, va = some ⟨b, off, none⟩ ∧ b < w.heap.size ∧ w.cell? ⟨b, off + j, none⟩ = some (.int .i64 ((cs.getD j 0 : Nat) : Int)) := by
  obtain ⟨a, c, e, _, hc⟩ := h
  injection e with e1
  subst e1
  intro j hj
  obtain ⟨b, off, e1, e2⟩ := hc j (by simpa [ints] using hj)
  rw [ints_getN] at e2
  exact ⟨b, off, e1, World.block_lt_of_cell? w _ e2, e2⟩
 rw [show (ints cs).length = cs.length by simp [ints]]
 have ZLE := Lib.hid (fun k => (show (keeps (cs.take k)).length ≤ 30 by rw [keeps_len]; have := sumN_take_le cs k; omega))
 have CLE := Lib.hid (fun k (hk : k < cs.length) => (show 1 ≤ cs.getD k 0 ∧ (keeps (cs.take k)).length + cs.getD k 0 ≤ 30 by
  have h1 := hcs _ (List.getElem_mem hk)
  rw [← getD_eq cs 0 k hk] at h1
  have h2 := congrArg List.length (keeps_take hk)
  rw [List.length_append, keepN_len, keeps_len, keeps_len] at h2
  have h3 := sumN_take_le cs (k + 1)
  rw [keeps_len]
  omega))
 have KTK := Lib.hid (fun k (hk : k < cs.length) => keeps_take hk)
 have KALL := Lib.hid (show cs.take cs.length = cs from List.take_length)
 obtain ⟨n, hn⟩ : ∃ n, n = cs.length := ⟨_, rfl⟩
 rw [← hn] at KALL hidx CLE KTK ⊢
 have n30 : n ≤ 30 := by
  have key : ∀ l : List Nat, (∀ c ∈ l, 1 ≤ c) → l.length ≤ sumN l := by
   intro l
   induction l with
   | nil => intro _; exact Nat.le_refl _
   | cons a t ih => intro h; rw [sumN, List.length_cons]; have := h a (by simp); have := ih (fun c hc => h c (List.mem_cons_of_mem _ hc)); omega
  have := key cs hcs
  omega
 have HI := Lib.hid hidx
 have OW0 := Lib.hid (OwnR.nil w w.heap.size)
 have BW0 := Lib.hid (Below.refl w.heap.size w)
 clear hcs h30 h hidx hn
 go_enter Tryz.func66, Tryz.ntmps66
 go_wp2_with (go_at_call 88; refine (isHeight_any _ _).mono ?_; rintro e w' ⟨rfl, rfl⟩; rw [I0.out])
 go_loopw [5, 14] (fun v i wr => ∃ k : Nat, k ≤ n ∧ i = .int .i64 k ∧ Hid (OwnR wr w.heap.size v (keeps (cs.take k))) ∧ Hid (Below w.heap.size w wr)) (fun _ i _ => n - (intOf i).toNat)
 case atStart => exact ⟨0, Nat.zero_le _, rfl, OW0.out, BW0.out⟩
 case round =>
  obtain ⟨k, hk, rfl, ho, hb⟩ := hrel
  clear OW0 BW0
  by_cases hlt : k < n
  ·obtain ⟨b, off, rfl, hbl, hck⟩ := HI.out k hlt
   have hlt' : (k : Int) < (n : Int) := by omega
   obtain ⟨cl1, cl2⟩ := CLE.out k hlt
   have KK := Lib.hid (KTK.out k hlt)
   obtain ⟨c, hc⟩ : ∃ c, c = cs.getD k 0 := ⟨_, rfl⟩
   rw [← hc] at hck cl1 cl2 KK
   have HCK := Lib.hid hck
   have HBL := Lib.hid hbl
   have ZL := Lib.hid cl2
   have KN : Hid ((keepN c).take c = keepN c) := by show _ = _; rw [List.take_of_length_le (by rw [keepN_len]; exact Nat.le_refl _)]
   have hsl : ∃ z, u5 = .slice z (keeps (cs.take k)).length (sliceCap u5) := own_slice ho.out
   obtain ⟨Z, hZ⟩ : ∃ Z, Z = keeps (cs.take k) := ⟨_, rfl⟩
   have HZ := Lib.hid hZ
   rw [← hZ] at ho cl2 hsl
   obtain ⟨z, hz⟩ := hsl
   obtain ⟨zc, hzc⟩ : ∃ zc, zc = sliceCap u5 := ⟨_, rfl⟩
   rw [← hzc] at hz
   have I1 : Hid (inB (c : Int) 1 (30 - (Z.length : Int)) = true) := inB_yes (by omega) (by omega)
   have sm : ¬ (30 : Int) < (Z.length : Int) + (c : Int) := by omega
   have c0 := (hb.out.cell (p := ⟨b, off + k, none⟩) hbl).trans hck
   have HOZ : Hid (OwnR wr w.heap.size u5 (keeps (cs.take k) ++ (keepN c).take 0)) := by show OwnR _ _ _ _; rw [List.take_zero, List.append_nil, ← HZ.out]; exact ho.out
   subst hz
   clear hc hck hbl hZ hzc cl2 ho
   go_wp2_with (go_at_call 57; refine (in_any _ _ _ _).mono ?_; rintro e w' ⟨rfl, rfl⟩; rw [I1.out])
   go_loopw [5, 25] (fun v i wr => ∃ j : Nat, j ≤ c ∧ i = .int .i64 j ∧ Hid (OwnR wr w.heap.size v (keeps (cs.take k) ++ (keepN c).take j)) ∧ Hid (Below w.heap.size w wr)) (fun _ i _ => c - (intOf i).toNat)
   case atStart => exact ⟨0, Nat.zero_le _, rfl, HOZ.out, hb.out⟩
   case round =>
    obtain ⟨j, hj, rfl, ho, hb⟩ := hrel
    clear HOZ
    by_cases hjl : j < c
    ·skip
     have KT := Lib.hid (keepN_take hjl)
     have YL : (keeps (cs.take k) ++ (keepN c).take j).length ≤ 10000 := by rw [List.length_append, List.length_take, keepN_len]; have := ZL.out; omega
     obtain ⟨Y, hY⟩ : ∃ Y, Y = keeps (cs.take k) ++ (keepN c).take j := ⟨_, rfl⟩
     have HY := Lib.hid hY.symm
     rw [← hY] at ho YL
     clear hY
     have hjl' : (j : Int) < (c : Int) := by omega
     by_cases hj0 : j = 0
     ·have hj0' : ((j : Int) == 0) = true := by rw [beq_iff_eq]; omega
      by_cases h2 : 2 ≤ c
      ·have h2' : (2 : Int) ≤ (c : Int) := by omega
       have KB : Hid (keep1 c j = true) := by show _ = _; unfold keep1; simp <;> omega
       have SX : Hid (Y ++ [true] = keeps (cs.take k) ++ (keepN c).take (j + 1)) := by show _ = _; rw [KT.out, ← List.append_assoc, HY.out, KB.out]
       go_wp2_with (at_builtin; refine append_row w wr rfl _ _ rfl w.heap.size u5 Y true rfl rfl ho.out YL (Nat.le_refl _) hb.out ?_; intro v' w5 hown' hbel)
       first
        | exact ⟨⟨j + 1, by omega, by go_num, by rw [← SX.out]; exact hown', hbel⟩, by (simp [intOf]) <;> omega⟩
        | (go_roundw
           case rel => exact ⟨j + 1, by omega, by go_num, by rw [← SX.out]; exact hown', hbel⟩
           case measure => (simp [intOf]) <;> omega)
      ·have h2' : ¬ (2 : Int) ≤ (c : Int) := by omega
       have e2 : ((j : Int) == (c : Int) - 2) = false := by rw [beq_eq_false_iff_ne]; omega
       have KB : Hid (keep1 c j = false) := by show _ = _; unfold keep1; simp <;> omega
       have SX : Hid (Y ++ [false] = keeps (cs.take k) ++ (keepN c).take (j + 1)) := by show _ = _; rw [KT.out, ← List.append_assoc, HY.out, KB.out]
       go_wp2_with (at_builtin; refine append_row w wr rfl _ _ rfl w.heap.size u5 Y false rfl rfl ho.out YL (Nat.le_refl _) hb.out ?_; intro v' w5 hown' hbel)
       first
        | exact ⟨⟨j + 1, by omega, by go_num, by rw [← SX.out]; exact hown', hbel⟩, by (simp [intOf]) <;> omega⟩
        | (go_roundw
           case rel => exact ⟨j + 1, by omega, by go_num, by rw [← SX.out]; exact hown', hbel⟩
           case measure => (simp [intOf]) <;> omega)
     ·have hj0' : ((j : Int) == 0) = false := by rw [beq_eq_false_iff_ne]; omega
      by_cases h2 : j + 2 = c
      ·have e2 : ((j : Int) == (c : Int) - 2) = true := by rw [beq_iff_eq]; omega
       have h3' : (3 : Int) ≤ (c : Int) := by omega
       have h2h := Lib.hid h2
       clear h2
       have KB : Hid (keep1 c j = true) := by show _ = _; unfold keep1; have := h2h.out; simp; omega
       have SX : Hid (Y ++ [true] = keeps (cs.take k) ++ (keepN c).take (j + 1)) := by show _ = _; rw [KT.out, ← List.append_assoc, HY.out, KB.out]
       go_wp2_with (at_builtin; refine append_row w wr rfl _ _ rfl w.heap.size u5 Y true rfl rfl ho.out YL (Nat.le_refl _) hb.out ?_; intro v' w5 hown' hbel)
       first
        | exact ⟨⟨j + 1, by omega, by go_num, by rw [← SX.out]; exact hown', hbel⟩, by (simp [intOf]) <;> omega⟩
        | (go_roundw
           case rel => exact ⟨j + 1, by omega, by go_num, by rw [← SX.out]; exact hown', hbel⟩
           case measure => (simp [intOf]) <;> omega)
      ·have e2 : ((j : Int) == (c : Int) - 2) = false := by rw [beq_eq_false_iff_ne]; omega
       have KB : Hid (keep1 c j = false) := by show _ = _; unfold keep1; simp <;> omega
       have SX : Hid (Y ++ [false] = keeps (cs.take k) ++ (keepN c).take (j + 1)) := by show _ = _; rw [KT.out, ← List.append_assoc, HY.out, KB.out]
       go_wp2_with (at_builtin; refine append_row w wr rfl _ _ rfl w.heap.size u5 Y false rfl rfl ho.out YL (Nat.le_refl _) hb.out ?_; intro v' w5 hown' hbel)
       first
        | exact ⟨⟨j + 1, by omega, by go_num, by rw [← SX.out]; exact hown', hbel⟩, by (simp [intOf]) <;> omega⟩
        | (go_roundw
           case rel => exact ⟨j + 1, by omega, by go_num, by rw [← SX.out]; exact hown', hbel⟩
           case measure => (simp [intOf]) <;> omega)
    ·obtain rfl : j = c := by omega
     have hjj : ¬ (j : Int) < (j : Int) := by omega
     have HO2 : Hid (OwnR wr w.heap.size u5 (keeps (cs.take (k + 1)))) := by
      show OwnR _ _ _ _
      rw [KK.out]
      have := ho.out
      rw [KN.out] at this
      exact this
     go_wp2_with fail
     first
      | exact ⟨⟨k + 1, by omega, by go_num, HO2.out, hb.out⟩, by (simp [intOf]) <;> omega⟩
      | (go_roundw
         case rel => exact ⟨k + 1, by omega, by go_num, HO2.out, hb.out⟩
         case measure => (simp [intOf]) <;> omega)
  ·obtain rfl : k = n := by omega
   have ho2 := ho.out
   rw [KALL.out] at ho2
   have HO2 := Lib.hid ho2
   clear ho2
   go_wp2_with fail
   go_ret
   exact ⟨_, rfl, HO2.out, hb.out⟩
set_option maxHeartbeats 16000000 in
theorem specPRows_any (v : Value) (cs : List Nat) (hcs : ∀ c ∈ cs, 1 ≤ c) (h30 : sumN cs ≤ 30) (w : World) (h : IRow w v (ints cs)) :
  Calls Tryz.prog 62 #[v, .int .i64 1] w (RowsPost (keeps cs) w) := by
 have I0 : Hid (inB 1 1 1000 = true) := inB_yes (by omega) (by omega)
 obtain ⟨va, vc, rfl⟩ : ∃ va vc, v = .slice va (ints cs).length vc := by obtain ⟨a, c, e, _⟩ := h; exact ⟨a, c, e⟩
 have hidx : ∀ j, j < cs.length → ∃ b off, va = some ⟨b, off, none⟩ ∧ b < w.heap.size ∧ w.cell? ⟨b, off + j, none⟩ = some (.int .i64 ((cs.getD j 0 : Nat) : Int)) := by
  obtain ⟨a, c, e, _, hc⟩ := h
  injection e with e1
  subst e1
  intro j hj
  obtain ⟨b, off, e1, e2⟩ := hc j (by simpa [ints] using hj)
  rw [ints_getN] at e2
  exact ⟨b, off, e1, World.block_lt_of_cell? w _ e2, e2⟩
 rw [show (ints cs).length = cs.length by simp [ints]]
 have ZLE := Lib.hid (fun k => (show (keeps (cs.take k)).length ≤ 30 by rw [keeps_len]; have := sumN_take_le cs k; omega))
 have CLE := Lib.hid (fun k (hk : k < cs.length) => (show 1 ≤ cs.getD k 0 ∧ (keeps (cs.take k)).length + cs.getD k 0 ≤ 30 by
  have h1 := hcs _ (List.getElem_mem hk)
  rw [← getD_eq cs 0 k hk] at h1
  have h2 := congrArg List.length (keeps_take hk)
  rw [List.length_append, keepN_len, keeps_len, keeps_len] at h2
  have h3 := sumN_take_le cs (k + 1)
  rw [keeps_len]
  omega))
 have KTK := Lib.hid (fun k (hk : k < cs.length) => keeps_take hk)
 have KALL := Lib.hid (show cs.take cs.length = cs from List.take_length)
 obtain ⟨n, hn⟩ : ∃ n, n = cs.length := ⟨_, rfl⟩
 rw [← hn] at KALL hidx CLE KTK ⊢
 have n30 : n ≤ 30 := by
  have key : ∀ l : List Nat, (∀ c ∈ l, 1 ≤ c) → l.length ≤ sumN l := by
   intro l
   induction l with
   | nil => intro _; exact Nat.le_refl _
   | cons a t ih => intro h; rw [sumN, List.length_cons]; have := h a (by simp); have := ih (fun c hc => h c (List.mem_cons_of_mem _ hc)); omega
  have := key cs hcs
  omega
 have HI := Lib.hid hidx
 have OW0 := Lib.hid (OwnR.made w (B := w.heap.size) (Nat.le_refl _))
 have BW0 := Lib.hid ((Below.refl w.heap.size w).alloc (Nat.le_refl _) (.cells #[] 94))
 clear hcs h30 h hidx hn
 go_enter Tryz.func62, Tryz.ntmps62
 go_wp2_with fail
 go_loopw [5, 6] (fun v i wr => ∃ k : Nat, k ≤ n ∧ i = .int .i64 k ∧ Hid (OwnR wr w.heap.size v (keeps (cs.take k))) ∧ Hid (Below w.heap.size w wr)) (fun _ i _ => n - (intOf i).toNat)
 case atStart => exact ⟨0, Nat.zero_le _, rfl, OW0.out, BW0.out⟩
 case round =>
  obtain ⟨k, hk, rfl, ho, hb⟩ := hrel
  clear OW0 BW0
  by_cases hlt : k < n
  ·obtain ⟨b, off, rfl, hbl, hck⟩ := HI.out k hlt
   have hlt' : (k : Int) < (n : Int) := by omega
   obtain ⟨cl1, cl2⟩ := CLE.out k hlt
   have KK := Lib.hid (KTK.out k hlt)
   obtain ⟨c, hc⟩ : ∃ c, c = cs.getD k 0 := ⟨_, rfl⟩
   rw [← hc] at hck cl1 cl2 KK
   have HCK := Lib.hid hck
   have HBL := Lib.hid hbl
   have ZL := Lib.hid cl2
   have KN : Hid ((keepN c).take c = keepN c) := by show _ = _; rw [List.take_of_length_le (by rw [keepN_len]; exact Nat.le_refl _)]
   have hsl : ∃ z, u5 = .slice z (keeps (cs.take k)).length (sliceCap u5) := own_slice ho.out
   obtain ⟨Z, hZ⟩ : ∃ Z, Z = keeps (cs.take k) := ⟨_, rfl⟩
   have HZ := Lib.hid hZ
   rw [← hZ] at ho cl2 hsl
   obtain ⟨z, hz⟩ := hsl
   obtain ⟨zc, hzc⟩ : ∃ zc, zc = sliceCap u5 := ⟨_, rfl⟩
   rw [← hzc] at hz
   have I1 : Hid (inB (c : Int) 1 30 = true) := inB_yes (by omega) (by omega)
   have sm : ¬ (30 : Int) < (Z.length : Int) + (c : Int) := by omega
   have c0 := (hb.out.cell (p := ⟨b, off + k, none⟩) hbl).trans hck
   have HOZ : Hid (OwnR wr w.heap.size u5 (keeps (cs.take k) ++ (keepN c).take 0)) := by show OwnR _ _ _ _; rw [List.take_zero, List.append_nil, ← HZ.out]; exact ho.out
   subst hz
   clear hc hck hbl hZ hzc cl2 ho
   go_wp2_with (go_at_call 34; refine (l1In_any _ _ _ _).mono ?_; rintro e w' ⟨rfl, rfl⟩; rw [I1.out])
   go_loopw [5, 7] (fun v i wr => ∃ j : Nat, j ≤ c ∧ i = .int .i64 j ∧ Hid (OwnR wr w.heap.size v (keeps (cs.take k) ++ (keepN c).take j)) ∧ Hid (Below w.heap.size w wr)) (fun _ i _ => c - (intOf i).toNat)
   case atStart => exact ⟨0, Nat.zero_le _, rfl, HOZ.out, hb.out⟩
   case round =>
    obtain ⟨j, hj, rfl, ho, hb⟩ := hrel
    clear HOZ
    by_cases hjl : j < c
    ·skip
     have KT := Lib.hid (keepN_take hjl)
     have YL : (keeps (cs.take k) ++ (keepN c).take j).length ≤ 10000 := by rw [List.length_append, List.length_take, keepN_len]; have := ZL.out; omega
     obtain ⟨Y, hY⟩ : ∃ Y, Y = keeps (cs.take k) ++ (keepN c).take j := ⟨_, rfl⟩
     have HY := Lib.hid hY.symm
     rw [← hY] at ho YL
     clear hY
     have hjl' : (j : Int) < (c : Int) := by omega
     have c1 := (hb.out.cell (p := ⟨b, off + k, none⟩) HBL.out).trans HCK.out
     by_cases hj0 : j = 0
     ·have hj0' : ((j : Int) == 0) = true := by rw [beq_iff_eq]; omega
      by_cases h2 : 2 ≤ c
      ·have h2' : (1 : Int) < (c : Int) := by omega
       have KB : Hid (keep1 c j = true) := by show _ = _; unfold keep1; simp <;> omega
       have SX : Hid (Y ++ [true] = keeps (cs.take k) ++ (keepN c).take (j + 1)) := by show _ = _; rw [KT.out, ← List.append_assoc, HY.out, KB.out]
       go_wp2_with (at_builtin; refine append_row w wr rfl _ _ rfl w.heap.size u5 Y true rfl rfl ho.out YL (Nat.le_refl _) hb.out ?_; intro v' w5 hown' hbel)
       first
        | exact ⟨⟨j + 1, by omega, by go_num, by rw [← SX.out]; exact hown', hbel⟩, by (simp [intOf]) <;> omega⟩
        | (go_roundw
           case rel => exact ⟨j + 1, by omega, by go_num, by rw [← SX.out]; exact hown', hbel⟩
           case measure => (simp [intOf]) <;> omega)
      ·have h2' : ¬ (1 : Int) < (c : Int) := by omega
       have e2 : ((j : Int) == (c : Int) - 2) = false := by rw [beq_eq_false_iff_ne]; omega
       have KB : Hid (keep1 c j = false) := by show _ = _; unfold keep1; simp <;> omega
       have SX : Hid (Y ++ [false] = keeps (cs.take k) ++ (keepN c).take (j + 1)) := by show _ = _; rw [KT.out, ← List.append_assoc, HY.out, KB.out]
       go_wp2_with (at_builtin; refine append_row w wr rfl _ _ rfl w.heap.size u5 Y false rfl rfl ho.out YL (Nat.le_refl _) hb.out ?_; intro v' w5 hown' hbel)
       first
        | exact ⟨⟨j + 1, by omega, by go_num, by rw [← SX.out]; exact hown', hbel⟩, by (simp [intOf]) <;> omega⟩
        | (go_roundw
           case rel => exact ⟨j + 1, by omega, by go_num, by rw [← SX.out]; exact hown', hbel⟩
           case measure => (simp [intOf]) <;> omega)
     ·have hj0' : ((j : Int) == 0) = false := by rw [beq_eq_false_iff_ne]; omega
      by_cases h2 : j + 2 = c
      ·have e2 : ((j : Int) == (c : Int) - 2) = true := by rw [beq_iff_eq]; omega
       have h3' : (2 : Int) < (c : Int) := by omega
       have h2h := Lib.hid h2
       clear h2
       have KB : Hid (keep1 c j = true) := by show _ = _; unfold keep1; have := h2h.out; simp; omega
       have SX : Hid (Y ++ [true] = keeps (cs.take k) ++ (keepN c).take (j + 1)) := by show _ = _; rw [KT.out, ← List.append_assoc, HY.out, KB.out]
       go_wp2_with (at_builtin; refine append_row w wr rfl _ _ rfl w.heap.size u5 Y true rfl rfl ho.out YL (Nat.le_refl _) hb.out ?_; intro v' w5 hown' hbel)
       first
        | exact ⟨⟨j + 1, by omega, by go_num, by rw [← SX.out]; exact hown', hbel⟩, by (simp [intOf]) <;> omega⟩
        | (go_roundw
           case rel => exact ⟨j + 1, by omega, by go_num, by rw [← SX.out]; exact hown', hbel⟩
           case measure => (simp [intOf]) <;> omega)
      ·have e2 : ((j : Int) == (c : Int) - 2) = false := by rw [beq_eq_false_iff_ne]; omega
       have KB : Hid (keep1 c j = false) := by show _ = _; unfold keep1; simp <;> omega
       have SX : Hid (Y ++ [false] = keeps (cs.take k) ++ (keepN c).take (j + 1)) := by show _ = _; rw [KT.out, ← List.append_assoc, HY.out, KB.out]
       go_wp2_with (at_builtin; refine append_row w wr rfl _ _ rfl w.heap.size u5 Y false rfl rfl ho.out YL (Nat.le_refl _) hb.out ?_; intro v' w5 hown' hbel)
       first
        | exact ⟨⟨j + 1, by omega, by go_num, by rw [← SX.out]; exact hown', hbel⟩, by (simp [intOf]) <;> omega⟩
        | (go_roundw
           case rel => exact ⟨j + 1, by omega, by go_num, by rw [← SX.out]; exact hown', hbel⟩
           case measure => (simp [intOf]) <;> omega)
    ·obtain rfl : j = c := by omega
     have hjj : ¬ (j : Int) < (j : Int) := by omega
     have c1 := (hb.out.cell (p := ⟨b, off + k, none⟩) HBL.out).trans HCK.out
     have HO2 : Hid (OwnR wr w.heap.size u5 (keeps (cs.take (k + 1)))) := by
      show OwnR _ _ _ _
      rw [KK.out]
      have := ho.out
      rw [KN.out] at this
      exact this
     go_wp2_with fail
     first
      | exact ⟨⟨k + 1, by omega, by go_num, HO2.out, hb.out⟩, by (simp [intOf]) <;> omega⟩
      | (go_roundw
         case rel => exact ⟨k + 1, by omega, by go_num, HO2.out, hb.out⟩
         case measure => (simp [intOf]) <;> omega)
  ·obtain rfl : k = n := by omega
   have ho2 := ho.out
   rw [KALL.out] at ho2
   have HO2 := Lib.hid ho2
   clear ho2
   go_wp2_with (go_at_call 34; refine (l1In_any _ _ _ _).mono ?_; rintro e w' ⟨rfl, rfl⟩; rw [I0.out])
   go_ret
   exact ⟨_, rfl, HO2.out, hb.out⟩
end Go.Proofs.YtofnchdijanikaaGreatDoor
namespace Go.Proofs.YtofnchdijanikaaGreatDoor
open Go.RowKit
theorem cutP_take (l : List (List UInt8)) : ∀ (t : List Nat) (a k : Nat), k < t.length → cutP l a (t.take (k + 1)) = cutP l a (t.take k) ++ [(l.drop ((a :: t).getD k 0)).take (t.getD k 0 - (a :: t).getD k 0)]
 | [], _, _, h => by cases h
 | u :: t, a, 0, _ => by simp [cutP]
 | u :: t, a, k + 1, h => by
  have ih := cutP_take l t u k (by simpa using h)
  rw [List.take_succ_cons, cutP, ih, List.take_succ_cons, cutP]
  rfl
theorem ends_at {n : Nat} : ∀ (t : List Nat) (a k : Nat), Ends n a t → k < t.length → (a :: t).getD k 0 < t.getD k 0 ∧ t.getD k 0 ≤ n
 | [], _, _, _, h => by cases h
 | u :: t, a, 0, h, _ => ⟨h.1, h.2.1⟩
 | u :: t, a, k + 1, h, hk => ends_at t u k h.2.2 (by simpa using hk)
theorem bestP_ends {ks : List Bool} {L : Nat} {t : List Nat} (h : bestP ks L = some t) : Ends ks.length 0 t ∧ t.length ≤ ks.length := by
 unfold bestP at h
 cases hb : pgB ks L 0 with
 | none => rw [hb] at h; cases h
 | some p =>
  obtain ⟨m, u⟩ := p
  rw [hb] at h
  simp only [Option.map_some, Option.some.injEq] at h
  subst h
  have := pgP_ends (ks := ks) (L := L) (ks.length - 0) 0 (Nat.le_refl _) (Nat.zero_le _) ⟨m, u, hb⟩
  exact ⟨this.1, by omega⟩
theorem txt_part {w : World} {b off n c : Nat} {T : List (List UInt8)} (h : TxtS w (.slice (some ⟨b, off, none⟩) n c) T) (a u c' : Nat) (ha : a ≤ u) (hu : u ≤ T.length) : TxtS w (.slice (some ⟨b, off + a, none⟩) (u - a) c') ((T.drop a).take (u - a)) := by
 obtain ⟨x, cap, e, hl, hc⟩ := h
 have hlen : ((T.drop a).take (u - a)).length = u - a := by rw [List.length_take, List.length_drop]; omega
 refine ⟨some ⟨b, off + a, none⟩, c', by rw [hlen], by omega, fun j hj => ⟨b, off + a, rfl, fun i z hz => ?_⟩⟩
 have hj2 : j < u - a := by rw [hlen] at hj; exact hj
 obtain ⟨b', o', e1, h1⟩ := hc (a + j) (by omega)
 injection e with e2
 rw [e1] at e2
 injection e2 with e3
 injection e3 with e4 e5
 have := h1 i z (by rw [← hz]; congr 2; simp)
 subst e4 e5
 rw [show off + (a + j) * 1 + i = off + a + j * 1 + i by omega] at this
 exact this
theorem own_cells {w : World} {B : Nat} {v : Value} {xs : List (List UInt8)} (h : OwnT w B v xs) (hp : 0 < xs.length) : ∃ g cap, v = .slice (some ⟨g, 0, none⟩) xs.length cap ∧ xs.length ≤ cap := by
 rcases h.2 with ⟨_, h0⟩ | ⟨g, cap, cur, rfl, _, _, hc, _⟩
 ·omega
 ·exact ⟨g, cap, rfl, hc⟩
theorem ownR_form {w : World} {B : Nat} {v : Value} {ks : List Bool} (h : OwnR w B v ks) : ∃ z c, v = .slice z ks.length c := by
 rcases h.2 with ⟨rfl, h0⟩ | ⟨g, cap, cur, rfl, _⟩
 ·exact ⟨none, 0, by rw [h0]⟩
 ·exact ⟨_, _, rfl⟩
theorem pagesR_impl {B : Nat} (v : Value) (ks : List Bool) (L : Nat) (w : World) (h : OwnR w B v ks) (n30 : ks.length ≤ 30) (hL : 1 ≤ L ∧ L ≤ 30) : Calls Tryz.prog 65 #[v, .int .i64 L] w (BestPPost ks L w) := by
 by_cases hp : 0 < ks.length
 ·obtain ⟨b, cap, rfl, hc, hr⟩ := h.rows hp
  exact implPages_any b 0 cap ks.length L ks w hr n30 hp hc hL
 ·have : ks = [] := List.eq_nil_of_length_eq_zero (by omega)
  subst this
  obtain ⟨z, c, rfl⟩ := ownR_form h
  exact implPages0_any z _ L w hL
theorem pagesR_spec {B : Nat} (v : Value) (ks : List Bool) (L : Nat) (w : World) (h : OwnR w B v ks) (n30 : ks.length ≤ 30) (hL : 1 ≤ L ∧ L ≤ 30) : Calls Tryz.prog 61 #[v, .int .i64 L] w (BestPPost ks L w) := by
 by_cases hp : 0 < ks.length
 ·obtain ⟨b, cap, rfl, hc, hr⟩ := h.rows hp
  exact specPages_any b 0 cap ks.length L ks w hr n30 hp hL
 ·have : ks = [] := List.eq_nil_of_length_eq_zero (by omega)
  subst this
  obtain ⟨z, c, rfl⟩ := ownR_form h
  exact specPages0_any z _ L w hL
def BPPost (b : DBook) (w : World) (e : Ending) (w' : World) : Prop := ∃ v us, e = .returned (.tuple #[v, .bool (bookP b).isSome]) ∧ OwnSU w' w.heap.size w'.heap.size v ((bookP b).getD []) us ∧ Below w.heap.size w w'
theorem bookP_none {b : DBook} (h : bookL b = none) : bookP b = none := by unfold bookP; rw [h]
theorem bookP_over {b : DBook} {ls : List (List (List UInt8))} (h : bookL b = some ls) (h30 : ¬ ls.flatten.length ≤ 30) : bookP b = none := by unfold bookP; rw [h]; simp only; rw [if_neg h30]
theorem bookP_bad {b : DBook} {ls : List (List (List UInt8))} {L : Nat} (h : bookL b = some ls) (hL : (L : Int) = b.lines) (h2 : bestP (keeps (counts ls)) L = none) : bookP b = none := by
 have e : b.lines.toNat = L := by omega
 unfold bookP; rw [h]; simp only; split
 ·rw [e, h2]
 ·rfl
theorem bookP_good {b : DBook} {ls : List (List (List UInt8))} {L : Nat} {t : List Nat} (h : bookL b = some ls) (h30 : ls.flatten.length ≤ 30) (hL : (L : Int) = b.lines) (h2 : bestP (keeps (counts ls)) L = some t) : bookP b = some (cutP ls.flatten 0 t) := by
 have e : b.lines.toNat = L := by omega
 unfold bookP; rw [h]; simp only; rw [if_pos h30, e, h2]
theorem ownI_form {w : World} {B : Nat} {v : Value} {xs : List Int} (h : OwnI w B v xs) : ∃ z c, v = .slice z xs.length c := by
 rcases h.2 with ⟨rfl, h0⟩ | ⟨g, cap, cur, rfl, _⟩
 ·exact ⟨none, 0, by rw [h0]⟩
 ·exact ⟨_, _, rfl⟩
end Go.Proofs.YtofnchdijanikaaGreatDoor
namespace Go.Proofs.YtofnchdijanikaaGreatDoor
open Go.RowKit
set_option maxHeartbeats 16000000 in
theorem implBPages_any (b : DBook) (hv : bookB b = true) (v : Value) (w : World) (h : BookR w v b) : Calls Tryz.prog 38 #[v] w (BPPost b w) := by
 have hok := bookB_true hv
 obtain ⟨pv, qv, rfl, hp, hq⟩ := h
 obtain ⟨bw, hbw⟩ : ∃ x, x = b.w := ⟨_, rfl⟩
 obtain ⟨bm, hbm⟩ : ∃ x, x = b.most := ⟨_, rfl⟩
 obtain ⟨L, hL⟩ : ∃ L : Nat, (L : Int) = b.lines := ⟨b.lines.toNat, by have := hok.lines; omega⟩
 have hL2 : 1 ≤ L ∧ L ≤ 30 := by have := hok.lines; omega
 obtain ⟨pa, pl, pc, rfl⟩ : ∃ a l c, pv = .slice a l c := by obtain ⟨va, vc, e, _⟩ := ss_idx hp; exact ⟨_, _, _, e⟩
 obtain ⟨qa, ql, qc, rfl⟩ : ∃ a l c, qv = .slice a l c := by obtain ⟨a, c, e, _⟩ := hq; exact ⟨_, _, _, e⟩
 have BR0 : ∀ w', Below w.heap.size w w' → BookR w' (.agg #[.slice pa pl pc, .slice qa ql qc, .int .i64 b.w, .int .i64 b.most, .int .i64 b.lines]) b := fun w' hb => BookR.below ⟨_, _, rfl, hp, hq⟩ hb
 rw [← hbw, ← hbm, ← hL] at BR0 ⊢
 have A0 : Below w.heap.size w (w.alloc (.cells #[.slice pa pl pc, .slice qa ql qc, .int .i64 bw, .int .i64 bm, .int .i64 L] 27)) := (Below.refl _ _).alloc (Nat.le_refl _) _
 have AW := Lib.hid A0
 have C4 : Hid ((w.alloc (.cells #[.slice pa pl pc, .slice qa ql qc, .int .i64 bw, .int .i64 bm, .int .i64 L] 27)).cell? ⟨w.heap.size, 4, none⟩ = some (.int .i64 L)) := (box5 w 27 _ _ _ _ _).2.2.2.2
 have BLH := Lib.hid (implBLines_any b hv _ (w.alloc (.cells #[.slice pa pl pc, .slice qa ql qc, .int .i64 bw, .int .i64 bm, .int .i64 L] 27)) (BR0 _ A0))
 have HL := Lib.hid hL
 clear A0 BR0 hp hq hbw hbm hL
 cases hbl : bookL b with
 | none =>
  have E := Lib.hid (bookP_none hbl)
  have BLN : Hid (Calls Tryz.prog 64 #[.agg #[.slice pa pl pc, .slice qa ql qc, .int .i64 bw, .int .i64 bm, .int .i64 L]] (w.alloc (.cells #[.slice pa pl pc, .slice qa ql qc, .int .i64 bw, .int .i64 bm, .int .i64 L] 27)) fun e w' => ∃ v c, e = .returned (.tuple #[v, c, .bool false]) ∧ Below (w.alloc (.cells #[.slice pa pl pc, .slice qa ql qc, .int .i64 bw, .int .i64 bm, .int .i64 L] 27)).heap.size (w.alloc (.cells #[.slice pa pl pc, .slice qa ql qc, .int .i64 bw, .int .i64 bm, .int .i64 L] 27)) w') := BLH.out.mono fun e w' ⟨v, c, he, _, _, hb⟩ => ⟨v, c, by rw [he, hbl]; rfl, hb⟩
  clear BLH hbl
  go_enter Tryz.func38, Tryz.ntmps38
  go_wp2_with (go_at_call 64; refine BLN.out.mono ?_; rintro e w2 ⟨v2, c2, rfl, hb2⟩)
  go_ret2
  exact ⟨_, [], by rw [E.out]; rfl, by rw [E.out]; exact OwnSU.nil _ _ _, below_next AW.out hb2 (Nat.le_refl _)⟩
 | some ls =>
  have BTL := bookTo_len _ ls hbl
  have hcs : ∀ c ∈ counts ls, 1 ≤ c := by
   intro c hc
   unfold counts at hc
   rw [List.mem_map] at hc
   obtain ⟨l, hl, rfl⟩ := hc
   exact (BTL.2.1 l hl).1
  have hsum := BTL.2.2.1
  have EO := Lib.hid (fun h => bookP_over hbl h)
  have EB := Lib.hid (fun h => bookP_bad (L := L) hbl HL.out h)
  have EG := Lib.hid (fun h30 t h => bookP_good (L := L) (t := t) hbl h30 HL.out h)
  have hlen4 : ls.flatten.length ≤ 4000000 := by have := BTL.2.2.2; have := hok.six; omega
  have hcl : (counts ls).length = ls.length := by unfold counts; simp
  obtain ⟨T, hT⟩ : ∃ T, T = ls.flatten := ⟨_, rfl⟩
  obtain ⟨cs, hcs2⟩ : ∃ cs, cs = counts ls := ⟨_, rfl⟩
  have BLN : Hid (Calls Tryz.prog 64 #[.agg #[.slice pa pl pc, .slice qa ql qc, .int .i64 bw, .int .i64 bm, .int .i64 L]] (w.alloc (.cells #[.slice pa pl pc, .slice qa ql qc, .int .i64 bw, .int .i64 bm, .int .i64 L] 27)) fun e w' => ∃ z n c v, e = .returned (.tuple #[.slice z n c, v, .bool true]) ∧ T.length = n ∧ OwnT w' (w.alloc (.cells #[.slice pa pl pc, .slice qa ql qc, .int .i64 bw, .int .i64 bm, .int .i64 L] 27)).heap.size (.slice z n c) T ∧ OwnI w' (w.alloc (.cells #[.slice pa pl pc, .slice qa ql qc, .int .i64 bw, .int .i64 bm, .int .i64 L] 27)).heap.size v (ints cs) ∧ Below (w.alloc (.cells #[.slice pa pl pc, .slice qa ql qc, .int .i64 bw, .int .i64 bm, .int .i64 L] 27)).heap.size (w.alloc (.cells #[.slice pa pl pc, .slice qa ql qc, .int .i64 bw, .int .i64 bm, .int .i64 L] 27)) w') := BLH.out.mono fun e w' ⟨v, c, he, h1, h2, hb⟩ => by
   rw [hbl] at he h1 h2
   simp only [Option.getD_some] at h1 h2
   rw [← hT] at h1
   rw [← hcs2] at h2
   obtain ⟨z, c', rfl⟩ := own_form h1
   exact ⟨z, _, c', c, he, rfl, h1, h2, hb⟩
  rw [← hT, ← hcs2] at EG
  rw [← hcs2] at EB hcs hsum
  rw [← hT] at EO hsum hlen4
  clear BLH hbl BTL hT hcl hcs2
  obtain ⟨N, hN⟩ : ∃ N, N = T.length := ⟨_, rfl⟩
  rw [← hN] at BLN EO hlen4 hsum EG
  by_cases h30 : N ≤ 30
  ·have h30' : ¬ (30 : Int) < (N : Int) := by omega
   have hk30 : (keeps cs).length ≤ 30 := by rw [keeps_len]; omega
   have HKN : Hid ((keeps cs).length = N) := by show _ = _; rw [keeps_len]; omega
   have PR := Lib.hid (fun v w' (h : IRow w' v (ints cs)) => implPRows_any v cs hcs (by omega) w' h)
   have BP := Lib.hid (fun B v w' (h : OwnR w' B v (keeps cs)) => pagesR_impl v (keeps cs) L w' h hk30 hL2)
   have HNN := Lib.hid hN
   clear hsum hcs hN hk30
   go_enter Tryz.func38, Tryz.ntmps38
   go_wp2_with (go_at_call 64; refine BLN.out.mono ?_; rintro e w2 ⟨z9, n9, c9, v2, rfl, rfl, o9, oc, hb2⟩; have HO9 := Lib.hid o9; have HOC := Lib.hid oc; have k4 := keepc C4.out hb2; have B2 := Lib.hid (below_next AW.out hb2 (Nat.le_refl _)))
   have kk := (show w2.drew.cell? ⟨w.heap.size, 4, none⟩ = some (.int .i64 L) from k4)
   have PRH := Lib.hid (PR.out v2 w2.drew (IRow.below (OwnI.row HOC.out) ((Below.refl _ _).drew)))
   clear k4
   cases hbp : bestP (keeps cs) L with
   | none =>
    have E := Lib.hid (EB.out hbp)
    have BPN : Hid (∀ B v w', OwnR w' B v (keeps cs) → Calls Tryz.prog 65 #[v, .int .i64 L] w' fun e w6 => ∃ v6, e = .returned (.tuple #[v6, .bool false]) ∧ Below w'.heap.size w' w6) := fun B v w' h => (BP.out B v w' h).mono fun e w6 ⟨v6, he, _, hb⟩ => ⟨v6, by rw [he, hbp]; rfl, hb⟩
    clear hbp BP EB EG
    go_region_held3 (fun w' => w'.cell? ⟨w.heap.size, 4, none⟩ = some (.int .i64 L)) (first | with_reducible exact kk | with_reducible exact kk5 | with_reducible exact kk6) (first | (go_at_call 66; refine PRH.out.mono ?_; rintro e w5 ⟨v5, rfl, o5, hb5⟩; obtain ⟨z5, c5, rfl⟩ := ownR_form o5; have BPH := Lib.hid (BPN.out _ _ w5 o5); with_reducible have kk5 := keepc kk hb5) | (go_at_call 65; refine BPH.out.mono ?_; rintro e w6 ⟨v6, rfl, hb6⟩; with_reducible have kk6 := keepc kk5 hb6))
    go_wp2_with fail
    go_ret2
    exact ⟨_, [], by rw [E.out]; rfl, by rw [E.out]; exact OwnSU.nil _ _ _, below_next B2.out (below_next ((Below.refl _ _).drew) (below_next hb5 hb6 (Nat.le_refl _)) (Nat.le_refl _)) (Nat.le_refl _)⟩
   | some t =>
    have E := Lib.hid (EG.out h30 t hbp)
    have HE0 := bestP_ends hbp
    have HE := Lib.hid (show Ends N 0 t by have := HE0.1; rw [HKN.out] at this; exact this)
    have BPS : Hid (∀ B v w', OwnR w' B v (keeps cs) → Calls Tryz.prog 65 #[v, .int .i64 L] w' fun e w6 => ∃ z n c, e = .returned (.tuple #[.slice z n c, .bool true]) ∧ t.length = n ∧ OwnI w6 w'.heap.size (.slice z n c) (ints t) ∧ Below w'.heap.size w' w6) := fun B v w' h => (BP.out B v w' h).mono fun e w6 ⟨v6, he, ho, hb⟩ => by
     rw [hbp] at he ho
     simp only [Option.getD_some] at ho
     obtain ⟨z, c, rfl⟩ := ownI_form ho
     exact ⟨z, _, c, he, by simp [ints], ho, hb⟩
    have tl : t.length ≤ 30 := by have := HE0.2; have := HKN.out; omega
    have TA := Lib.hid (show t.take t.length = t from List.take_length)
    have CT := Lib.hid (fun k (hk : k < t.length) => cutP_take T t 0 k hk)
    have EA := Lib.hid (fun k (hk : k < t.length) => ends_at t 0 k HE.out hk)
    have TG := Lib.hid (fun k => ints_getN t k)
    have CL := Lib.hid (fun k => cutP_len T (t.take k) 0)
    obtain ⟨n, hn⟩ : ∃ n, n = t.length := ⟨_, rfl⟩
    rw [← hn] at BPS tl TA CT EA
    have HLN : Hid (n = t.length) := hn
    clear hbp BP EB EG HE0 hn
    go_region_held3 (fun w' => w'.cell? ⟨w.heap.size, 4, none⟩ = some (.int .i64 L)) (first | with_reducible exact kk | with_reducible exact kk5 | with_reducible exact kk6) (first | (go_at_call 66; refine PRH.out.mono ?_; rintro e w5 ⟨v5, rfl, o5, hb5⟩; obtain ⟨z5, c5, rfl⟩ := ownR_form o5; have BPH := Lib.hid (BPS.out _ _ w5 o5); with_reducible have kk5 := keepc kk hb5) | (go_at_call 65; refine BPH.out.mono ?_; rintro e w6 ⟨z6, n6, c6, rfl, rfl, o6, hb6⟩; have HO6 := Lib.hid o6; with_reducible have kk6 := keepc kk5 hb6))
    have B6 := Lib.hid (below_next ((Below.refl w2.heap.size w2).drew) (below_next hb5 hb6 (Nat.le_refl _)) (Nat.le_refl _))
    have BW := Lib.hid (below_next B2.out B6.out (Nat.le_refl _))
    have S6 := Lib.hid BW.out.size
    have U0 := Lib.hid (OwnSU.nil w6 w6.heap.size w6.heap.size)
    have HI : Hid (∀ k, k < n → ∃ b1 o1, z6 = some ⟨b1, o1, none⟩ ∧ b1 < w6.heap.size ∧ w6.cell? ⟨b1, o1 + k, none⟩ = some (.int .i64 ((t.getD k 0 : Nat) : Int))) := fun k hk => by
     obtain ⟨z, c, e, _, hc⟩ := OwnI.row HO6.out
     obtain ⟨b1, o1, e1, c1⟩ := hc k (by rw [ints_len, ← HLN.out]; exact hk)
     injection e with e2 e3 e4
     rw [TG.out] at c1
     exact ⟨b1, o1, e2.trans e1, World.block_lt_of_cell? w6 _ c1, c1⟩
    have HX : Hid (∀ wr, Below w6.heap.size w6 wr → ∀ a u, a < u → u ≤ N → ∃ g, z9 = some ⟨g, 0, none⟩ ∧ N ≤ c9 ∧ ∀ c', TxtS wr (.slice (some ⟨g, a, none⟩) (u - a) c') ((T.drop a).take (u - a))) := fun wr hb a u h1 h2 => by
     obtain ⟨g, cap, e, hc⟩ := own_cells HO9.out (by rw [← HNN.out]; omega)
     injection e with e2 e3 e4
     have hr := (OwnT.row HO9.out).below (below_next B6.out hb (Nat.le_refl _))
     rw [e2] at hr
     refine ⟨g, e2, by rw [HNN.out, e4]; exact hc, fun c' => ?_⟩
     have := txt_part hr a u c' (by omega) (by rw [← HNN.out]; exact h2)
     rw [Nat.zero_add] at this
     exact this
    clear kk kk5 kk6 hb5 hb6 PRH BPH
    go_wp2_with fail
    go_loopw [8, 9, 37] (fun v fr i wr => ∃ (k : Nat) (us : List Value), k ≤ n ∧ i = .int .i64 k ∧ fr = .int .i64 (((0 :: t).getD k 0 : Nat) : Int) ∧ Hid (OwnSU wr w6.heap.size wr.heap.size v (cutP T 0 (t.take k)) us) ∧ Hid (Below w6.heap.size w6 wr)) (fun _ _ i _ => n - (intOf i).toNat)
    case atStart => exact ⟨0, [], Nat.zero_le _, rfl, rfl, U0.out, Below.refl _ _⟩
    case round =>
     obtain ⟨k, us, hk, rfl, rfl, h1, h2⟩ := hrel
     clear U0
     by_cases hkn : k < n
     ·have hkn' : (k : Int) < (n : Int) := by omega
      obtain ⟨b1, o1, rfl, b2, c1⟩ := HI.out k hkn
      have c2 := (h2.out.cell (p := ⟨b1, o1 + k, none⟩) b2).trans c1
      obtain ⟨au, uN⟩ := EA.out k hkn
      have CTk := Lib.hid (CT.out k hkn)
      have NX : Hid ((0 :: t).getD (k + 1) 0 = t.getD k 0) := rfl
      have CLk : (cutP T 0 (t.take k)).length ≤ 4000000 := by have := CL.out k; rw [List.length_take] at this; omega
      obtain ⟨a, ha⟩ : ∃ a, a = (0 :: t).getD k 0 := ⟨_, rfl⟩
      obtain ⟨u, hu⟩ : ∃ u, u = t.getD k 0 := ⟨_, rfl⟩
      rw [← ha, ← hu] at au CTk
      rw [← hu] at uN c2 NX
      rw [← ha]
      obtain ⟨g, rfl, nc, hx⟩ := HX.out wr h2.out a u au uN
      have HXX := Lib.hid hx
      have au2 : (a : Int) ≤ (u : Int) := by omega
      have uc : (u : Int) ≤ (c9 : Int) := by omega
      have na : ¬ c9 = a := by omega
      have YL : ((T.drop a).take (u - a)).length ≤ 4000000 := by rw [List.length_take]; omega
      have N0 := OwnT.nil wr wr.heap.size
      obtain ⟨X, hX⟩ : ∃ X, X = cutP T 0 (t.take k) := ⟨_, rfl⟩
      obtain ⟨p, hp⟩ : ∃ p, p = (T.drop a).take (u - a) := ⟨_, rfl⟩
      rw [← hX] at CLk h1 CTk
      rw [← hp] at CTk HXX YL
      clear c1 hX hp hx ha hu hkn
      go_wp2_with (first | (at_builtin; refine append_strs wr wr rfl _ _ rfl wr.heap.size (.slice none 0 0) [] p (.slice (some ⟨g, a, none⟩) (u - a) (c9 - a)) rfl rfl N0 (HXX.out _) (fun c n e => by injection e with e1; cases e1) (by decide) YL (Nat.le_refl _) (Below.refl _ _) ?_; intro v1 w7 ho1 hb7 hm1 hg1; obtain ⟨z, zc, rfl⟩ := own_form ho1; have D1 := Lib.hid (moved_nil hm1); have U5 := Lib.hid (h1.out.below hb7); have B7 := Lib.hid (below_next h2.out hb7 (Nat.le_refl _)); have P5 := Lib.hid (ho1.mono (show w6.heap.size ≤ wr.heap.size from h2.out.size)); have S7 := Lib.hid hb7.size) | (at_builtin; refine append_ss w6 w7 rfl _ _ rfl w6.heap.size wr.heap.size u8 X us z p.length zc p rfl rfl U5.out S7.out P5.out D1.out CLk (Nat.le_refl _) B7.out ?_; intro v' w8 hown2 hbel2 hmv2 hgr2))
      first
       | exact ⟨⟨k + 1, us ++ [.slice z p.length zc], by omega, by go_num, by rw [NX.out], by rw [CTk.out]; exact hown2, hbel2⟩, by (simp [intOf]) <;> omega⟩
       | (go_roundw
          case rel => exact ⟨k + 1, us ++ [.slice z p.length zc], by omega, by go_num, by rw [NX.out], by rw [CTk.out]; exact hown2, hbel2⟩
          case measure => (simp [intOf]) <;> omega)
     ·obtain rfl : k = n := by omega
      have TAK := TA.out
      have HF : Hid (OwnSU wr w.heap.size wr.heap.size u8 (cutP T 0 t) us) := by
       have := h1.out.mono S6.out
       rw [TAK] at this
       exact this
      go_wp2_with fail
      go_ret2
      exact ⟨_, us, by rw [E.out]; rfl, by rw [E.out]; exact HF.out, below_next BW.out h2.out (Nat.le_refl _)⟩
  ·have h30' : (30 : Int) < (N : Int) := by omega
   have E := Lib.hid (EO.out (by omega))
   go_enter Tryz.func38, Tryz.ntmps38
   go_wp2_with (go_at_call 64; refine BLN.out.mono ?_; rintro e w2 ⟨z9, n9, c9, v2, rfl, rfl, o9, oc, hb2⟩; have B2 := Lib.hid (below_next AW.out hb2 (Nat.le_refl _)))
   go_ret2
   exact ⟨_, [], by rw [E.out]; rfl, by rw [E.out]; exact OwnSU.nil _ _ _, B2.out⟩
end Go.Proofs.YtofnchdijanikaaGreatDoor

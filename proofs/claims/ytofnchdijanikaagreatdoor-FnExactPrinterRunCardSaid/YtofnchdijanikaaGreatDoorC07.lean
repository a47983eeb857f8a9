/-
  PROVED HERE: what the printer's lines need, part C07. Conditions: each theorem's own.
-/
import Derived.Test.YtofnchdijanikaaGreatDoorC01
import Derived.OwnWalk
import Derived.ArgAppend
import Derived.Deep.Onto
import Derived.Laws.AppendOwnNone
import Derived.Test.YtofnchdijanikaaGreatDoorC04
import Derived.Test.YtofnchdijanikaaGreatDoorC06
set_option linter.unusedVariables false
set_option linter.unusedSimpArgs false
set_option maxRecDepth 100000
namespace Go.Proofs.YtofnchdijanikaaGreatDoor
open Go.RowKit
def Moved (w : World) (v v' : Value) : Prop := v'.ownBlock = v.ownBlock ∨ ∀ k, v'.ownBlock = some k → w.heap.size ≤ k
theorem Moved.apart {w : World} {v v' : Value} {g : Nat} (h : Moved w v v') (h1 : some g ≠ v.ownBlock) (h2 : g < w.heap.size) : some g ≠ v'.ownBlock := by
 rcases h with h | h
 ·rw [h]; exact h1
 ·intro e
  have := h g e.symm
  omega
theorem append_mine {P : Program} (w : World) {ops : Array Oper} {rest : List Oper} {o : Oper} {a : Act} {Q : Exit → Act → World → Prop} (hgd : o.guard = none) (s x : Operand) (t : TypeId)
  (ho : o.op = .call { callee := .builtin .append, args := #[s, x], argTypes := #[t, t] })
  (base : Nat) (e : TypeId) (i : TypeInfo) (z : Value) (size bytes : Nat) (ht : P.underlying t = some (.slice e)) (hi : P.info? e = some i) (hz : i.zero = some z)
  (hsize : i.size = size) (hby : i.bytes = bytes) (hzs : z.cells.size = size) (hsz : 0 < size)
  (v : Value) (n : Nat) (xs : List Value) (hs : a.eval s = v) (hown : w.ownsRow base e size v n xs)
  (ad : Addr) (m c : Nat) (news : List Value) (hx : a.eval x = .slice (some ad) m c) (hl : news.length = m * size) (hnews : ∀ j u, news[j]? = some u → w.cell? (ad.add j) = some u) (h1 : ∀ u ∈ news, u.oneCell' = true)
  (h63 : n + m ≤ maxLen) (hbytes : (n + m) * bytes ≤ 140737488355328) (hbase : base ≤ w.heap.size)
  (h : ∀ v' w', w'.ownsRow base e size v' (n + m) (xs ++ news) → w.grownBy w' v.ownBlock → Moved w v v' → wpList P ops Q rest (a.put o.dst v') w') : wpList P ops Q (o :: rest) a w := by
 rcases hown.2 with ⟨rfl, hn0⟩ | ⟨g, cap, cur, rfl, hgb, _⟩
 ·by_cases hm : m = 0
  ·refine wpList_append_own w hgd s x t ho base e i z size bytes ht hi hz hsize hby hzs hsz _ n xs hs hown ad m c news hx hl hnews h1 h63 hbytes hbase ?_
   intro v' w' h2 h3 h4
   refine h v' w' h2 h3 (.inl ?_)
   rw [h4.2 ⟨rfl, hm⟩]
  ·subst hn0
   have hxs : xs = [] := by have := hown.1; exact List.eq_nil_of_length_eq_zero (by simpa using this)
   subst hxs
   refine wpList_append_grows w hgd s x t ho e i z size bytes ht hi hz hsize hby hzs hsz none 0 0 [] hs (fun _ => ⟨rfl, rfl⟩) (by simp) (fun b hb => by cases hb) ad m c news hx hl hnews h1 (by omega) h63 hbytes ?_
   intro v' w' h2 h3
   exact h v' w' (World.ownsRow.mono h2 hbase) h3 (.inr fun k hk => (h2.lt k hk).1)
 ·by_cases hc : n + m ≤ cap
  ·refine wpList_append_fits w hgd s x t ho base e i size ht hi hsize g n cap xs hs hown ad m c news hx hl hnews h1 hc ?_
   intro w' h2 h3
   exact h _ w' h2 h3 (.inl rfl)
  ·refine wpList_append_grows w hgd s x t ho e i z size bytes ht hi hz hsize hby hzs hsz (some ⟨g, 0, none⟩) n cap xs hs (fun h => by cases h) hown.1 ?_ ad m c news hx hl hnews h1 (by omega) h63 hbytes ?_
   ·intro b hb j u hu
    cases hb
    have hj : j < n * size := by rw [← hown.1]; exact (List.getElem?_eq_some_iff.1 hu).1
    have e1 : ((⟨g, 0, none⟩ : Addr).add j) = ⟨g, j, none⟩ := by unfold Addr.add; split <;> simp_all
    rw [e1, hown.cellAt j hj]
    exact hu
   ·intro v' w' h2 h3
    exact h v' w' (World.ownsRow.mono h2 hbase) ⟨h3.os, h3.tape, h3.output, h3.size, fun k hk _ => h3.block k hk (by simp)⟩ (.inr fun k hk => (h2.lt k hk).1)
end Go.Proofs.YtofnchdijanikaaGreatDoor
namespace Go.Proofs.YtofnchdijanikaaGreatDoor
open Go.RowKit
theorem info_str : (Tryz.prog.info? 9).map (fun i => (i.zero, i.size, i.bytes)) = some (some (.string ByteArray.empty), 1, 16) := by kernel_rfl
theorem info_int : (Tryz.prog.info? 3).map (fun i => (i.zero, i.size, i.bytes)) = some (some (.int .i64 0), 1, 8) := by kernel_rfl
def OwnT (w : World) (B : Nat) (v : Value) (xs : List (List UInt8)) : Prop := w.ownsRow B 9 1 v xs.length (xs.flatMap encB)
def OwnI (w : World) (B : Nat) (v : Value) (xs : List Int) : Prop := w.ownsRow B 3 1 v xs.length (xs.map (Value.int .i64))
theorem flat_encB (xs : List (List UInt8)) : (xs.flatMap encB).length = xs.length := by
 induction xs with
 | nil => rfl
 | cons x t ih => rw [List.flatMap_cons, List.length_append, ih, List.length_cons, encB_len]; omega
theorem OwnT.nil (w : World) (B : Nat) : OwnT w B (.slice none 0 0) [] := ⟨rfl, .inl ⟨rfl, rfl⟩⟩
theorem OwnI.nil (w : World) (B : Nat) : OwnI w B (.slice none 0 0) [] := ⟨rfl, .inl ⟨rfl, rfl⟩⟩
theorem OwnT.made (w : World) {B : Nat} (hB : B ≤ w.heap.size) : OwnT (w.alloc (.cells #[] 9)) B (.slice (some ⟨w.heap.size, 0, none⟩) 0 0) [] := World.ownsRow_made w #[] 0 hB (Nat.zero_le _) rfl
theorem OwnI.made (w : World) {B : Nat} (hB : B ≤ w.heap.size) : OwnI (w.alloc (.cells #[] 3)) B (.slice (some ⟨w.heap.size, 0, none⟩) 0 0) [] := World.ownsRow_made w #[] 0 hB (Nat.zero_le _) rfl
theorem owns_one (w : World) {B : Nat} (E : TypeId) (u : Value) (hB : B ≤ w.heap.size) : (w.alloc (.cells #[u] E)).ownsRow B E 1 (.slice (some ⟨w.heap.size, 0, none⟩) 1 1) 1 [u] :=
 ⟨rfl, .inr ⟨w.heap.size, 1, #[u], rfl, hB, heap_alloc_new w _, Nat.le_refl _, by unfold maxLen; omega, rfl, rfl⟩⟩
theorem OwnT.row {w : World} {B : Nat} {v : Value} {xs : List (List UInt8)} (h : OwnT w B v xs) : TxtS w v xs := SRow.of_owns encB_len rfl h
theorem OwnI.row {w : World} {B : Nat} {v : Value} {xs : List Int} (h : OwnI w B v xs) : IRow w v xs := IRow.of_owns h
theorem OwnT.below {w w' : World} {B : Nat} {v : Value} {xs : List (List UInt8)} (h : OwnT w B v xs) (hb : Below w.heap.size w w') : OwnT w' B v xs := owns_below h hb
theorem OwnI.below {w w' : World} {B : Nat} {v : Value} {xs : List Int} (h : OwnI w B v xs) (hb : Below w.heap.size w w') : OwnI w' B v xs := owns_below h hb
theorem OwnT.mono {w : World} {B B' : Nat} {v : Value} {xs : List (List UInt8)} (h : OwnT w B v xs) (hb : B' ≤ B) : OwnT w B' v xs := World.ownsRow.mono h hb
theorem OwnI.mono {w : World} {B B' : Nat} {v : Value} {xs : List Int} (h : OwnI w B v xs) (hb : B' ≤ B) : OwnI w B' v xs := World.ownsRow.mono h hb
theorem append_str (w wr : World) {ops : Array Oper} {rest : List Oper} {o : Oper} {a : Act} {Q : Exit → Act → World → Prop} (hgd : o.guard = none) (s x : Operand)
  (ho : o.op = .call { callee := .builtin .append, args := #[s, x], argTypes := #[23, 23] }) (B : Nat) (v : Value) (xs : List (List UInt8)) (l : List UInt8)
  (hs : a.eval s = v) (hx : a.eval x = .slice (some ⟨wr.heap.size, 0, none⟩) 1 1) (hown : OwnT wr B v xs) (hn : xs.length ≤ 4000000) (hB : B ≤ w.heap.size) (hb : Below B w wr)
  (h : ∀ v' w', OwnT w' B v' (xs ++ [l]) → Below B w w' → Moved (wr.alloc (.cells #[.string (bs l)] 9)) v v' → wr.grownBy w' v.ownBlock → wpList Tryz.prog ops Q rest (a.put o.dst v') w') :
  wpList Tryz.prog ops Q (o :: rest) a (wr.alloc (.cells #[.string (bs l)] 9)) := by
 obtain ⟨i0, hi, hz0, hz1, hz2⟩ := info_parts info_str
 have hws := hb.size
 refine append_mine _ hgd s x 23 ho B 9 i0 (.string ByteArray.empty) 1 16 Tryz.underlying23 hi hz0 hz1 hz2 rfl (by decide) v xs.length _ hs (World.ownsRow.alloc hown _) ⟨wr.heap.size, 0, none⟩ 1 1 [.string (bs l)] hx rfl (by simpa using cells_new wr [_] _) (by intro u hu; simp at hu; subst hu; rfl) (by unfold maxLen; omega) (by omega) (by simp; omega) ?_
 intro v' w' h1 h2 h3
 refine h v' w' ?_ ?_ h3 (grownBy_trans (World.grownBy_alloc wr _ _) h2)
 ·unfold OwnT
  rw [List.length_append, List.flatMap_append]
  exact h1
 ·exact below_append hb hB hown h2
theorem append_num (w wr : World) {ops : Array Oper} {rest : List Oper} {o : Oper} {a : Act} {Q : Exit → Act → World → Prop} (hgd : o.guard = none) (s x : Operand)
  (ho : o.op = .call { callee := .builtin .append, args := #[s, x], argTypes := #[72, 72] }) (B : Nat) (v : Value) (xs : List Int) (l : Int)
  (hs : a.eval s = v) (hx : a.eval x = .slice (some ⟨wr.heap.size, 0, none⟩) 1 1) (hown : OwnI wr B v xs) (hn : xs.length ≤ 4000000) (hB : B ≤ w.heap.size) (hb : Below B w wr)
  (h : ∀ v' w', OwnI w' B v' (xs ++ [l]) → Below B w w' → Moved (wr.alloc (.cells #[.int .i64 l] 3)) v v' → wr.grownBy w' v.ownBlock → wpList Tryz.prog ops Q rest (a.put o.dst v') w') :
  wpList Tryz.prog ops Q (o :: rest) a (wr.alloc (.cells #[.int .i64 l] 3)) := by
 obtain ⟨i0, hi, hz0, hz1, hz2⟩ := info_parts info_int
 have hws := hb.size
 refine append_mine _ hgd s x 72 ho B 3 i0 (.int .i64 0) 1 8 Tryz.underlying72 hi hz0 hz1 hz2 rfl (by decide) v xs.length _ hs (World.ownsRow.alloc hown _) ⟨wr.heap.size, 0, none⟩ 1 1 [.int .i64 l] hx rfl (by simpa using cells_new wr [_] _) (by intro u hu; simp at hu; subst hu; rfl) (by unfold maxLen; omega) (by omega) (by simp; omega) ?_
 intro v' w' h1 h2 h3
 refine h v' w' ?_ ?_ h3 (grownBy_trans (World.grownBy_alloc wr _ _) h2)
 ·unfold OwnI
  rw [List.length_append, List.map_append]
  exact h1
 ·exact below_append hb hB hown h2
theorem append_strs (w wr : World) {ops : Array Oper} {rest : List Oper} {o : Oper} {a : Act} {Q : Exit → Act → World → Prop} (hgd : o.guard = none) (s x : Operand)
  (ho : o.op = .call { callee := .builtin .append, args := #[s, x], argTypes := #[23, 23] }) (B : Nat) (v : Value) (xs ys : List (List UInt8)) (u : Value)
  (hs : a.eval s = v) (hx : a.eval x = u) (hown : OwnT wr B v xs) (hu : TxtS wr u ys) (hz : ∀ c n, u = .slice none n c → c = 0) (hn : xs.length ≤ 4000000) (hm : ys.length ≤ 4000000) (hB : B ≤ w.heap.size) (hb : Below B w wr)
  (h : ∀ v' w', OwnT w' B v' (xs ++ ys) → Below B w w' → Moved wr v v' → wr.grownBy w' v.ownBlock → wpList Tryz.prog ops Q rest (a.put o.dst v') w') :
  wpList Tryz.prog ops Q (o :: rest) a wr := by
 obtain ⟨i0, hi, hz0, hz1, hz2⟩ := info_parts info_str
 have hws := hb.size
 have fin : ∀ v' w', w'.ownsRow B 9 1 v' (xs.length + ys.length) (xs.flatMap encB ++ ys.flatMap encB) → wr.grownBy w' v.ownBlock → Moved wr v v' → wpList Tryz.prog ops Q rest (a.put o.dst v') w' := by
  intro v' w' h1 h2 h3
  refine h v' w' ?_ (below_grown hb h2 hown (Nat.le_refl _) hB) h3 h2
  unfold OwnT
  rw [List.length_append, List.flatMap_append]
  exact h1
 by_cases h0 : ys.length = 0
 ·obtain rfl : ys = [] := List.eq_nil_of_length_eq_zero h0
  obtain ⟨ad, cap, rfl⟩ := hu.empty
  cases ad with
  | none =>
   obtain rfl := hz cap 0 rfl
   refine wpList_append_own_none hgd s x 23 ho B 9 i0 1 Tryz.underlying23 hi v xs.length _ hs hown hx ?_
   exact fin v wr (by simpa [OwnT] using hown) (grownBy_refl _ _) (.inl rfl)
  | some ad =>
   exact append_mine _ hgd s x 23 ho B 9 i0 (.string ByteArray.empty) 1 16 Tryz.underlying23 hi hz0 hz1 hz2 rfl (by decide) v xs.length _ hs hown ad 0 cap [] hx rfl (by intro j u hu; simp at hu) (by intro u hu; cases hu) (by unfold maxLen; omega) (by omega) (by omega) fin
 ·obtain ⟨b, off, cap, rfl, hbl, hc⟩ := hu.pos encB_pos (by omega)
  refine append_mine _ hgd s x 23 ho B 9 i0 (.string ByteArray.empty) 1 16 Tryz.underlying23 hi hz0 hz1 hz2 rfl (by decide) v xs.length _ hs hown ⟨b, off, none⟩ ys.length cap (ys.flatMap encB) hx (by rw [flat_encB]; omega) ?_ ?_ (by unfold maxLen; omega) (by omega) (by omega) fin
  ·intro j u hu
   have hj : j < ys.length := by rw [← flat_encB]; exact (List.getElem?_eq_some_iff.1 hu).1
   have hg := flatMap_get encB 1 ys j 0 hj (fun x _ => encB_len x) (by decide)
   rw [Nat.mul_one, Nat.add_zero] at hg
   rw [hg] at hu
   have e := hc j hj 0 u hu
   rw [Nat.mul_one, Nat.add_zero] at e
   have e1 : ((⟨b, off, none⟩ : Addr).add j) = ⟨b, off + j, none⟩ := by unfold Addr.add; split <;> simp_all
   rw [e1]
   exact e
  ·intro u hu
   rw [List.mem_flatMap] at hu
   obtain ⟨x, _, hu⟩ := hu
   unfold encB at hu
   rw [List.mem_singleton] at hu
   subst hu
   rfl
end Go.Proofs.YtofnchdijanikaaGreatDoor
namespace Go.Proofs.YtofnchdijanikaaGreatDoor
open Go.RowKit
theorem take_one (l : List UInt8) (k : Nat) (h : k < l.length) : l.take (k + 1) = l.take k ++ [l.getD k 0] := by
 rw [List.take_succ_eq_append_getElem h]
 simp [List.getD, h]
theorem bs_sub (l : List UInt8) (a b : Nat) : (bs l).extract a b = bs ((l.drop a).take (b - a)) := by
 apply ByteArray.ext
 simp [bs, ByteArray.data_extract]
theorem bs_byte (l : List UInt8) (k : Nat) (h : k < l.length) : (bs l).extract k (k + 1) = bs [l.getD k 0] := by
 rw [bs_sub, show k + 1 - k = 1 by omega, List.drop_eq_getElem_cons h]
 simp only [List.getD, List.getElem?_eq_getElem h]
 rfl
theorem patL_snoc (q : List UInt8) (c : UInt8) : patL (q ++ [c]) = patL q ++ (if dgB c = true then [] else [c]) := by
 unfold patL
 rw [List.filter_append]
 congr 1
 cases hc : dgB c <;> simp [hc]
def lvRow (q : List UInt8) : List Int := (levSt q).1 ++ [(levSt q).2]
theorem lvRow_len (q : List UInt8) : (lvRow q).length = (levSt q).1.length + 1 := by simp [lvRow]
theorem levSt_le (q : List UInt8) : (levSt q).1.length ≤ q.length := by
 have := levSt_len _ q rfl
 omega
theorem u8_sub48 (c : UInt8) (h : dgB c = true) : IntKind.u8.wrap (((c.toNat : Nat) : Int) - 48) = (((c.toNat : Nat) : Int) - 48) := by
 obtain ⟨_, _, h1, h2⟩ := dg_not h
 exact IntWalk.u8_in _ (by omega)
def PartsPost (s : List UInt8) (xs : List Int) (w : World) (e : Ending) (w' : World) : Prop := ∃ v, e = .returned (.tuple #[.string (bs s), v]) ∧ OwnI w' w.heap.size v xs ∧ Below w.heap.size w w'
def NumsPost (xs : List Int) (w : World) (e : Ending) (w' : World) : Prop := ∃ v, e = .returned v ∧ OwnI w' w.heap.size v xs ∧ Below w.heap.size w w'
def TxtsPost (xs : List (List UInt8)) (w : World) (e : Ending) (w' : World) : Prop := ∃ v, e = .returned v ∧ OwnT w' w.heap.size v xs ∧ Below w.heap.size w w'
set_option maxHeartbeats 4000000 in
theorem implParts_any (p : List UInt8) (hp : patB p = true) (w : World) : Calls Tryz.prog 193 #[.string (bs p)] w (PartsPost (patL p) (patV p) w) := by
 obtain ⟨n, hn⟩ : ∃ n, n = p.length := ⟨_, rfl⟩
 have hl : n ≤ 12 := by rw [hn]; exact pat_len hp
 have hs : (bs p).size = n := by rw [hn, bs_len]
 have hs2 : p.length = n := hn.symm
 have IX := Lib.hid (fun k (hk : k < n) => idx_byte p k (by rw [← hn]; exact hk))
 have HN := Lib.hid hn
 have O0 := Lib.hid (show OwnI (w.alloc (.cells #[.int .i64 0] 3)) w.heap.size (.slice (some ⟨w.heap.size, 0, none⟩) 1 1) (lvRow (p.take 0)) from owns_one w 3 (.int .i64 0) (Nat.le_refl _))
 have B0 := Lib.hid ((Below.refl w.heap.size w).alloc (Nat.le_refl _) (.cells #[.int .i64 0] 3))
 clear hn hp
 go_enter Tryz.func193, Tryz.ntmps193
 go_wp2
 go_loopw [4, 5, 10] (fun sv v i wr => ∃ k : Nat, k ≤ n ∧ sv = .string (bs (patL (p.take k))) ∧ i = .int .i64 k ∧ Hid (OwnI wr w.heap.size v (lvRow (p.take k))) ∧ Hid (Below w.heap.size w wr)) (fun _ _ i _ => n - (intOf i).toNat)
 case atStart => exact ⟨0, Nat.zero_le _, rfl, rfl, O0.out, B0.out⟩
 case round =>
  obtain ⟨k, hk, rfl, rfl, ho, hb⟩ := hrel
  clear O0 B0
  have hwr := hb.out.size
  by_cases hlt : k < n
  ·have ix := IX.out k hlt (k : Int) rfl
   have TS := Lib.hid (take_one p k (by omega))
   have BB := bs_byte p k (by omega)
   have hrl : (levSt (p.take k)).1.length ≤ 12 := by have := levSt_le (p.take k); rw [List.length_take] at this; omega
   have hpl : (patL (p.take k)).length ≤ 12 := by have := patL_le (p.take k); rw [List.length_take] at this; omega
   obtain ⟨c, hc⟩ : ∃ c, c = p.getD k 0 := ⟨_, rfl⟩
   rw [← hc] at ix TS BB
   clear hc
   have PS := Lib.hid (patL_snoc (p.take k) c)
   have LS := Lib.hid (levSt_snoc (p.take k) c)
   rw [← TS.out] at PS LS
   obtain ⟨q, hq⟩ : ∃ q, q = p.take k := ⟨_, rfl⟩
   obtain ⟨q2, hq2⟩ : ∃ q2, q2 = p.take (k + 1) := ⟨_, rfl⟩
   rw [← hq] at PS LS ho hrl hpl ⊢
   rw [← hq2] at PS LS
   have HQ2 := Lib.hid hq2
   clear TS hq hq2
   cases hdg : dgB c
   ·have P2 : Hid (patL q2 = patL q ++ [c]) := by show _ = _; rw [PS.out, hdg]; rfl
    have L2 : Hid (lvRow q2 = lvRow q ++ [0]) := by show _ = _; unfold lvRow; rw [LS.out, hdg]; rfl
    have RL : (lvRow q).length ≤ 4000000 := by rw [lvRow_len]; omega
    have HD := Lib.hid hdg
    obtain ⟨s, hs'⟩ : ∃ s, s = patL q := ⟨_, rfl⟩
    rw [← hs'] at P2 hpl ⊢
    have hbs : (bs s).size = s.length := bs_len s
    have hb1 : (bs [c]).size = 1 := rfl
    have hcat : ¬ 9223372036854775807 < s.length + 1 := by omega
    clear hdg PS LS hs' hrl
    go_wp2_with (first | (go_at_call 96; refine (digit_any _ _).mono ?_; rintro e w' ⟨rfl, rfl⟩; rw [HD.out]) | (at_builtin; (refine append_num w wr rfl _ _ rfl w.heap.size u5 (lvRow q) 0 rfl rfl ho.out RL (Nat.le_refl _) hb.out ?_; intro v' w5 hown' hbel hmv _)))
    go_roundw
    case rel => exact ⟨k + 1, by omega, by rw [← HQ2.out, P2.out, bs_append], by go_num, by rw [← HQ2.out, L2.out]; exact hown', hbel⟩
    case measure => simp [intOf]; omega
   ·have P2 : Hid (patL q2 = patL q) := by show _ = _; rw [PS.out, hdg]; exact List.append_nil _
    have L2 : Hid (lvRow q2 = (levSt q).1 ++ [((c.toNat : Nat) : Int) - 48]) := by show _ = _; unfold lvRow; rw [LS.out, hdg]; rfl
    have wv := u8_sub48 c hdg
    have d48 : (48 : Int) ≤ ((c.toNat : Nat) : Int) ∧ ((c.toNat : Nat) : Int) ≤ 57 := by have := dg_not hdg; omega
    obtain ⟨d1, d2⟩ := d48
    have HD := Lib.hid hdg
    obtain ⟨m, hm⟩ : ∃ m, m = (levSt q).1.length := ⟨_, rfl⟩
    have ho2 := ho.out
    unfold OwnI at ho2
    rw [lvRow_len, ← hm] at ho2
    obtain ⟨g, cap, rfl⟩ : ∃ g cap, u5 = .slice (some ⟨g, 0, none⟩) (m + 1) cap := by
     rcases ho2.2 with ⟨_, h2⟩ | ⟨g, cap, cur, h1, _⟩
     ·omega
     ·exact ⟨g, cap, h1⟩
    have e1 : ∃ u, wr.cell? ⟨g, m, none⟩ = some u := ⟨_, (ho2.cellAt m (by omega)).trans (List.getElem?_eq_getElem (by simp [lvRow, hm]))⟩
    obtain ⟨u1, e1⟩ := e1
    have z1 := ho2.frozenAt m
    have ST := ho2.stored m (.int .i64 (((c.toNat : Nat) : Int) - 48))
    have eset : ((lvRow q).map (Value.int .i64)).set m (.int .i64 (((c.toNat : Nat) : Int) - 48)) = (lvRow q2).map (Value.int .i64) := by
     rw [L2.out]
     unfold lvRow
     rw [List.map_append, List.map_append, List.set_append_right _ _ (by simp [hm]), List.length_map, hm, Nat.sub_self]
     rfl
    rw [eset] at ST
    have RL2 : Hid ((lvRow q2).length = m + 1) := by show _ = _; rw [L2.out, hm]; simp
    have ST := Lib.hid ST
    have GLT : Hid (∀ j, Option.some g = some j → w.heap.size ≤ j) := fun j hj => (ho2.lt j hj).1
    have mm : IntKind.i64.wrap (((m + 1 : Nat) : Int) - 1) = ((m : Nat) : Int) := by rw [IntWalk.i64_in _ (by omega)]; omega
    have hm12 : m ≤ 12 := by omega
    clear PS LS eset ho2 ho
    clear hdg hm
    go_wp2_with (first | (go_at_call 96; refine (digit_any _ _).mono ?_; rintro e w' ⟨rfl, rfl⟩; rw [HD.out]))
    go_roundw
    case rel => exact ⟨k + 1, by omega, by rw [← HQ2.out, P2.out], by go_num, by rw [← HQ2.out]; unfold OwnI; rw [RL2.out]; exact ST.out.1, hb.out.grown ST.out.2 hwr (fun j hj => GLT.out j hj)⟩
    case measure => simp [intOf]; omega
  ·obtain rfl : k = n := by omega
   have e : p.take k = p := by rw [← hs2]; exact List.take_length
   have e2 : lvRow p = patV p := (patV_st p).symm
   rw [e] at ho ⊢
   rw [e2] at ho
   go_wp2
   go_ret2
   exact ⟨_, rfl, ho.out, hb.out⟩
end Go.Proofs.YtofnchdijanikaaGreatDoor
namespace Go.Proofs.YtofnchdijanikaaGreatDoor
open Go.RowKit
theorem txt_pos {w : World} {v : Value} {xs : List (List UInt8)} (h : TxtS w v xs) (hp : 0 < xs.length) :
  ∃ b off cap, v = .slice (some ⟨b, off, none⟩) xs.length cap ∧ b < w.heap.size ∧ ∀ j, j < xs.length → w.cell? ⟨b, off + j, none⟩ = some (.string (bs (xs.getD j []))) := by
 obtain ⟨b, off, cap, hv, hb, hc⟩ := h.pos encB_pos hp
 refine ⟨b, off, cap, hv, hb, fun j hj => ?_⟩
 have e : xs.getD j [] = xs[j] := by simp [List.getD, hj]
 have := hc j hj 0 _ rfl
 rw [e]
 simpa using this
theorem q_implJoins (a b : UInt8) (w : World) (n : Nat) : Calls Tryz.prog 181 #[.int .u8 (a.toNat : Int), .int .u8 (b.toNat : Int)] (w.drewN n) fun e w'' => e = .returned (.bool (joinB a b)) ∧ ∃ m, w'' = w.drewN m :=
 Calls.quiet_of_same ((implJoins_any a b _).mono fun _ _ ⟨he, hw⟩ => ⟨he, hw.symm⟩)
theorem q_specJoins (a b : UInt8) (w : World) (n : Nat) : Calls Tryz.prog 187 #[.int .u8 (a.toNat : Int), .int .u8 (b.toNat : Int)] (w.drewN n) fun e w'' => e = .returned (.bool (joinB a b)) ∧ ∃ m, w'' = w.drewN m :=
 Calls.quiet_of_same ((specJoins_any a b _).mono fun _ _ ⟨he, hw⟩ => ⟨he, hw.symm⟩)
theorem signs_le {l : List UInt8} (h : wordB l = true) : (signs l).length ≤ 20 ∧ 0 < (signs l).length ∧ ∀ s ∈ signs l, SignOk s := by
 obtain ⟨_, h1, h2⟩ := wordB_true h
 unfold wordB at h
 rw [Bool.and_eq_true] at h
 obtain ⟨i1, i2, i3, _⟩ := signs_ok _ l (Nat.le_refl _) h.1
 exact ⟨by omega, i3 (by omega), i1⟩
theorem signs_end (l : List UInt8) (k : Nat) (h : l.length ≤ k) : signs (l.drop k) = [] := by rw [List.drop_of_length_le h]; rfl
set_option maxHeartbeats 4000000 in
theorem implSigns_any (l : List UInt8) (hv : wordB l = true) (w : World) : Calls Tryz.prog 161 #[.string (bs l)] w (TxtsPost (signs l) w) := by
 obtain ⟨n, hn⟩ : ∃ n, n = l.length := ⟨_, rfl⟩
 have hl : n ≤ 20 := by rw [hn]; exact (wordB_true hv).2.2
 have hs : (bs l).size = n := by rw [hn, bs_len]
 have hs2 : l.length = n := hn.symm
 have IX := Lib.hid (fun k (hk : k < n) => idx_byte l k (by rw [← hn]; exact hk))
 have SL := (signs_le hv).1
 have HN := Lib.hid hn
 have O0 := Lib.hid (OwnT.nil w w.heap.size)
 have B0 := Lib.hid (Below.refl w.heap.size w)
 clear hn hv
 obtain ⟨S, hS⟩ : ∃ S, S = signs l := ⟨_, rfl⟩
 have I0 : Hid (([] : List (List UInt8)) ++ signs (l.drop 0) = S) := by show _ = _; rw [hS]; rfl
 rw [← hS] at SL ⊢
 clear hS
 go_enter Tryz.func161, Tryz.ntmps161
 go_wp2
 go_loopw [3, 4] (fun v i wr => ∃ (k : Nat) (xs : List (List UInt8)), k ≤ n ∧ i = .int .i64 k ∧ Hid (xs ++ signs (l.drop k) = S) ∧ Hid (OwnT wr w.heap.size v xs) ∧ Hid (Below w.heap.size w wr)) (fun _ i _ => n - (intOf i).toNat)
 case atStart => exact ⟨0, [], Nat.zero_le _, rfl, I0.out, O0.out, B0.out⟩
 case round =>
  obtain ⟨k, xs, hk, rfl, hx, ho, hb⟩ := hrel
  clear O0 B0 I0
  have hwr := hb.out.size
  by_cases hlt : k < n
  ·have ix := IX.out k hlt (k : Int) rfl
   have SD := Lib.hid (signs_drop l k (by omega))
   have XL : xs.length ≤ 4000000 := by have := congrArg List.length hx.out; rw [List.length_append] at this; omega
   have sl1 := bs_sub l k (k + 1)
   have sl2 := bs_sub l k (k + 2)
   rw [show k + 1 - k = 1 by omega] at sl1
   rw [show k + 2 - k = 2 by omega] at sl2
   by_cases h1 : k + 1 < n
   ·have h1' : decide ((k : Int) + 1 < (n : Int)) = true := by rw [decide_eq_true_iff]; omega
    have ix2 := IX.out (k + 1) h1 ((k : Int) + 1) (by omega)
    obtain ⟨c, hc⟩ : ∃ c, c = l.getD k 0 := ⟨_, rfl⟩
    obtain ⟨d, hd⟩ : ∃ d, d = l.getD (k + 1) 0 := ⟨_, rfl⟩
    rw [← hc] at ix SD
    rw [← hd] at ix2 SD
    clear hc hd
    cases hj : joinB c d
    ·have N2 : Hid ((xs ++ [(l.drop k).take 1]) ++ signs (l.drop (k + 1)) = S) := by
      show _ = _
      rw [← hx.out, SD.out, if_neg (by rw [hj]; simp), List.append_assoc]
      rfl
     have HJ := Lib.hid (fun w n => q_implJoins c d w n)
     rw [hj] at HJ
     clear SD hj
     go_wp2_with fail
     go_quiet (first | (go_at_call 181; exact HJ.out _ _))
     go_wp2_with (at_builtin; refine append_str w _ rfl _ _ rfl w.heap.size u3 xs ((l.drop k).take 1) rfl rfl ho.out XL (Nat.le_refl _) (below_drewN hb.out _) ?_; intro v' w5 hown' hbel hmv _)
     go_roundw
     case rel => exact ⟨k + 1, _, by omega, by go_num, N2.out, hown', hbel⟩
     case measure => simp [intOf]; omega
    ·have N2 : Hid ((xs ++ [(l.drop k).take 2]) ++ signs (l.drop (k + 2)) = S) := by
      show _ = _
      rw [← hx.out, SD.out, if_pos ⟨by omega, hj⟩, List.append_assoc]
      rfl
     have HJ := Lib.hid (fun w n => q_implJoins c d w n)
     rw [hj] at HJ
     clear SD hj
     go_wp2_with fail
     go_quiet (first | (go_at_call 181; exact HJ.out _ _))
     go_wp2_with (at_builtin; refine append_str w _ rfl _ _ rfl w.heap.size u3 xs ((l.drop k).take 2) rfl rfl ho.out XL (Nat.le_refl _) (below_drewN hb.out _) ?_; intro v' w5 hown' hbel hmv _)
     go_roundw
     case rel => exact ⟨k + 2, _, by omega, by go_num, N2.out, hown', hbel⟩
     case measure => simp [intOf]; omega
   ·have h1' : decide ((k : Int) + 1 < (n : Int)) = false := by rw [decide_eq_false_iff_not]; omega
    have N2 : Hid ((xs ++ [(l.drop k).take 1]) ++ signs (l.drop (k + 1)) = S) := by
     show _ = _
     rw [← hx.out, SD.out, if_neg (by omega), List.append_assoc]
     rfl
    clear SD
    go_wp2_with fail
    go_quiet (fail)
    go_wp2_with (at_builtin; refine append_str w _ rfl _ _ rfl w.heap.size u3 xs ((l.drop k).take 1) rfl rfl ho.out XL (Nat.le_refl _) (below_drewN hb.out _) ?_; intro v' w5 hown' hbel hmv _)
    go_roundw
    case rel => exact ⟨k + 1, _, by omega, by go_num, N2.out, hown', hbel⟩
    case measure => simp [intOf]; omega
  ·obtain rfl : k = n := by omega
   have e : xs = S := by
    have := hx.out
    rw [signs_end l k (by omega), List.append_nil] at this
    exact this
   subst e
   go_wp2
   go_ret
   exact ⟨_, rfl, ho.out, hb.out⟩
end Go.Proofs.YtofnchdijanikaaGreatDoor
namespace Go.Proofs.YtofnchdijanikaaGreatDoor
open Go.RowKit
set_option maxHeartbeats 4000000 in
theorem specSigns_any (l : List UInt8) (hv : wordB l = true) (w : World) : Calls Tryz.prog 173 #[.string (bs l)] w (TxtsPost (signs l) w) := by
 obtain ⟨n, hn⟩ : ∃ n, n = l.length := ⟨_, rfl⟩
 have hl : n ≤ 20 := by rw [hn]; exact (wordB_true hv).2.2
 have hs : (bs l).size = n := by rw [hn, bs_len]
 have hs2 : l.length = n := hn.symm
 have IX := Lib.hid (fun k (hk : k < n) => idx_byte l k (by rw [← hn]; exact hk))
 have SL := (signs_le hv).1
 have HN := Lib.hid hn
 have O0 := Lib.hid (OwnT.made w (Nat.le_refl w.heap.size))
 have B0 := Lib.hid ((Below.refl w.heap.size w).alloc (Nat.le_refl _) (.cells #[] 9))
 have WV := Lib.hid (fun w => specWord_any l (by omega) w)
 rw [hv] at WV
 clear hn hv
 obtain ⟨S, hS⟩ : ∃ S, S = signs l := ⟨_, rfl⟩
 have I0 : Hid (([] : List (List UInt8)) ++ signs (l.drop 0) = S) := by show _ = _; rw [hS]; rfl
 rw [← hS] at SL ⊢
 clear hS
 go_enter Tryz.func173, Tryz.ntmps173
 go_wp2
 go_loopw [3, 4] (fun v i wr => ∃ (k : Nat) (xs : List (List UInt8)), k ≤ n ∧ i = .int .i64 k ∧ Hid (xs ++ signs (l.drop k) = S) ∧ Hid (OwnT wr w.heap.size v xs) ∧ Hid (Below w.heap.size w wr)) (fun _ i _ => n - (intOf i).toNat)
 case atStart => exact ⟨0, [], Nat.zero_le _, rfl, I0.out, O0.out, B0.out⟩
 case round =>
  obtain ⟨k, xs, hk, rfl, hx, ho, hb⟩ := hrel
  clear O0 B0 I0
  have hwr := hb.out.size
  by_cases hlt : k < n
  ·have ix := IX.out k hlt (k : Int) rfl
   have SD := Lib.hid (signs_drop l k (by omega))
   have XL : xs.length ≤ 4000000 := by have := congrArg List.length hx.out; rw [List.length_append] at this; omega
   have sl1 := bs_sub l k (k + 1)
   have sl2 := bs_sub l k (k + 2)
   rw [show k + 1 - k = 1 by omega] at sl1
   rw [show k + 2 - k = 2 by omega] at sl2
   by_cases h1 : k + 1 < n
   ·have h1' : decide ((k : Int) + 1 < (n : Int)) = true := by rw [decide_eq_true_iff]; omega
    have ix2 := IX.out (k + 1) h1 ((k : Int) + 1) (by omega)
    obtain ⟨c, hc⟩ : ∃ c, c = l.getD k 0 := ⟨_, rfl⟩
    obtain ⟨d, hd⟩ : ∃ d, d = l.getD (k + 1) 0 := ⟨_, rfl⟩
    rw [← hc] at ix SD
    rw [← hd] at ix2 SD
    clear hc hd
    cases hj : joinB c d
    ·have N2 : Hid ((xs ++ [(l.drop k).take 1]) ++ signs (l.drop (k + 1)) = S) := by
      show _ = _
      rw [← hx.out, SD.out, if_neg (by rw [hj]; simp), List.append_assoc]
      rfl
     have HJ := Lib.hid (fun w n => q_specJoins c d w n)
     rw [hj] at HJ
     clear SD hj
     go_wp2_with (first | (go_at_call 75; refine (WV.out _).mono ?_; rintro e w' ⟨rfl, rfl⟩))
     go_quiet (first | (go_at_call 187; exact HJ.out _ _))
     go_wp2_with (at_builtin; refine append_str w _ rfl _ _ rfl w.heap.size u3 xs ((l.drop k).take 1) rfl rfl ho.out XL (Nat.le_refl _) (below_drewN hb.out _) ?_; intro v' w5 hown' hbel hmv _)
     go_roundw
     case rel => exact ⟨k + 1, _, by omega, by go_num, N2.out, hown', hbel⟩
     case measure => simp [intOf]; omega
    ·have N2 : Hid ((xs ++ [(l.drop k).take 2]) ++ signs (l.drop (k + 2)) = S) := by
      show _ = _
      rw [← hx.out, SD.out, if_pos ⟨by omega, hj⟩, List.append_assoc]
      rfl
     have HJ := Lib.hid (fun w n => q_specJoins c d w n)
     rw [hj] at HJ
     clear SD hj
     go_wp2_with (first | (go_at_call 75; refine (WV.out _).mono ?_; rintro e w' ⟨rfl, rfl⟩))
     go_quiet (first | (go_at_call 187; exact HJ.out _ _))
     go_wp2_with (at_builtin; refine append_str w _ rfl _ _ rfl w.heap.size u3 xs ((l.drop k).take 2) rfl rfl ho.out XL (Nat.le_refl _) (below_drewN hb.out _) ?_; intro v' w5 hown' hbel hmv _)
     go_roundw
     case rel => exact ⟨k + 2, _, by omega, by go_num, N2.out, hown', hbel⟩
     case measure => simp [intOf]; omega
   ·have h1' : decide ((k : Int) + 1 < (n : Int)) = false := by rw [decide_eq_false_iff_not]; omega
    have N2 : Hid ((xs ++ [(l.drop k).take 1]) ++ signs (l.drop (k + 1)) = S) := by
     show _ = _
     rw [← hx.out, SD.out, if_neg (by omega), List.append_assoc]
     rfl
    clear SD
    go_wp2_with (first | (go_at_call 75; refine (WV.out _).mono ?_; rintro e w' ⟨rfl, rfl⟩))
    go_quiet (fail)
    go_wp2_with (at_builtin; refine append_str w _ rfl _ _ rfl w.heap.size u3 xs ((l.drop k).take 1) rfl rfl ho.out XL (Nat.le_refl _) (below_drewN hb.out _) ?_; intro v' w5 hown' hbel hmv _)
    go_roundw
    case rel => exact ⟨k + 1, _, by omega, by go_num, N2.out, hown', hbel⟩
    case measure => simp [intOf]; omega
  ·obtain rfl : k = n := by omega
   have e : xs = S := by
    have := hx.out
    rw [signs_end l k (by omega), List.append_nil] at this
    exact this
   subst e
   go_wp2
   go_ret
   exact ⟨_, rfl, ho.out, hb.out⟩
end Go.Proofs.YtofnchdijanikaaGreatDoor
namespace Go.Proofs.YtofnchdijanikaaGreatDoor
open Go.RowKit
theorem q_implNear (a b : UInt8) (w : World) (n : Nat) : Calls Tryz.prog 163 #[.int .u8 (a.toNat : Int), .int .u8 (b.toNat : Int)] (w.drewN n) fun e w'' => e = .returned (.int .i64 (nearV a b)) ∧ ∃ m, w'' = w.drewN m :=
 Calls.quiet_of_same ((implNear_any a b _).mono fun _ _ ⟨he, hw⟩ => ⟨he, hw.symm⟩)
theorem q_specNear (a b : UInt8) (w : World) (n : Nat) : Calls Tryz.prog 175 #[.int .u8 (a.toNat : Int), .int .u8 (b.toNat : Int)] (w.drewN n) fun e w'' => e = .returned (.int .i64 (nearV a b)) ∧ ∃ m, w'' = w.drewN m :=
 Calls.quiet_of_same ((specNear_any a b _).mono fun _ _ ⟨he, hw⟩ => ⟨he, hw.symm⟩)
theorem own_pos {w : World} {B : Nat} {v : Value} {xs : List (List UInt8)} {m : Nat} (hm : m = xs.length) (hp : 0 < m) (h : OwnT w B v xs) :
  ∃ b off cap, v = .slice (some ⟨b, off, none⟩) m cap ∧ b < w.heap.size ∧ Hid (∀ j, j < m → w.cell? ⟨b, off + j, none⟩ = some (.string (bs (xs.getD j [])))) := by
 subst hm
 obtain ⟨b, off, cap, h1, h2, h3⟩ := txt_pos h.row hp
 exact ⟨b, off, cap, h1, h2, h3⟩
theorem signW_last (ss : List (List UInt8)) (k : Nat) (h : ¬ k + 1 < ss.length) : widTo ss (k + 1) = widTo ss k + sumTo (ss.getD k []) (ss.getD k []).length - (((ss.getD k []).length : Int) - 1) := by
 rw [widTo]
 unfold signW
 rw [if_neg h]
 omega
theorem signW_more (ss : List (List UInt8)) (k : Nat) (h : k + 1 < ss.length) : widTo ss (k + 1) = widTo ss k + sumTo (ss.getD k []) (ss.getD k []).length - (((ss.getD k []).length : Int) - 1) - nearV ((ss.getD k []).getD ((ss.getD k []).length - 1) 0) ((ss.getD (k + 1) []).getD 0 0) := by
 rw [widTo]
 unfold signW
 rw [if_pos h]
 omega
def NumPost (x : Int) (w : World) (e : Ending) (w' : World) : Prop := e = .returned (.int .i64 x) ∧ Below w.heap.size w w'
set_option maxHeartbeats 8000000 in
theorem implWidth_any (l : List UInt8) (hv : wordB l = true) (w : World) : Calls Tryz.prog 136 #[.string (bs l)] w (NumPost (width l) w) := by
 have WV := Lib.hid (fun w => implWord_any l (by have := (wordB_true hv).2.2; omega) w)
 rw [hv] at WV
 have SG := Lib.hid (fun w => implSigns_any l hv w)
 obtain ⟨s1, s2, s3⟩ := signs_le hv
 obtain ⟨ss, hss⟩ : ∃ ss, ss = signs l := ⟨_, rfl⟩
 have HW : Hid (width l = widTo ss ss.length) := by show _ = _; rw [hss]; rfl
 rw [← hss] at SG s1 s2 s3
 have OK := Lib.hid s3
 have WB := Lib.hid (fun k (hk : k ≤ ss.length) => widTo_bd s3 k hk)
 obtain ⟨m, hm⟩ : ∃ m, m = ss.length := ⟨_, rfl⟩
 have s2m : 0 < m := by omega
 have s1m : m ≤ 20 := by omega
 have HM := Lib.hid hm
 clear hss hv s3 hm s1 s2
 go_enter Tryz.func136, Tryz.ntmps136
 go_wp2_with (first | (go_at_call 77; refine (WV.out _).mono ?_; rintro e w' ⟨rfl, rfl⟩) | (go_at_call 161; refine (SG.out _).mono ?_; rintro e w1 ⟨v, rfl, hown, BW⟩; obtain ⟨b, off, cap, rfl, hbl, HC⟩ := own_pos HM.out s2m hown; clear hown))
 have HBW := Lib.hid BW
 clear BW
 go_loopw [3, 15] (fun wd i wr => ∃ k : Nat, k ≤ m ∧ wd = .int .i64 (widTo ss k) ∧ i = .int .i64 k ∧ Hid (Below w1.heap.size w1 wr)) (fun _ i _ => m - (intOf i).toNat)
 case atStart => exact ⟨0, Nat.zero_le _, rfl, rfl, Below.refl _ _⟩
 case round =>
  obtain ⟨k, hk, rfl, rfl, hb⟩ := hrel
  obtain ⟨wb1, wb2⟩ := WB.out k (by have := HM.out; omega)
  by_cases hlt : k < m
  ·have c0 : wr.cell? ⟨b, off + k, none⟩ = some (.string (bs (ss.getD k []))) := (hb.out.cell (p := ⟨b, off + k, none⟩) hbl).trans (HC.out k hlt)
   have ok := sign_getD OK.out k (by have := HM.out; omega)
   have SM := Lib.hid (sumTo_any (ss.getD k []))
   have WL := Lib.hid (signW_last ss k)
   have WM := Lib.hid (signW_more ss k)
   have SB := Lib.hid (signW_bd OK.out k (by have := HM.out; omega))
   obtain ⟨s, hs⟩ : ∃ s, s = ss.getD k [] := ⟨_, rfl⟩
   rw [← hs] at c0 ok SM WL WM
   have ST0 : Hid (∀ j, sumTo s (j + 1) = sumTo s j + letW (s.getD j 0)) := fun j => rfl
   have LB := Lib.hid (fun j (hj : j < s.length) => letW_bd ((all_getD s smB).1 ok.2 j hj))
   have ok1 := ok.1
   obtain ⟨q, hq⟩ : ∃ q, q = s.length := ⟨_, rfl⟩
   have hsz : (bs s).size = q := by rw [hq, bs_len]
   have IX := Lib.hid (fun j (hj : j < q) => idx_byte s j (by rw [← hq]; exact hj))
   rw [← hq] at ok1 LB WL WM
   have hq3 : 1 ≤ q ∧ q ≤ 2 := by omega
   obtain ⟨hq1, hq2⟩ := hq3
   obtain ⟨W, hW⟩ : ∃ W, W = widTo ss k := ⟨_, rfl⟩
   rw [← hW] at wb1 wb2 WL WM ⊢
   clear hs hq ok ok1 hW
   go_wp2_with fail
   go_loop [3, 22] (fun wd i => ∃ j : Nat, j ≤ q ∧ wd = .int .i64 (W + sumTo s j) ∧ i = .int .i64 j) (fun _ i => q - (intOf i).toNat)
   case atStart => exact ⟨0, Nat.zero_le _, by rw [sumTo, Int.add_zero], rfl⟩
   case round =>
    obtain ⟨j, hj, rfl, rfl⟩ := hrel
    have sm := SM.out j
    obtain ⟨sm1, sm2⟩ := sm
    by_cases hlj : j < q
    ·have ix := IX.out j hlj (j : Int) rfl
     have lb := LB.out j hlj
     have st := ST0.out j
     obtain ⟨c, hc⟩ : ∃ c, c = s.getD j 0 := ⟨_, rfl⟩
     rw [← hc] at ix lb st
     have LT := Lib.hid (fun w => implLet_any c w)
     obtain ⟨x, hx⟩ : ∃ x, x = letW c := ⟨_, rfl⟩
     rw [← hx] at lb LT st
     obtain ⟨lb1, lb2⟩ := lb
     have hST := Lib.hid st
     obtain ⟨T, hT⟩ : ∃ T, T = sumTo s j := ⟨_, rfl⟩
     rw [← hT] at sm1 sm2 hST ⊢
     clear hc hx st hT
     go_wp2_with (go_at_call 162; refine (LT.out _).mono ?_; rintro e w' ⟨rfl, rfl⟩)
     exact ⟨⟨j + 1, by omega, by rw [hST.out, ← Int.add_assoc], by go_num⟩, by simp [intOf]; omega⟩
    ·obtain rfl : j = q := by omega
     obtain ⟨T, hT⟩ : ∃ T, T = sumTo s j := ⟨_, rfl⟩
     rw [← hT] at sm1 sm2 WL WM ⊢
     have HT := Lib.hid hT
     clear hT
     by_cases h1 : k + 1 < m
     ·have h1' : ((k : Int) + 1 < (m : Int)) := by omega
      have wm := WM.out (by have := HM.out; omega)
      have c1 : wr.cell? ⟨b, off + (k + 1), none⟩ = some (.string (bs (ss.getD (k + 1) []))) := (hb.out.cell (p := ⟨b, off + (k + 1), none⟩) hbl).trans (HC.out (k + 1) h1)
      have ix := IX.out (j - 1) (by omega) ((j : Int) - 1) (by omega)
      have ok2 := sign_getD OK.out (k + 1) (by have := HM.out; omega)
      obtain ⟨t, ht⟩ : ∃ t, t = ss.getD (k + 1) [] := ⟨_, rfl⟩
      rw [← ht] at c1 wm ok2
      have tl : 0 < t.length := by rcases ok2.1 with h | h <;> omega
      have ix2 := idx_byte t 0 tl 0 rfl
      obtain ⟨c, hc⟩ : ∃ c, c = s.getD (j - 1) 0 := ⟨_, rfl⟩
      obtain ⟨d, hd⟩ : ∃ d, d = t.getD 0 0 := ⟨_, rfl⟩
      rw [← hc] at ix wm
      rw [← hd] at ix2 wm
      have NR := Lib.hid (fun w n => q_implNear c d w n)
      have nb := nearV_bd c d
      obtain ⟨x, hx⟩ : ∃ x, x = nearV c d := ⟨_, rfl⟩
      rw [← hx] at NR nb wm
      obtain ⟨nb1, nb2⟩ := nb
      have WM2 := Lib.hid wm
      clear wm ok2 ht hc hd hx tl
      go_wp2_with fail
      go_quiet (first | (go_at_call 163; exact NR.out _ _))
      go_wp2_with fail
      go_roundw
      case rel => exact ⟨k + 1, by omega, by rw [WM2.out], by go_num, below_drewN hb.out _⟩
      case measure => simp [intOf]; omega
     ·have h1' : ¬ ((k : Int) + 1 < (m : Int)) := by omega
      have WL2 := Lib.hid (WL.out (by have := HM.out; omega))
      go_wp2_with fail
      go_roundw
      case rel => exact ⟨k + 1, by omega, by rw [WL2.out], by go_num, hb.out⟩
      case measure => simp [intOf]; omega
  ·obtain rfl : k = m := by omega
   go_wp2_with fail
   go_ret
   exact ⟨by rw [HW.out, ← HM.out]; rfl, below_next HBW.out hb.out (Nat.le_refl _)⟩
end Go.Proofs.YtofnchdijanikaaGreatDoor
namespace Go.Proofs.YtofnchdijanikaaGreatDoor
open Go.RowKit
set_option maxHeartbeats 8000000 in
theorem specWidth_any (l : List UInt8) (hv : wordB l = true) (w : World) : Calls Tryz.prog 151 #[.string (bs l)] w (NumPost (width l) w) := by
 have SG := Lib.hid (fun w => specSigns_any l hv w)
 obtain ⟨s1, s2, s3⟩ := signs_le hv
 obtain ⟨ss, hss⟩ : ∃ ss, ss = signs l := ⟨_, rfl⟩
 have HW : Hid (width l = widTo ss ss.length) := by show _ = _; rw [hss]; rfl
 rw [← hss] at SG s1 s2 s3
 have OK := Lib.hid s3
 have WB := Lib.hid (fun k (hk : k ≤ ss.length) => widTo_bd s3 k hk)
 obtain ⟨m, hm⟩ : ∃ m, m = ss.length := ⟨_, rfl⟩
 have s2m : 0 < m := by omega
 have mz : ((m : Int) == 0) = false := by rw [beq_eq_false_iff_ne]; omega
 have s1m : m ≤ 20 := by omega
 have HM := Lib.hid hm
 clear hss hv s3 hm s1 s2
 go_enter Tryz.func151, Tryz.ntmps151
 go_wp2_with (first | (go_at_call 173; refine (SG.out _).mono ?_; rintro e w1 ⟨v, rfl, hown, BW⟩; obtain ⟨b, off, cap, rfl, hbl, HC⟩ := own_pos HM.out s2m hown; clear hown))
 have HBW := Lib.hid BW
 clear BW
 go_loopw [4, 5] (fun wd i wr => ∃ k : Nat, k ≤ m ∧ wd = .int .i64 (widTo ss k) ∧ i = .int .i64 k ∧ Hid (Below w1.heap.size w1 wr)) (fun _ i _ => m - (intOf i).toNat)
 case atStart => exact ⟨0, Nat.zero_le _, rfl, rfl, Below.refl _ _⟩
 case round =>
  obtain ⟨k, hk, rfl, rfl, hb⟩ := hrel
  obtain ⟨wb1, wb2⟩ := WB.out k (by have := HM.out; omega)
  by_cases hlt : k < m
  ·have c0 : wr.cell? ⟨b, off + k, none⟩ = some (.string (bs (ss.getD k []))) := (hb.out.cell (p := ⟨b, off + k, none⟩) hbl).trans (HC.out k hlt)
   have ok := sign_getD OK.out k (by have := HM.out; omega)
   have SM := Lib.hid (sumTo_any (ss.getD k []))
   have WL := Lib.hid (signW_last ss k)
   have WM := Lib.hid (signW_more ss k)
   have SB := Lib.hid (signW_bd OK.out k (by have := HM.out; omega))
   obtain ⟨s, hs⟩ : ∃ s, s = ss.getD k [] := ⟨_, rfl⟩
   rw [← hs] at c0 ok SM WL WM
   have ST0 : Hid (∀ j, sumTo s (j + 1) = sumTo s j + letW (s.getD j 0)) := fun j => rfl
   have LB := Lib.hid (fun j (hj : j < s.length) => letW_bd ((all_getD s smB).1 ok.2 j hj))
   have ok1 := ok.1
   obtain ⟨q, hq⟩ : ∃ q, q = s.length := ⟨_, rfl⟩
   have hsz : (bs s).size = q := by rw [hq, bs_len]
   have IX := Lib.hid (fun j (hj : j < q) => idx_byte s j (by rw [← hq]; exact hj))
   rw [← hq] at ok1 LB WL WM
   have hq3 : 1 ≤ q ∧ q ≤ 2 := by omega
   obtain ⟨hq1, hq2⟩ := hq3
   obtain ⟨W, hW⟩ : ∃ W, W = widTo ss k := ⟨_, rfl⟩
   rw [← hW] at wb1 wb2 WL WM ⊢
   clear hs hq ok ok1 hW
   go_wp2_with fail
   go_loop [4, 6] (fun wd i => ∃ j : Nat, j ≤ q ∧ wd = .int .i64 (W + sumTo s j) ∧ i = .int .i64 j) (fun _ i => q - (intOf i).toNat)
   case atStart => exact ⟨0, Nat.zero_le _, by rw [sumTo, Int.add_zero], rfl⟩
   case round =>
    obtain ⟨j, hj, rfl, rfl⟩ := hrel
    have sm := SM.out j
    obtain ⟨sm1, sm2⟩ := sm
    by_cases hlj : j < q
    ·have ix := IX.out j hlj (j : Int) rfl
     have lb := LB.out j hlj
     have st := ST0.out j
     obtain ⟨c, hc⟩ : ∃ c, c = s.getD j 0 := ⟨_, rfl⟩
     rw [← hc] at ix lb st
     have LT := Lib.hid (fun w => specLet_any c w)
     obtain ⟨x, hx⟩ : ∃ x, x = letW c := ⟨_, rfl⟩
     rw [← hx] at lb LT st
     obtain ⟨lb1, lb2⟩ := lb
     have hST := Lib.hid st
     obtain ⟨T, hT⟩ : ∃ T, T = sumTo s j := ⟨_, rfl⟩
     rw [← hT] at sm1 sm2 hST ⊢
     clear hc hx st hT
     go_wp2_with (go_at_call 174; refine (LT.out _).mono ?_; rintro e w' ⟨rfl, rfl⟩)
     exact ⟨⟨j + 1, by omega, by rw [hST.out, ← Int.add_assoc], by go_num⟩, by simp [intOf]; omega⟩
    ·obtain rfl : j = q := by omega
     obtain ⟨T, hT⟩ : ∃ T, T = sumTo s j := ⟨_, rfl⟩
     rw [← hT] at sm1 sm2 WL WM ⊢
     have HT := Lib.hid hT
     clear hT
     by_cases h1 : k + 1 < m
     ·have h1' : ((k : Int) + 1 < (m : Int)) := by omega
      have wm := WM.out (by have := HM.out; omega)
      have c1 : wr.cell? ⟨b, off + (k + 1), none⟩ = some (.string (bs (ss.getD (k + 1) []))) := (hb.out.cell (p := ⟨b, off + (k + 1), none⟩) hbl).trans (HC.out (k + 1) h1)
      have ix := IX.out (j - 1) (by omega) ((j : Int) - 1) (by omega)
      have ok2 := sign_getD OK.out (k + 1) (by have := HM.out; omega)
      obtain ⟨t, ht⟩ : ∃ t, t = ss.getD (k + 1) [] := ⟨_, rfl⟩
      rw [← ht] at c1 wm ok2
      have tl : 0 < t.length := by rcases ok2.1 with h | h <;> omega
      have ix2 := idx_byte t 0 tl 0 rfl
      obtain ⟨c, hc⟩ : ∃ c, c = s.getD (j - 1) 0 := ⟨_, rfl⟩
      obtain ⟨d, hd⟩ : ∃ d, d = t.getD 0 0 := ⟨_, rfl⟩
      rw [← hc] at ix wm
      rw [← hd] at ix2 wm
      have NR := Lib.hid (fun w n => q_specNear c d w n)
      have nb := nearV_bd c d
      obtain ⟨x, hx⟩ : ∃ x, x = nearV c d := ⟨_, rfl⟩
      rw [← hx] at NR nb wm
      obtain ⟨nb1, nb2⟩ := nb
      have WM2 := Lib.hid wm
      clear wm ok2 ht hc hd hx tl
      go_wp2_with fail
      go_quiet (first | (go_at_call 175; exact NR.out _ _))
      go_wp2_with fail
      go_roundw
      case rel => exact ⟨k + 1, by omega, by rw [WM2.out]; congr 1; omega, by go_num, below_drewN hb.out _⟩
      case measure => simp [intOf]; omega
     ·have h1' : ¬ ((k : Int) + 1 < (m : Int)) := by omega
      have WL2 := Lib.hid (WL.out (by have := HM.out; omega))
      go_wp2_with fail
      go_roundw
      case rel => exact ⟨k + 1, by omega, by rw [WL2.out]; congr 1; omega, by go_num, hb.out⟩
      case measure => simp [intOf]; omega
  ·obtain rfl : k = m := by omega
   go_wp2_with fail
   go_ret
   exact ⟨by rw [HW.out, ← HM.out]; rfl, below_next HBW.out hb.out (Nat.le_refl _)⟩
end Go.Proofs.YtofnchdijanikaaGreatDoor

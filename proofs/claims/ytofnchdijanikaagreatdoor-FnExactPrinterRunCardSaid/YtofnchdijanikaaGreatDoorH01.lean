/-
  PROVED HERE: what the printer's lines need, part H01. Conditions: each theorem's own.
-/
import Derived.Test.YtofnchdijanikaaGreatDoorC03
import Derived.Test.YtofnchdijanikaaGreatDoorC04
import Derived.Deep.Slices
import Derived.ChangeSame
import Derived.StillTailTactics
import Derived.OwnWalk
import Derived.Laws.BytesArg
import Derived.Deep.RegionWith
import Derived.Test.YtofnchdijanikaaGreatDoorV05
import Derived.Deep.AppendLies
import Derived.RangeFuncNested
import Derived.Test.YtofnchdijanikaaGreatDoorV01
set_option linter.unusedVariables false
set_option linter.unusedSimpArgs false
set_option maxRecDepth 100000
namespace Go.Proofs.YtofnchdijanikaaGreatDoor
open Go.RowKit
def encS (s : ByteArray) : List Value := [.string s]
theorem encS_len (s : ByteArray) : (encS s).length = 1 := rfl
theorem encS_pos (s : ByteArray) : 0 < (encS s).length := by rw [encS_len]; decide
end Go.Proofs.YtofnchdijanikaaGreatDoor
namespace Go.Proofs.YtofnchdijanikaaGreatDoor
open Go.RowKit Go.ChangeShapes Go.WideShapes Go.Deep
theorem list_choose {α : Type} {G : α → Prop} {n : Nat} {p : Nat → α → Prop} (h : ∀ i, i < n → ∃ x, p i x ∧ G x) : ∃ xs : List α, xs.length = n ∧ (∀ x ∈ xs, G x) ∧ ∀ i (hi : i < xs.length), p i xs[i] := by
 induction n with
 | zero => exact ⟨[], rfl, fun x hx => (by cases hx), fun i hi => (by simp at hi)⟩
 | succ n ih =>
  obtain ⟨xs, hl, hG, hp⟩ := ih (fun i hi => h i (by omega))
  obtain ⟨x, hx, hg⟩ := h n (by omega)
  refine ⟨xs ++ [x], by simp [hl], ?_, ?_⟩
  ·intro y hy
   rcases List.mem_append.1 hy with hy | hy
   ·exact hG y hy
   ·rw [List.mem_singleton.1 hy]; exact hg
  ·intro i hi
   by_cases hin : i < xs.length
   ·rw [List.getElem_append_left hin]
    exact hp i hin
   ·have hi' : i = xs.length := by simp at hi; omega
    subst hi'
    rw [List.getElem_append_right nR]
    simpa [hl] using hx
section
variable {H : Type} {en : TypeId × Value → H} {P : Program} {w : World} {base : Nat} {spare : Nat → Bool} {held : Bool} {α : Type}
theorem open_rows {t e : TypeId} {fuel k : Nat} {a0 : Option Addr} {len0 cap0 : Nat} {x : DataW H × List MemPlace} (enc : α → List Value) (G : α → Prop) (hk : 0 < k) (ht : P.underlying t = some (.slice e)) (hC : P.cellsOf e = k)
  (hone : ∀ (cs : List Value) (y : DataW H × List MemPlace) (n : Nat), DataW.trod en P w base spare held n e cs = some y → ∃ z, cs = enc z ∧ G z)
  (h : DataW.trod en P w base spare held fuel t (Value.cells (.slice a0 len0 cap0)).toList = some x) :
  ∃ xs : List α, xs.length = len0 ∧ len0 ≤ cap0 ∧ (∀ z ∈ xs, G z) ∧ SRow k enc w (.slice a0 len0 cap0) xs := by
 have hcs : (Value.cells (.slice a0 len0 cap0)).toList = [.slice a0 len0 cap0] := by simp [Value.cells]
 rw [hcs] at h
 rcases open_slice ht h with ⟨h0, _⟩ | ⟨a, len, cap, m, n, D, Pl, h1, hb, hl, hm, hmm, hx, hi⟩
 ·simp only [List.cons.injEq, Value.slice.injEq, and_true] at h0
  obtain ⟨rfl, rfl, rfl⟩ := h0
  exact ⟨[], rfl, nR, fun z hz => (by cases hz), none, 0, rfl, by simp, fun j hj => (by simp at hj)⟩
 ·simp only [List.cons.injEq, Value.slice.injEq, and_true] at h1
  obtain ⟨rfl, rfl, rfl⟩ := h1
  have hlm : len0 ≤ m := by rw [hmm]; split <;> omega
  rw [hC] at hi
  obtain ⟨xs, hxl, hG, hp⟩ := list_choose (α := α) (G := G) (n := len0) (p := fun i z => ∀ o u, (enc z)[o]? = some u → w.cell? (a.add (i * k + o)) = some u ∧ o < k) (fun i hil => by
   obtain ⟨cs, h2, h3⟩ := hi i (by omega)
   obtain ⟨z, rfl, hz⟩ := hone cs _ n h3
   obtain ⟨_, hlen, hcell⟩ := World.cells?_some h2
   refine ⟨z, fun o u hu => ?_, hz⟩
   have ho : o < k := by rw [← hlen]; exact (List.getElem?_eq_some_iff.1 hu).1
   have := hcell o ho
   rw [add_add] at this
   exact ⟨this.trans hu, ho⟩)
  refine ⟨xs, hxl, hl, hG, some a, cap0, by rw [hxl], by rw [hxl]; unfold maxLen at hm; omega, fun j hj => ?_⟩
  have hsp : a.spot = none := by
   obtain ⟨cs, h2, h3⟩ := hi j (by omega)
   obtain ⟨_, hlen, hcell⟩ := World.cells?_some h2
   have h4 := hcell 0 hk
   rw [add_add] at h4
   obtain ⟨cs0, h20, h30⟩ := hi 0 (by omega)
   obtain ⟨_, hlen0, hcell0⟩ := World.cells?_some h20
   have h5 := hcell0 0 hk
   rw [add_add, List.getElem?_eq_getElem (by omega)] at h5
   have h6 := World.cell?_spot h5
   simpa [Addr.add] using h6
  obtain ⟨b, off, sp⟩ := a
  simp only at hsp
  subst hsp
  refine ⟨b, off, rfl, fun i u hu => ?_⟩
  have := (hp j hj i u hu).1
  have e : ((⟨b, off, none⟩ : Addr).add (j * k + i)) = ⟨b, off + j * k + i, none⟩ := by
   unfold Addr.add
   split
   ·rename_i hz
    congr 1
    omega
   ·simp [Nat.add_assoc]
  rw [e] at this
  exact this
theorem open_rows' {t e : TypeId} {k : Nat} {a0 : Option Addr} {len0 cap0 : Nat} {d : DataW H} {p : List MemPlace} (enc : α → List Value) (G : α → Prop) (hk : 0 < k) (ht : P.underlying t = some (.slice e)) (hC : P.cellsOf e = k)
  (hone : ∀ (cs : List Value) (y : DataW H × List MemPlace) (n : Nat), DataW.trod en P w base spare held n e cs = some y → ∃ z, cs = enc z ∧ G z)
  (h : DataW.Trod en P w base spare held t (.slice a0 len0 cap0) d p) :
  ∃ xs : List α, xs.length = len0 ∧ len0 ≤ cap0 ∧ (∀ z ∈ xs, G z) ∧ SRow k enc w (.slice a0 len0 cap0) xs := by
 obtain ⟨fuel, hf⟩ := h
 exact open_rows enc G hk ht hC hone hf
end
end Go.Proofs.YtofnchdijanikaaGreatDoor
namespace Go.Proofs.YtofnchdijanikaaGreatDoor
open Go.RowKit
open Go.ChangeShapes Go.WideShapes Go.Deep
def Short (xs : List ByteArray) : Prop := ∀ s ∈ xs, s.size ≤ 9223372036854775807
theorem one_string {H : Type} {en : TypeId × Value → H} {w : World} {base : Nat} {spare : Nat → Bool} {held : Bool} (cs : List Value) (y : DataW H × List MemPlace) (n : Nat) (h : DataW.trod en Tryz.prog w base spare held n 9 cs = some y) : ∃ z : ByteArray, cs = encS z ∧ z.size ≤ 9223372036854775807 := by
 obtain ⟨z, e, h2⟩ := DataW.trod_string Tryz.underlying9 h
 exact ⟨z, e, by have := h2.2; unfold maxLen at this; omega⟩
def szL : Int → List ByteArray → Int
 | l, [] => l
 | l, s :: t => if l - s.size < 0 then -1 else szL (l - s.size) t
def szS (l : Int) (xs : List ByteArray) : Int := if l - xs.length < 0 then -1 else szL (l - xs.length) xs
theorem szL_bd : ∀ (xs : List ByteArray) (l : Int), 0 ≤ l → szL l xs = -1 ∨ (0 ≤ szL l xs ∧ ∀ s ∈ xs, (s.size : Int) ≤ l)
 | [], l, h => .inr ⟨by rw [szL]; exact h, fun s hs => by cases hs⟩
 | x :: t, l, h => by
  rw [szL]
  split
  ·exact .inl rfl
  ·rename_i hc
   rcases szL_bd t (l - x.size) (by omega) with h1 | ⟨h1, h2⟩
   ·exact .inl h1
   ·refine .inr ⟨h1, fun s hs => ?_⟩
    rcases List.mem_cons.1 hs with rfl | hs
    ·omega
    ·have := h2 s hs; omega
theorem szS_bd (l : Int) (xs : List ByteArray) : szS l xs = -1 ∨ (0 ≤ szS l xs ∧ (xs.length : Int) ≤ l ∧ ∀ s ∈ xs, (s.size : Int) ≤ l) := by
 unfold szS
 split
 ·exact .inl rfl
 ·rename_i hc
  rcases szL_bd xs (l - xs.length) (by omega) with h1 | ⟨h1, h2⟩
  ·exact .inl h1
  ·exact .inr ⟨h1, by omega, fun s hs => by have := h2 s hs; omega⟩
set_option maxHeartbeats 1000000 in
theorem szStringS_any (v : Value) (xs : List ByteArray) (l : Int) (w : World) (h : SRow 1 encS w v xs) (hx : Short xs) (hl : 0 ≤ l) (hl' : l ≤ 1000000000) : Calls Tryz.prog 21 #[v, .int .i64 l] w fun e w' => e = .returned (.int .i64 (szS l xs)) ∧ w = w' := by
 by_cases h0 : xs.length = 0
 ·obtain rfl : xs = [] := List.eq_nil_of_length_eq_zero h0
  obtain ⟨a, cap, rfl⟩ := h.empty
  clear h h0 hx
  have E : Hid (szS l [] = l) := by
   show _ = _
   unfold szS
   rw [if_neg (by simp; omega), szL]
   simp
  go_enter Tryz.func21, Tryz.ntmps21
  go_wp2
  refine wp_loop_rounds 1 ?_
  rw [rounds_succ]
  go_wp2
  go_ret
  exact ⟨by rw [E.out]; rfl, rfl⟩
 ·have hsz := h.len
  obtain ⟨b, off, cap, rfl, hbl, hc⟩ := h.pos encS_pos (by omega)
  obtain ⟨n, hn⟩ : ∃ n, n = xs.length := ⟨_, rfl⟩
  have HX := hQ hx
  rw [← hn] at hsz h0 ⊢
  have HC := hQ hc
  have HN := hQ hn
  clear hn hc h hx
  by_cases hneg : l - (n : Int) < 0
  ·have e : szS l xs = -1 := by unfold szS; rw [← HN.out, if_pos hneg]
   have E := hQ e
   clear e
   go_enter Tryz.func21, Tryz.ntmps21
   go_wp2
   go_ret
   exact ⟨by rw [E.out]; rfl, rfl⟩
  ·have e : szS l xs = szL (l - n) xs := by unfold szS; rw [← HN.out, if_neg hneg]
   have E := hQ e
   clear e
   go_enter Tryz.func21, Tryz.ntmps21
   go_wp2
   go_loop [1, 5] (fun lf i => ∃ (k : Nat) (q : Int), k ≤ n ∧ i = .int .i64 k ∧ lf = .int .i64 q ∧ 0 ≤ q ∧ q ≤ 1000000000 ∧ Hid (szL (l - n) xs = szL q (xs.drop k))) (fun _ i => n - (intOf i).toNat)
   case atStart => exact ⟨0, _, Nat.zero_le _, rfl, rfl, by omega, by omega, rfl⟩
   case round =>
    obtain ⟨k, q, hk, rfl, rfl, hq0, hq1, hs⟩ := hrel
    by_cases hlt : k < n
    ·have hk' : k < xs.length := by rw [← HN.out]; exact hlt
     have c := HC.out k hk' 0 _ rfl
     have hd : xs.drop k = xs[k] :: xs.drop (k + 1) := List.drop_eq_getElem_cons hk'
     have hsx := HX.out xs[k] (List.getElem_mem hk')
     have s2 := hs.out
     rw [hd, szL] at s2
     obtain ⟨s, hs'⟩ : ∃ s, s = xs[k] := ⟨_, rfl⟩
     rw [← hs'] at c hsx s2
     have c0 : w.cell? ⟨b, off + k, none⟩ = some (.string s) := by simpa using c
     have S2 := hQ s2
     clear c hd s2 hs hs'
     by_cases hneg2 : q - (s.size : Int) < 0
     ·have e : szS l xs = -1 := by rw [E.out, S2.out, if_pos hneg2]
      have E2 := hQ e
      clear e S2
      go_wp2
      go_ret
      exact ⟨by rw [E2.out]; rfl, rfl⟩
     ·have S3 := S2.out
      rw [if_neg hneg2] at S3
      have S4 := hQ S3
      clear S3 S2
      go_wp2
      go_round
      case rel => exact ⟨k + 1, _, by omega, by go_num, rfl, by omega, by omega, S4.out⟩
      case measure => simp [intOf]; omega
    ·have e : szS l xs = q := by rw [E.out, hs.out, List.drop_of_length_le (by have := HN.out; omega), szL]
     have E2 := hQ e
     clear e hs HC
     go_wp2
     go_ret
     exact ⟨by rw [E2.out]; rfl, rfl⟩
set_option maxHeartbeats 1000000 in
theorem eqStringS_any (v1 v2 : Value) (xs : List ByteArray) (w : World) (h1 : SRow 1 encS w v1 xs) (h2 : SRow 1 encS w v2 xs) :
  Calls Tryz.prog 23 #[v1, v2] w (Ret (.bool true) w) := by
 by_cases h0 : xs.length = 0
 ·obtain rfl : xs = [] := List.eq_nil_of_length_eq_zero h0
  obtain ⟨a, cap, rfl⟩ := h1.empty
  obtain ⟨a', cap', rfl⟩ := h2.empty
  clear h1 h2 h0
  go_enter Tryz.func23, Tryz.ntmps23
  go_wp2
  refine wp_loop_rounds 1 ?_
  rw [rounds_succ]
  go_wp2
  go_ret
  exact ⟨rfl, Below.refl _ _⟩
 ·have hsz := h1.len
  obtain ⟨b, off, cap, rfl, hbl, hc⟩ := h1.pos encS_pos (by omega)
  obtain ⟨b', off', cap', rfl, hbl', hc'⟩ := h2.pos encS_pos (by omega)
  obtain ⟨n, hn⟩ : ∃ n, n = xs.length := ⟨_, rfl⟩
  rw [← hn] at hsz h0 ⊢
  have HC := hQ hc
  have HC' := hQ hc'
  have HN := hQ hn
  clear hn hc hc' h1 h2
  go_enter Tryz.func23, Tryz.ntmps23
  go_wp2
  go_loopw [5] (fun i wr => ∃ k : Nat, k ≤ n ∧ i = .int .i64 k ∧ Below w.heap.size w wr) (fun i _ => n - (intOf i).toNat)
  case atStart => exact ⟨0, Nat.zero_le _, rfl, Below.refl _ _⟩
  case round =>
   obtain ⟨k, hk, rfl, hb⟩ := hrel
   by_cases hlt : k < n
   ·have hk' : k < xs.length := by rw [← HN.out]; exact hlt
    have c := HC.out k hk' 0 _ rfl
    have c' := HC'.out k hk' 0 _ rfl
    obtain ⟨s, hs'⟩ : ∃ s, s = xs[k] := ⟨_, rfl⟩
    rw [← hs'] at c c'
    have e1 : wr.cell? ⟨b, off + k, none⟩ = some (.string s) := (hb.cell (p := ⟨b, off + k, none⟩) hbl).trans (by simpa using c)
    have e2 : wr.cell? ⟨b', off' + k, none⟩ = some (.string s) := (hb.cell (p := ⟨b', off' + k, none⟩) hbl').trans (by simpa using c')
    clear hs' c c'
    go_wp2
    go_quiet (fail)
    go_wp2
    go_roundw
    case rel => exact ⟨k + 1, by omega, by go_num, below_drewN hb _⟩
    case measure => simp [intOf]; omega
   ·clear HC HC'
    go_wp2
    go_ret
    exact ⟨rfl, hb⟩
theorem info_string : (Tryz.prog.info? 9).map (fun i => (i.zero, i.size, i.bytes)) = some (some (.string ByteArray.empty), 1, 16) := by kernel_rfl
theorem take_set_succS (ys : List Value) (m : Nat) (v : Value) (h : m < ys.length) : (ys.set m v).take (m + 1) = ys.take m ++ [v] := by
 rw [List.take_succ_eq_append_getElem (by simpa using h), List.take_set_of_le nR]
 simp
def OwnStrs (xs : List ByteArray) (w : World) (e : Ending) (w' : World) : Prop := ∃ v, e = .returned v ∧ w'.ownsRow w.heap.size 9 1 v xs.length (xs.flatMap encS) ∧ Below w.heap.size w w'
set_option maxHeartbeats 4000000 in
theorem toStringS_any (v : Value) (xs : List ByteArray) (w : World) (h : SRow 1 encS w v xs) (hx : xs.length ≤ 1048576) : Calls Tryz.prog 22 #[v] w (OwnStrs xs w) := by
 obtain ⟨i0, hi, hz0, hz1, hz2⟩ := info_parts info_string
 obtain ⟨n, hn⟩ : ∃ n, n = xs.length := ⟨_, rfl⟩
 have HN := hQ hn
 by_cases h0 : xs.length = 0
 ·obtain rfl : xs = [] := List.eq_nil_of_length_eq_zero h0
  obtain ⟨a, cap, rfl⟩ := h.empty
  clear h h0 hn HN hx
  go_enter Tryz.func22, Tryz.ntmps22
  go_wp2_with (at_make; refine wpList_make_full _ rfl _ _ 23 rfl w.heap.size 9 i0 (.string ByteArray.empty) 1 Tryz.underlying23 hi hz0 hz1 .i64 .i64 _ _ 0 rfl rfl rfl rfl (by rw [hz2]; omega) (by unfold maxLen; omega) nR ?_; intro w1 hown1 hgrow1)
  have OW := hQ hown1
  have HG := hQ hgrow1
  clear hown1 hgrow1
  refine wp_loop_rounds 1 ?_
  rw [rounds_succ]
  go_wp2
  go_ret
  exact ⟨_, rfl, by simpa [madeCells] using OW.out, below_of_grown HG.out nR⟩
 ·obtain ⟨b, off, cap, rfl, hbl, hc⟩ := h.pos encS_pos (by omega)
  rw [← hn] at hx h0 ⊢
  have HC := hQ hc
  clear hn hc h
  go_enter Tryz.func22, Tryz.ntmps22
  go_wp2_with (at_make; refine wpList_make_full _ rfl _ _ 23 rfl w.heap.size 9 i0 (.string ByteArray.empty) 1 Tryz.underlying23 hi hz0 hz1 .i64 .i64 _ _ n rfl rfl rfl rfl (by rw [hz2]; omega) (by unfold maxLen; omega) nR ?_; intro w1 hown1 hgrow1)
  have hb1 : Below w.heap.size w w1 := below_of_grown hgrow1 nR
  obtain ⟨g, hg⟩ : ∃ g, g = w.heap.size := ⟨_, rfl⟩
  have hown2 : ∃ ys : List Value, ys.take 0 = (xs.take 0).flatMap encS ∧ w1.ownsRow w.heap.size 9 1 (.slice (some ⟨g, 0, none⟩) n n) n ys := ⟨_, by simp, by rw [hg]; exact hown1⟩
  have OW := hQ hown2
  have HB := hQ hb1
  have HGE := hQ hg
  clear hown1 hgrow1 hown2 hb1
  rw [← hg]
  clear hg
  go_loopw [4] (fun i wr => ∃ k : Nat, k ≤ n ∧ i = .int .i64 k ∧ Hid (∃ ys : List Value, ys.take k = (xs.take k).flatMap encS ∧ wr.ownsRow w.heap.size 9 1 (.slice (some ⟨g, 0, none⟩) n n) n ys) ∧ Below w.heap.size w wr) (fun i _ => n - (intOf i).toNat)
  case atStart => exact ⟨0, Nat.zero_le _, rfl, OW.out, HB.out⟩
  case round =>
   obtain ⟨k, hk, rfl, ho, hb⟩ := hrel
   by_cases hlt : k < n
   ·have hk' : k < xs.length := by rw [← HN.out]; exact hlt
    have c := HC.out k hk' 0 _ rfl
    obtain ⟨s, hs'⟩ : ∃ s, s = xs[k] := ⟨_, rfl⟩
    rw [← hs'] at c
    have c0 : wr.cell? ⟨b, off + k, none⟩ = some (.string s) := (hb.cell (p := ⟨b, off + k, none⟩) hbl).trans (by simpa using c)
    obtain ⟨ys, hys, how⟩ := ho.out
    have hyl : ys.length = n := by have := how.1; simpa using this
    have e1 : ∃ u, wr.cell? ⟨g, k, none⟩ = some u := ⟨_, (how.cellAt k (by omega)).trans (List.getElem?_eq_getElem (by omega))⟩
    obtain ⟨u1, e1⟩ := e1
    have z1 := how.frozenAt k
    have s1 := how.stored k (.string s)
    have t1 : (ys.set k (.string s)).take (k + 1) = (xs.take (k + 1)).flatMap encS := by
     rw [take_set_succS _ _ _ (by omega), hys, List.take_succ_eq_append_getElem hk', List.flatMap_append, ← hs']
     rfl
    have fin : Hid (∃ ys : List Value, ys.take (k + 1) = (xs.take (k + 1)).flatMap encS ∧ World.ownsRow _ w.heap.size 9 1 (.slice (some ⟨g, 0, none⟩) n n) n ys) := ⟨_, t1, s1.1⟩
    have hgw : w.heap.size ≤ g := by rw [HGE.out]; exact nR
    have bfin := hb.grown s1.2 (by have := hb.size; omega) (fun j hj => by cases hj; exact hgw)
    have BF := hQ bfin
    clear s1 t1 how bfin hys hyl c hs' ho hb
    go_wp2
    go_roundw
    case rel => exact ⟨k + 1, by omega, by go_num, fin, BF.out⟩
    case measure => simp [intOf]; omega
   ·obtain rfl : k = n := by omega
    obtain ⟨ys, hys, how⟩ := ho.out
    have e : ys = xs.flatMap encS := by
     have hyl : ys.length = k := by have := how.1; simpa using this
     rw [List.take_of_length_le (by omega), List.take_of_length_le (by have := HN.out; omega)] at hys
     exact hys
    have HOW := hQ how
    have HE := hQ e
    clear ho hys how HC e
    go_wp2
    go_ret
    exact ⟨_, rfl, by rw [← HE.out, ← HN.out]; exact HOW.out, hb⟩
end Go.Proofs.YtofnchdijanikaaGreatDoor
namespace Go.Proofs.YtofnchdijanikaaGreatDoor
open Go.RowKit
def mkT (N : Nat) : ByteArray := bs (109 :: Lib.decDigits N)
def mkLString (k : Int) (n : Nat) : List ByteArray := (List.range n).map fun j => mkT (k.toNat + j)
theorem mkLString_len (k : Int) (n : Nat) : (mkLString k n).length = n := by simp [mkLString]
theorem mkLString_succ (k : Int) (n : Nat) : mkLString k (n + 1) = mkLString k n ++ [mkT (k.toNat + n)] := by simp [mkLString, List.range_succ]
theorem mkLString_get (k : Int) (n j : Nat) (h : j < (mkLString k n).length) : (mkLString k n)[j] = mkT (k.toNat + j) := by simp [mkLString]
theorem strs_map (xs : List ByteArray) : xs.flatMap encS = xs.map Value.string := by
 induction xs with
 | nil => rfl
 | cons x t ih => rw [List.flatMap_cons, ih]; rfl
theorem markStr_run (k : Int) (xs : List ByteArray) (j : Nat) (h : j < xs.length) : ((mkLString k j ++ xs.drop j).flatMap encS).set j (.string (mkT (k.toNat + j))) = (mkLString k (j + 1) ++ xs.drop (j + 1)).flatMap encS := by
 have e : (mkLString k j).length = j := mkLString_len k j
 rw [strs_map, strs_map, ← List.map_set, mkLString_succ, List.drop_eq_getElem_cons h, List.set_append_right _ _ (by omega), e, Nat.sub_self, List.set_cons_zero, List.append_assoc]
 rfl
set_option maxHeartbeats 2000000 in
theorem markText_at (N : Nat) (h1 : 1 ≤ N) (hN : N ≤ 2000000000) (w : World) : Calls Tryz.prog 54 #[.int .i64 N] w (RetT (109 :: Lib.decDigits N) w) := by
 have L0 : Hid ((Lib.decDigits N).length ≤ 30) := by
  have := Lib.itoa_length_le (N : Int) (by omega) (by omega)
  rw [Lib.itoa_nonneg] at this
  show _ ≤ _
  omega
 have I0 : Hid ((if N = 0 then [] else Lib.decDigits N) ++ [] = Lib.decDigits N) := by
  show _ = _
  rw [if_neg (by omega), List.append_nil]
 obtain ⟨T, hT⟩ : ∃ T, T = Lib.decDigits N := ⟨_, rfl⟩
 rw [← hT] at L0 ⊢
 have I1 : Hid ((if N = 0 then [] else Lib.decDigits N) ++ [] = T) := by show _ = _; rw [hT]; exact I0.out
 clear hT I0
 have hN0 : ¬ (N : Int) ≤ 0 := by omega
 go_enter Tryz.func54, Tryz.ntmps54
 go_wp2
 go_loopw [0, 3] (fun nn o wr => ∃ (n : Nat) (out : List UInt8), n ≤ 2000000000 ∧ nn = .int .i64 n ∧ o = .string (bs out) ∧ Hid ((if n = 0 then [] else Lib.decDigits n) ++ out = T) ∧ Hid (Below w.heap.size w wr)) (fun nn _ _ => (intOf nn).toNat)
 case atStart => exact ⟨N, [], hN, rfl, rfl, I1.out, Below.refl _ _⟩
 case round =>
  obtain ⟨n, out, hn, rfl, rfl, hpre, hb⟩ := hrel
  clear I1
  have hol : out.length ≤ 30 := by
   have := congrArg List.length hpre.out
   rw [List.length_append] at this
   have := L0.out
   omega
  by_cases h9 : 0 < n
  ·have c1 : ¬ 9223372036854775807 < 1 + out.length := by omega
   have d1 : ((n : Int)).tdiv 10 = ((n / 10 : Nat) : Int) := by rw [Int.tdiv_eq_ediv_of_nonneg (by omega)]; omega
   obtain ⟨m, hm⟩ : ∃ m, m = n / 10 := ⟨_, rfl⟩
   rw [← hm] at d1
   have cv := conv1 wr (48 + (n : Int) % 10)
   have P2 : Hid ((if m = 0 then [] else Lib.decDigits m) ++ ([UInt8.ofNat (48 + (n : Int) % 10).toNat] ++ out) = T) := by
    have h := hpre.out
    have ey : UInt8.ofNat (48 + (n : Int) % 10).toNat = UInt8.ofNat (48 + n % 10) := by congr 1
    rw [if_neg (by omega), preD_last n, List.append_assoc] at h
    show _ = _
    rw [← h, ey]
    congr 1
    unfold preD
    by_cases hs : n < 10
    ·rw [if_pos (by omega), if_pos hs]
    ·rw [if_neg (by omega), if_neg hs, hm]
   have hmn : m < n ∧ m ≤ 2000000000 := by omega
   obtain ⟨m1, m2⟩ := hmn
   have BB := hQ (hb.out.alloc hb.out.size (.cells #[.int .u8 (48 + (n : Int) % 10)] 5))
   obtain ⟨y, hy⟩ : ∃ y, y = UInt8.ofNat (48 + (n : Int) % 10).toNat := ⟨_, rfl⟩
   rw [← hy] at cv P2
   clear hm hpre hb hy
   go_wp2
   exact ⟨⟨m, [y] ++ out, m2, rfl, by rw [bs_append], P2.out, BB.out⟩, by simp [intOf]; omega⟩
  ·have e : out = T := by
    have h := hpre.out
    rw [if_pos (by omega)] at h
    exact h
   have E := hQ e
   have c1 : ¬ 9223372036854775807 < 1 + out.length := by omega
   have e2 : Hid ((⟨#[109]⟩ : ByteArray) ++ bs out = bs (109 :: T)) := by
    show _ = _
    rw [E.out, show (⟨#[109]⟩ : ByteArray) = bs [109] from rfl, bs_append]
    rfl
   clear e hpre
   go_wp2
   go_ret
   refine ⟨?_, hb.out⟩
   show Ending.returned (.string ((⟨#[109]⟩ : ByteArray) ++ bs out)) = _
   rw [e2.out]
theorem markText_mk (k : Int) (h0 : 1 ≤ k) (h1 : k ≤ 2000000000) (w : World) : Calls Tryz.prog 54 #[.int .i64 k] w (Ret (.string (mkT k.toNat)) w) := by
 obtain ⟨N, rfl⟩ := Int.eq_ofNat_of_zero_le (show 0 ≤ k by omega)
 exact markText_at N (by omega) (by omega) w
def MarkStrPost (k : Int) (n base : Nat) (v : Value) (w : World) (e : Ending) (w' : World) : Prop :=
 e = .returned (.int .i64 (k + n)) ∧ w'.ownsRow base 9 1 v n ((mkLString k n).flatMap encS) ∧ w.grownBy w' v.ownBlock
set_option maxHeartbeats 2000000 in
theorem markStringS_any (v : Value) (xs : List ByteArray) (k : Int) (base : Nat) (w : World) (h : w.ownsRow base 9 1 v xs.length (xs.flatMap encS)) (hk : 1 ≤ k) (hk2 : k ≤ 1000000000) (hx : xs.length ≤ 1000000000) :
  Calls Tryz.prog 24 #[v, .int .i64 k] w (MarkStrPost k xs.length base v w) := by
 by_cases h0 : xs.length = 0
 ·obtain rfl : xs = [] := List.eq_nil_of_length_eq_zero h0
  obtain ⟨a, cap, rfl⟩ : ∃ a cap, v = .slice a 0 cap := (SRow.of_owns encS_len rfl h).empty
  have HH := hQ h
  clear h h0 hx
  go_enter Tryz.func24, Tryz.ntmps24
  go_wp2
  refine wp_loop_rounds 1 ?_
  rw [rounds_succ]
  go_wp2
  go_ret
  exact ⟨by simp, HH.out, grownBy_refl _ _⟩
 ·obtain ⟨n, hn⟩ : ∃ n, n = xs.length := ⟨_, rfl⟩
  rw [← hn] at h hx h0 ⊢
  obtain ⟨g, cap, rfl⟩ : ∃ g cap, v = .slice (some ⟨g, 0, none⟩) n cap := by
   rcases h.2 with ⟨_, e⟩ | ⟨g, cap, _, e, _⟩
   ·omega
   ·exact ⟨g, cap, e⟩
  have HH : Hid (w.ownsRow base 9 1 (.slice (some ⟨g, 0, none⟩) n cap) n ((mkLString k 0 ++ xs.drop 0).flatMap encS)) := h
  have HN := hQ hn
  clear h hn
  go_enter Tryz.func24, Tryz.ntmps24
  go_wp2
  go_loopw [1, 5] (fun kk i wr => ∃ j : Nat, j ≤ n ∧ i = .int .i64 j ∧ kk = .int .i64 (k + j) ∧ Hid (wr.ownsRow base 9 1 (.slice (some ⟨g, 0, none⟩) n cap) n ((mkLString k j ++ xs.drop j).flatMap encS)) ∧ w.grownBy wr (some g)) (fun _ i _ => n - (intOf i).toNat)
  case atStart => exact ⟨0, Nat.zero_le _, rfl, by simp, HH.out, grownBy_refl _ _⟩
  case round =>
   obtain ⟨j, hj, rfl, rfl, ho, hg⟩ := hrel
   by_cases hlt : j < n
   ·have HG := hQ hg
    clear hg
    go_wp2_with fail
    refine (markText_mk (k + j) (by omega) (by omega) _).mono ?_
    rintro e w1 ⟨rfl, b1⟩
    have how1 := owns_below ho.out b1
    have e1 : ∃ u, w1.cell? ⟨g, j, none⟩ = some u := by
     have e := how1.cellAt j (by omega)
     exact ⟨_, e.trans (List.getElem?_eq_getElem (by have := how1.1; omega))⟩
    obtain ⟨u, e1⟩ := e1
    have e2 := how1.frozenAt j
    have ek : (k + (j : Int)).toNat = k.toNat + j := by omega
    rw [ek]
    have e3 := how1.stored j (.string (mkT (k.toNat + j)))
    rw [markStr_run k xs j (by rw [← HN.out]; exact hlt)] at e3
    obtain ⟨e3, e4⟩ := e3
    have E3 := hQ e3
    have E4 := hQ (grownBy_trans (grownBy_trans HG.out (grown_of_below b1 _)) e4)
    clear e3 e4 ho how1 b1 ek
    go_wp2
    go_roundw
    case rel => exact ⟨j + 1, by omega, by go_num, by go_num, E3.out, E4.out⟩
    case measure => simp [intOf]; omega
   ·obtain rfl : j = n := by omega
    have HG := hQ hg
    have ho2 := ho.out
    rw [List.drop_of_length_le (by rw [← HN.out]; omega), List.append_nil] at ho2
    have HO := hQ ho2
    clear hg ho ho2
    go_wp2
    go_ret
    exact ⟨rfl, HO.out, HG.out⟩
set_option maxHeartbeats 2000000 in
theorem heldStringS_any (v : Value) (n : Nat) (k : Int) (w : World) (h : SRow 1 encS w v (mkLString k n)) (hk : 1 ≤ k) (hk2 : k ≤ 1000000000) (hx : n ≤ 1000000000) :
  Calls Tryz.prog 25 #[v, .int .i64 k] w (Ret (.int .i64 (k + n)) w) := by
 by_cases h0 : n = 0
 ·subst h0
  obtain ⟨a, cap, rfl⟩ := h.empty
  clear h hx
  go_enter Tryz.func25, Tryz.ntmps25
  go_wp2
  refine wp_loop_rounds 1 ?_
  rw [rounds_succ]
  go_wp2
  go_ret
  exact ⟨by simp, Below.refl _ _⟩
 ·obtain ⟨b, off, cap, rfl, hbl, hc⟩ := h.pos encS_pos (by rw [mkLString_len]; omega)
  rw [mkLString_len] at ⊢
  have HC := hQ hc
  clear hc h
  go_enter Tryz.func25, Tryz.ntmps25
  go_wp2
  go_loopw [1, 5] (fun kk i wr => ∃ j : Nat, j ≤ n ∧ i = .int .i64 j ∧ kk = .int .i64 (k + j) ∧ Hid (Below w.heap.size w wr)) (fun _ i _ => n - (intOf i).toNat)
  case atStart => exact ⟨0, Nat.zero_le _, rfl, by simp, Below.refl _ _⟩
  case round =>
   obtain ⟨j, hj, rfl, rfl, hb⟩ := hrel
   by_cases hlt : j < n
   ·have q := HC.out j (by rw [mkLString_len]; exact hlt) 0 _ rfl
    rw [mkLString_get] at q
    have c0 : wr.cell? ⟨b, off + j, none⟩ = some (.string (mkT (k.toNat + j))) := (hb.out.cell (p := ⟨b, off + j, none⟩) hbl).trans (by simpa using q)
    have MT := hQ (markText_mk (k + j) (by omega) (by omega) wr.drew)
    rw [show (k + (j : Int)).toNat = k.toNat + j by omega] at MT
    obtain ⟨T, hT⟩ : ∃ T, T = mkT (k.toNat + j) := ⟨_, rfl⟩
    rw [← hT] at c0 MT
    clear q hT
    go_wp2
    go_region_with (go_at_call 54; refine (MT.out).mono ?_; rintro e w1 ⟨rfl, b1⟩; have d0 : w1.cell? ⟨b, off + j, none⟩ = some (.string T) := (b1.cell (p := ⟨b, off + j, none⟩) (World.block_lt_of_cell? wr.drew _ c0)).trans c0)
    all_goals
     have B1 := hQ (below_next hb.out.drew (by assumption) nR)
     go_wp2
     go_roundw
     case rel => exact ⟨j + 1, by omega, by go_num, by go_num, B1.out⟩
     case measure => simp [intOf]; omega
   ·obtain rfl : j = n := by omega
    go_wp2
    go_ret
    exact ⟨rfl, hb.out⟩
theorem markText_any (k : Int) (w : World) (h0 : 1 ≤ k) (h1 : k ≤ 2000000000) : Calls Tryz.prog 54 #[.int .i64 k] w fun e w' => ∃ s : ByteArray, e = .returned (.string s) ∧ Below w.heap.size w w' :=
 (markText_mk k h0 h1 w).mono fun _ _ h => ⟨_, h⟩
theorem blk_apart {vY vX : Value} {a b c d : Nat} (hY : ∀ k, vY.ownBlock = some k → a ≤ k ∧ k < b) (hX : ∀ k, vX.ownBlock = some k → c ≤ k ∧ k < d) (h : b ≤ c ∨ d ≤ a) : vY.ownBlock = none ∨ vY.ownBlock ≠ vX.ownBlock := by
 cases e : vY.ownBlock with
 | none => exact .inl rfl
 | some k =>
  right
  intro e2
  have h1 := hY k e
  have h2 := hX k e2.symm
  omega
end Go.Proofs.YtofnchdijanikaaGreatDoor
namespace Go.Proofs.YtofnchdijanikaaGreatDoor
open Go.RowKit
theorem TxtS.s {w : World} {v : Value} {xs : List (List UInt8)} (h : TxtS w v xs) : SRow 1 encS w v (xs.map bs) := by
 obtain ⟨a, cap, e, hl, hc⟩ := h
 refine ⟨a, cap, by rw [List.length_map]; exact e, by rw [List.length_map]; exact hl, fun j hj => ?_⟩
 obtain ⟨b, off, e1, h1⟩ := hc j (by rw [List.length_map] at hj; exact hj)
 exact ⟨b, off, e1, fun i u hu => h1 i u (by rw [List.getElem_map] at hu; exact hu)⟩
theorem bs_size (l : List UInt8) : (bs l).size = l.length := by simp [ByteArray.size]
theorem TxtS.of_s {w : World} {v : Value} {xs : List (List UInt8)} (h : SRow 1 encS w v (xs.map bs)) : TxtS w v xs := by
 obtain ⟨a, cap, e, hl, hc⟩ := h
 rw [List.length_map] at e hl
 refine ⟨a, cap, e, hl, fun j hj => ?_⟩
 obtain ⟨b, off, e1, h1⟩ := hc j (by rw [List.length_map]; exact hj)
 exact ⟨b, off, e1, fun i u hu => h1 i u (by rw [List.getElem_map]; exact hu)⟩
theorem flat_s (xs : List (List UInt8)) : (xs.map bs).flatMap encS = xs.flatMap encB := by rw [List.flatMap_map]; rfl
theorem OwnT.s {w : World} {B : Nat} {v : Value} {xs : List (List UInt8)} (h : OwnT w B v xs) : w.ownsRow B 9 1 v (xs.map bs).length ((xs.map bs).flatMap encS) := by
 rw [flat_s, List.length_map]
 exact h
theorem OwnT.of_s {w : World} {B n : Nat} {v : Value} {xs : List (List UInt8)} (h : w.ownsRow B 9 1 v n ((xs.map bs).flatMap encS)) (hn : n = xs.length) : OwnT w B v xs := by
 rw [flat_s, hn] at h
 exact h
def mkTs (k : Int) (n : Nat) : List (List UInt8) := (List.range n).map fun j => 109 :: Lib.decDigits (k.toNat + j)
theorem mkTs_len (k : Int) (n : Nat) : (mkTs k n).length = n := by simp [mkTs]
theorem mkTs_s (k : Int) (n : Nat) : (mkTs k n).map bs = mkLString k n := by
 unfold mkTs mkLString mkT
 rw [List.map_map]
 rfl
theorem eqT_any (v1 v2 : Value) (xs : List (List UInt8)) (w : World) (h1 : TxtS w v1 xs) (h2 : TxtS w v2 xs) : Calls Tryz.prog 23 #[v1, v2] w (Ret (.bool true) w) := eqStringS_any v1 v2 (xs.map bs) w h1.s h2.s
theorem toT_any (v : Value) (xs : List (List UInt8)) (w : World) (h : TxtS w v xs) (hx : xs.length ≤ 1048576) : Calls Tryz.prog 22 #[v] w fun e w' => ∃ z n c, e = .returned (.slice z n c) ∧ OwnT w' w.heap.size (.slice z n c) xs ∧ Below w.heap.size w w' := by
 refine (toStringS_any v (xs.map bs) w h.s (by rw [List.length_map]; exact hx)).mono ?_
 rintro e w' ⟨v', rfl, ho, hb⟩
 have ho' := OwnT.of_s ho (List.length_map _)
 obtain ⟨z, c, rfl⟩ := own_form ho'
 exact ⟨z, _, c, rfl, ho', hb⟩
theorem markT_any (v : Value) (xs : List (List UInt8)) (k : Int) (base : Nat) (w : World) (h : OwnT w base v xs) (hk : 1 ≤ k) (hk2 : k ≤ 1000000000) (hx : xs.length ≤ 1000000000) : Calls Tryz.prog 24 #[v, .int .i64 k] w fun e w' => e = .returned (.int .i64 (k + xs.length)) ∧ OwnT w' base v (mkTs k xs.length) ∧ w.grownBy w' v.ownBlock := by
 refine (markStringS_any v (xs.map bs) k base w h.s hk hk2 (by rw [List.length_map]; exact hx)).mono ?_
 rintro e w' ⟨rfl, ho, hg⟩
 rw [List.length_map] at ho ⊢
 rw [← mkTs_s] at ho
 exact ⟨rfl, OwnT.of_s ho (mkTs_len _ _).symm, hg⟩
theorem heldT_any (v : Value) (n : Nat) (k : Int) (w : World) (h : TxtS w v (mkTs k n)) (hk : 1 ≤ k) (hk2 : k ≤ 1000000000) (hx : n ≤ 1000000000) : Calls Tryz.prog 25 #[v, .int .i64 k] w (Ret (.int .i64 (k + n)) w) := by
 refine heldStringS_any v n k w ?_ hk hk2 hx
 rw [← mkTs_s]
 exact h.s
def SzT (xs : List (List UInt8)) (l r : Int) : Prop := r = -1 ∨ (0 ≤ r ∧ r + xs.length ≤ l ∧ ∀ x ∈ xs, (x.length : Int) ≤ l)
theorem szT_any (v : Value) (xs : List (List UInt8)) (l : Int) (w : World) (h : TxtS w v xs) (hx : ∀ x ∈ xs, x.length ≤ 9223372036854775807) (hl : 0 ≤ l) (hl' : l ≤ 1000000000) : Calls Tryz.prog 21 #[v, .int .i64 l] w fun e w' => ∃ r, e = .returned (.int .i64 r) ∧ SzT xs l r ∧ w = w' := by
 refine (szStringS_any v (xs.map bs) l w h.s (fun s hs => by
  obtain ⟨x, hx2, rfl⟩ := List.mem_map.1 hs
  have := hx x hx2
  rw [bs_size]
  exact this) hl hl').mono ?_
 rintro e w' ⟨rfl, rfl⟩
 refine ⟨_, rfl, ?_, rfl⟩
 have key : ∀ (ys : List ByteArray) (q : Int), 0 ≤ q → szL q ys = -1 ∨ (0 ≤ szL q ys ∧ szL q ys ≤ q) := by
  intro ys
  induction ys with
  | nil => intro q hq; exact .inr ⟨hq, Int.le_refl _⟩
  | cons y t ih =>
   intro q hq
   rw [szL]
   split
   ·exact .inl rfl
   ·rcases ih (q - y.size) (by omega) with h | h
    ·exact .inl h
    ·exact .inr ⟨h.1, by omega⟩
 unfold SzT
 rcases szS_bd l (xs.map bs) with h1 | ⟨h1, h2, h3⟩
 ·exact .inl h1
 ·refine .inr ⟨h1, ?_, fun x hx2 => by have := h3 (bs x) (List.mem_map_of_mem hx2); rw [bs_size] at this; exact this⟩
  rw [List.length_map] at h2
  unfold szS at h1 ⊢
  rw [List.length_map] at h1 ⊢
  split
  ·omega
  ·rename_i hc
   rw [if_neg hc] at h1
   rcases key (xs.map bs) (l - xs.length) (by omega) with h | h <;> omega
end Go.Proofs.YtofnchdijanikaaGreatDoor
namespace Go.Proofs.YtofnchdijanikaaGreatDoor
open Go.RowKit
theorem heap_lt {w : World} {k : Nat} {o : Obj} (h : w.heap[k]? = some o) : k < w.heap.size := (Array.getElem?_eq_some_iff.1 h).1
structure OnlyU (us : List Value) (w w' : World) : Prop where
 os : w'.os = w.os
 tape : w'.tape = w.tape
 output : w'.output = w.output
 size : w.heap.size ≤ w'.heap.size
 block : ∀ k, k < w.heap.size → (∀ u ∈ us, u.ownBlock ≠ some k) → w'.heap[k]? = w.heap[k]?
theorem OnlyU.refl (us : List Value) (w : World) : OnlyU us w w := ⟨rfl, rfl, rfl, nR, fun _ _ _ => rfl⟩
theorem OnlyU.trans {us : List Value} {a b c : World} (h : OnlyU us a b) (k : OnlyU us b c) : OnlyU us a c :=
 ⟨k.os.trans h.os, k.tape.trans h.tape, k.output.trans h.output, Nat.le_trans h.size k.size, fun i hi' ho => (k.block i (Nat.lt_of_lt_of_le hi' h.size) ho).trans (h.block i hi' ho)⟩
theorem OnlyU.mono {us vs : List Value} {a b : World} (h : OnlyU us a b) (hm : ∀ u ∈ us, u ∈ vs) : OnlyU vs a b :=
 ⟨h.os, h.tape, h.output, h.size, fun k hk ho => h.block k hk fun u hu => ho u (hm u hu)⟩
theorem OnlyU.of_grown {us : List Value} {a b : World} {u : Value} (h : a.grownBy b u.ownBlock) (hu : u ∈ us) : OnlyU us a b :=
 ⟨h.os, h.tape, h.output, h.size, fun k hk ho => h.block k hk fun e => ho u hu e.symm⟩
theorem OnlyU.of_below {us : List Value} {a b : World} (h : Below a.heap.size a b) : OnlyU us a b :=
 ⟨h.os, h.tape, h.output, h.size, fun k hk _ => h.block k hk⟩
theorem OnlyU.below {us : List Value} {lo : Nat} {a b : World} (h : OnlyU us a b) (hl : lo ≤ a.heap.size) (hu : ∀ u ∈ us, ∀ k, u.ownBlock = some k → lo ≤ k) : Below lo a b :=
 ⟨h.os, h.tape, h.output, h.size, fun k hk => h.block k (by omega) fun u hm e => by have := hu u hm k e; omega⟩
theorem owns_onlyU {us : List Value} {w w' : World} {base : Nat} {e : TypeId} {size : Nat} {v : Value} {n : Nat} {xs : List Value} (h : w.ownsRow base e size v n xs) (ho : OnlyU us w w') (hne : ∀ k, v.ownBlock = some k → ∀ u ∈ us, u.ownBlock ≠ some k) : w'.ownsRow base e size v n xs := by
 refine ⟨h.1, h.2.imp id fun ⟨g, cap, cur, ev, hb', hc, r⟩ => ?_⟩
 subst ev
 exact ⟨g, cap, cur, rfl, hb', (ho.block g (heap_lt hc) (hne g rfl)).trans hc, r⟩
def mkSS (k : Int) : List (List (List UInt8)) → List (List (List UInt8))
 | [] => []
 | x :: t => mkTs k x.length :: mkSS (k + x.length) t
def totT : List (List (List UInt8)) → Nat
 | [] => 0
 | x :: t => x.length + totT t
theorem mkSS_len : ∀ (xs : List (List (List UInt8))) (k : Int), (mkSS k xs).length = xs.length
 | [], k => rfl
 | x :: t, k => by rw [mkSS, List.length_cons, List.length_cons, mkSS_len t]
theorem mkSS_get : ∀ (xs : List (List (List UInt8))) (k : Int) (j : Nat) (h : j < xs.length), (mkSS k xs)[j]? = some (mkTs (k + totT (xs.take j)) xs[j].length)
 | [], k, j, h => absurd h (Nat.not_lt_zero _)
 | x :: t, k, 0, h => by simp [mkSS, totT]
 | x :: t, k, j + 1, h => by
  rw [mkSS, List.getElem?_cons_succ, mkSS_get t _ j (by simpa using h)]
  simp only [List.take_succ_cons, totT, List.getElem_cons_succ]
  rw [show k + (x.length : Int) + (totT (t.take j) : Int) = k + ((x.length + totT (t.take j) : Nat) : Int) by omega]
theorem totT_succ : ∀ (xs : List (List (List UInt8))) (j : Nat) (h : j < xs.length), totT (xs.take (j + 1)) = totT (xs.take j) + xs[j].length
 | [], j, h => absurd h (Nat.not_lt_zero _)
 | x :: t, 0, h => by simp [totT]
 | x :: t, j + 1, h => by
  simp only [List.take_succ_cons, totT, List.getElem_cons_succ]
  rw [totT_succ t j (by simpa using h)]
  omega
theorem totT_take : ∀ (xs : List (List (List UInt8))) (j : Nat), totT (xs.take j) ≤ totT xs
 | [], j => by simp [totT]
 | x :: t, 0 => by simp [totT]
 | x :: t, j + 1 => by
  simp only [List.take_succ_cons, totT]
  have := totT_take t j
  omega
theorem totT_mem : ∀ (xs : List (List (List UInt8))) (x : List (List UInt8)), x ∈ xs → x.length ≤ totT xs
 | y :: t, x, h => by
  rcases List.mem_cons.1 h with rfl | h
  ·simp only [totT]; omega
  ·have := totT_mem t x h; simp only [totT]; omega
set_option maxHeartbeats 4000000 in
theorem eqSS_any (v1 v2 : Value) (xs : List (List (List UInt8))) (w : World) (h1 : TxtSS w v1 xs) (h2 : TxtSS w v2 xs) : Calls Tryz.prog 43 #[v1, v2] w (Ret (.bool true) w) := by
 obtain ⟨a, ca, rfl, hl, h3⟩ := ss_idx h1
 obtain ⟨a', cb, rfl, _, h4⟩ := ss_idx h2
 obtain ⟨n, hn⟩ : ∃ n, n = xs.length := ⟨_, rfl⟩
 rw [← hn] at hl h3 h4 ⊢
 have H3 := hQ h3
 have H4 := hQ h4
 clear h1 h2 h3 h4 hn
 go_enter Tryz.func43, Tryz.ntmps43
 go_wp2
 go_loopw [5] (fun i wr => ∃ k : Nat, k ≤ n ∧ i = .int .i64 k ∧ Hid (Below w.heap.size w wr)) (fun i _ => n - (intOf i).toNat)
 case atStart => exact ⟨0, Nat.zero_le _, rfl, Below.refl _ _⟩
 case round =>
  obtain ⟨k, hk, rfl, hb⟩ := hrel
  by_cases hlt : k < n
  ·obtain ⟨b, off, u, rfl, l1, c1, i1⟩ := H3.out k hlt
   obtain ⟨b', off', u', rfl, l2, c2, i2⟩ := H4.out k hlt
   have d1 : wr.cell? ⟨b, off + k, none⟩ = some u := (hb.out.cell (p := ⟨b, off + k, none⟩) l1).trans c1
   have d2 : wr.cell? ⟨b', off' + k, none⟩ = some u' := (hb.out.cell (p := ⟨b', off' + k, none⟩) l2).trans c2
   obtain ⟨x, hx⟩ : ∃ x, x = xs.getD k [] := ⟨_, rfl⟩
   rw [← hx] at i1 i2
   have I1 := hQ (i1.below hb.out)
   have I2 := hQ (i2.below hb.out)
   clear c1 c2 i1 i2 hx
   go_wp2
   go_still_tail 8, (by kernel_rfl)
   change wpList _ _ _ _ _ wr.drew
   go_wp2_with (go_at_call 23; refine (eqT_any u u' x _ (I1.out.below ((Below.refl _ _).drew)) (I2.out.below ((Below.refl _ _).drew))).mono ?_; rintro e w1 ⟨rfl, hb1⟩)
   have hb2 : Below w.heap.size w w1 := (hb.out.drew).trans ((by assumption : Below wr.drew.heap.size wr.drew w1).mono (by have := hb.out.size; exact this))
   go_roundw
   case rel => exact ⟨k + 1, by omega, by go_num, hb2⟩
   case measure => simp [intOf]; omega
  ·clear H3 H4
   go_wp2
   go_ret
   exact ⟨rfl, hb.out⟩
set_option maxHeartbeats 4000000 in
theorem heldSS_any (v : Value) (xs : List (List (List UInt8))) (k : Int) (w : World) (h : TxtSS w v (mkSS k xs)) (hk : 1 ≤ k) (hk2 : k ≤ 1000) (ht : totT xs ≤ 100000000) : Calls Tryz.prog 45 #[v, .int .i64 k] w (Ret (.int .i64 (k + totT xs)) w) := by
 obtain ⟨a, ca, rfl, hl, h3⟩ := ss_idx h
 obtain ⟨n, hn⟩ : ∃ n, n = xs.length := ⟨_, rfl⟩
 have e := mkSS_len xs k
 rw [e, ← hn] at hl h3 ⊢
 have H3 := hQ h3
 have HN := hQ hn
 obtain ⟨T, hT⟩ : ∃ T, T = totT xs := ⟨_, rfl⟩
 rw [← hT] at ht ⊢
 have HT := hQ hT
 clear h h3 hn e hT
 go_enter Tryz.func45, Tryz.ntmps45
 go_wp2
 go_loopw [1, 5] (fun kk i wr => ∃ j t : Nat, j ≤ n ∧ t ≤ T ∧ i = .int .i64 j ∧ kk = .int .i64 (k + t) ∧ Hid (t = totT (xs.take j)) ∧ Hid (Below w.heap.size w wr)) (fun _ i _ => n - (intOf i).toNat)
 case atStart => exact ⟨0, 0, Nat.zero_le _, Nat.zero_le _, rfl, by simp, rfl, Below.refl _ _⟩
 case round =>
  obtain ⟨j, t, hj, htT, rfl, rfl, htj, hb⟩ := hrel
  by_cases hlt : j < n
  ·have hj' : j < xs.length := by rw [← HN.out]; exact hlt
   obtain ⟨b, off, u, rfl, l1, c1, i1⟩ := H3.out j hlt
   have g1 := mkSS_get xs k j hj'
   rw [← htj.out] at g1
   rw [show (mkSS k xs).getD j [] = mkTs (k + t) xs[j].length by simp [List.getD, g1]] at i1
   have ts := totT_succ xs j hj'
   rw [← htj.out] at ts
   have tt := totT_take xs (j + 1)
   rw [ts, ← HT.out] at tt
   obtain ⟨m, hm⟩ : ∃ m, m = xs[j].length := ⟨_, rfl⟩
   rw [← hm] at i1 ts tt
   have d1 : wr.cell? ⟨b, off + j, none⟩ = some u := (hb.out.cell (p := ⟨b, off + j, none⟩) l1).trans c1
   have I1 := hQ (i1.below hb.out)
   have TS := hQ ts
   have NN : ¬ k + (t : Int) + (m : Int) < 0 := by omega
   clear c1 i1 g1 hm ts htj
   go_wp2_with (go_at_call 25; refine (heldT_any u m (k + t) wr I1.out (by omega) (by omega) (by omega)).mono ?_; rintro e w2 ⟨rfl, b2⟩)
   have B2 := hQ (below_next hb.out (by assumption) nR)
   go_roundw
   case rel => exact ⟨j + 1, t + m, by omega, by omega, by go_num, by go_num, TS.out.symm, B2.out⟩
   case measure => simp [intOf]; omega
  ·have e : t = T := by rw [htj.out, HT.out, List.take_of_length_le (by have := HN.out; omega)]
   have E := hQ e
   clear H3 e
   go_wp2
   go_ret
   exact ⟨by rw [← E.out]; rfl, hb.out⟩
end Go.Proofs.YtofnchdijanikaaGreatDoor
namespace Go.Proofs.YtofnchdijanikaaGreatDoor
open Go.RowKit
theorem OwnSU.turn {w w' : World} {base hi j : Nat} {v u : Value} {xs : List (List (List UInt8))} {us : List Value} {x : List (List UInt8)} (h : OwnSU w base hi v xs us) (hj : j < xs.length) (hu : us[j]? = some u)
  (hg : w.grownBy w' u.ownBlock) (ho : OwnT w' base u x) : OwnSU w' base hi v (xs.set j x) us := by
 obtain ⟨h1, h2, h2', h3, h4⟩ := h
 obtain ⟨u0, e0, hu0, hk0, ha0⟩ := h3 j hj
 obtain rfl : u = u0 := by rw [hu] at e0; exact Option.some.inj e0
 refine ⟨by simp [h1], ?_, h2', fun i hi' => ?_, h4⟩
 ·rw [List.length_set]
  refine h2.kept hg ?_
  cases hv : v.ownBlock with
  | none => exact .inl rfl
  | some k =>
   right
   rcases ha0 with ha | ha
   ·rw [ha]; simp
   ·rw [← hv]; exact Ne.symm ha
 ·rw [List.length_set] at hi'
  by_cases hij : j = i
  ·subst hij
   refine ⟨u, hu, ?_, hk0, ha0⟩
   rw [List.getElem_set_self]
   exact ho
  ·obtain ⟨u', e', hu', hk', ha'⟩ := h3 i hi'
   refine ⟨u', e', ?_, hk', ha'⟩
   rw [List.getElem_set_ne hij]
   refine World.ownsRow.kept hu' hg ?_
   exact h4 i j u' u e' hu (Ne.symm hij)
theorem mix_set {α : Type} (A B : List α) (j : Nat) (hA : j < A.length) (hB : j < B.length) : (A.take j ++ B.drop j).set j A[j] = A.take (j + 1) ++ B.drop (j + 1) := by
 rw [List.set_append_right _ _ (by simp; omega), List.length_take, show j - min j A.length = 0 by omega, List.drop_eq_getElem_cons hB, List.set_cons_zero, List.take_succ_eq_append_getElem hA, List.append_assoc]
 rfl
set_option maxHeartbeats 8000000 in
theorem markSS_any (v : Value) (xs : List (List (List UInt8))) (us : List Value) (k : Int) (base hi : Nat) (w : World) (h : OwnSU w base hi v xs us) (hk : 1 ≤ k) (hk2 : k ≤ 1000) (ht : totT xs ≤ 100000000) :
  Calls Tryz.prog 44 #[v, .int .i64 k] w fun e w' => e = .returned (.int .i64 (k + totT xs)) ∧ OwnSU w' base hi v (mkSS k xs) us ∧ OnlyU us w w' := by
 obtain ⟨a, ca, rfl⟩ := h.form
 obtain ⟨_, _, _, hl, _⟩ := ss_idx h.read
 obtain ⟨n, hn⟩ : ∃ n, n = xs.length := ⟨_, rfl⟩
 rw [← hn] at hl h ⊢
 have HN := hQ hn
 have H0 := hQ h
 obtain ⟨T, hT⟩ : ∃ T, T = totT xs := ⟨_, rfl⟩
 rw [← hT] at ht ⊢
 have HT := hQ hT
 clear h hn hT
 go_enter Tryz.func44, Tryz.ntmps44
 go_wp2
 go_loopw [1, 5] (fun kk i wr => ∃ j t : Nat, j ≤ n ∧ t ≤ T ∧ i = .int .i64 j ∧ kk = .int .i64 (k + t) ∧ Hid (t = totT (xs.take j)) ∧ Hid (OwnSU wr base hi (.slice a n ca) ((mkSS k xs).take j ++ xs.drop j) us) ∧ Hid (OnlyU us w wr)) (fun _ i _ => n - (intOf i).toNat)
 case atStart => exact ⟨0, 0, Nat.zero_le _, Nat.zero_le _, rfl, by simp, rfl, by show OwnSU _ _ _ _ _ _; simpa using H0.out, OnlyU.refl _ _⟩
 case round =>
  obtain ⟨j, t, hj, htT, rfl, rfl, htj, ho, hb⟩ := hrel
  by_cases hlt : j < n
  ·have hj' : j < xs.length := by rw [← HN.out]; exact hlt
   have hA : j < (mkSS k xs).length := by rw [mkSS_len]; exact hj'
   have ho1 : OwnSU wr base hi (.slice a n ca) ((mkSS k xs).take j ++ xs.drop j) us := ho.out
   have hlen : ((mkSS k xs).take j ++ xs.drop j).length = n := by
    rw [List.length_append, List.length_take, List.length_drop, mkSS_len, ← HN.out]; omega
   obtain ⟨u, eu, hu, hk3, ha⟩ := ho1.2.2.2.1 j (by rw [hlen]; exact hlt)
   have ex : ((mkSS k xs).take j ++ xs.drop j)[j]'(by rw [hlen]; exact hlt) = xs[j] := by
    rw [List.getElem_append_right (by rw [List.length_take]; omega)]
    simp only [List.length_take, List.getElem_drop, Nat.min_eq_left (Nat.le_of_lt hA), Nat.sub_self, Nat.add_zero]
   rw [ex] at hu
   have hs1 := ho1.2.1
   rw [hlen] at hs1
   obtain ⟨g, cap, eg, _, hgl⟩ := hs1.form (by omega)
   cases eg
   have d1 := (hs1.cellAt j (by omega)).trans eu
   have ts := totT_succ xs j hj'
   rw [← htj.out] at ts
   have tt := totT_take xs (j + 1)
   rw [ts, ← HT.out] at tt
   have g1 := mkSS_get xs k j hj'
   rw [← htj.out] at g1
   have g2 : (mkSS k xs)[j]'hA = mkTs (k + t) xs[j].length := (List.getElem?_eq_some_iff.1 g1).2
   have TURN : Hid (∀ w', wr.grownBy w' u.ownBlock → OwnT w' base u (mkTs (k + t) xs[j].length) → OwnSU w' base hi (.slice (some ⟨g, 0, none⟩) n ca) ((mkSS k xs).take (j + 1) ++ xs.drop (j + 1)) us) := by
    intro w' hg' ho'
    have := ho1.turn (x := mkTs (k + t) xs[j].length) (by rw [hlen]; exact hlt) eu hg' ho'
    rwa [← g2, mix_set _ _ j hA hj'] at this
   have HU := hQ hu
   have NB : Hid (u ∈ us) := List.mem_of_getElem? eu
   have TS := hQ ts
   obtain ⟨x, hx⟩ : ∃ x, x = xs[j] := ⟨_, rfl⟩
   rw [← hx] at tt TS HU TURN
   clear hx g1 g2 ts hu hk3 ha ho1 ho htj hs1 ex hlen hA H0
   go_wp2_with (go_at_call 24; refine (markT_any u x (k + t) base wr HU.out (by omega) (by omega) (by omega)).mono ?_; rintro e w2 ⟨rfl, ho2, hg2⟩)
   have T2 := hQ (TURN.out _ hg2 ho2)
   have B2 := hQ (hb.out.trans (OnlyU.of_grown hg2 NB.out))
   clear ho2 hg2 TURN HU NB hb
   go_roundw
   case rel => exact ⟨j + 1, t + x.length, by omega, by omega, by go_num, by go_num, TS.out.symm, T2.out, B2.out⟩
   case measure => simp [intOf]; omega
  ·have e : t = T := by rw [htj.out, HT.out, List.take_of_length_le (by have := HN.out; omega)]
   have e2 : (mkSS k xs).take j ++ xs.drop j = mkSS k xs := by
    rw [List.take_of_length_le (by rw [mkSS_len]; have := HN.out; omega), List.drop_of_length_le (by have := HN.out; omega), List.append_nil]
   have O2 : Hid (OwnSU wr base hi (.slice a n ca) (mkSS k xs) us) := by rw [← e2]; exact ho.out
   have E := hQ e
   clear e e2 ho H0 htj
   go_wp2
   go_ret
   exact ⟨by rw [← E.out]; rfl, O2.out, hb.out⟩
end Go.Proofs.YtofnchdijanikaaGreatDoor
namespace Go.Proofs.YtofnchdijanikaaGreatDoor
open Go.RowKit
theorem OwnSU.put {w w' : World} {base hi j : Nat} {v u' : Value} {xs : List (List (List UInt8))} {us : List Value} {x : List (List UInt8)} (h : OwnSU w base hi v xs us) (hj : j < xs.length)
  (hx : OwnT w base u' x) (hf : ∀ k, u'.ownBlock = some k → hi ≤ k) (hgr : w.grownBy w' v.ownBlock)
  (ho : w'.ownsRow base 23 1 v xs.length (us.set j u')) : OwnSU w' base w'.heap.size v (xs.set j x) (us.set j u') := by
 obtain ⟨h1, h2, h2', h3, h4⟩ := h
 have hs := hgr.size
 have hlt : ∀ k, u'.ownBlock = some k → k < w'.heap.size := fun k e => by have := (World.ownsRow.lt hx k e).2; omega
 have old : ∀ (i : Nat) (u : Value), us[i]? = some u → ∀ k, u.ownBlock = some k → k < hi := fun i u e => by
  have hi' : i < xs.length := by rw [← h1]; exact (List.getElem?_eq_some_iff.1 e).1
  obtain ⟨u2, e2, _, hk, _⟩ := h3 i hi'
  rw [e] at e2
  cases e2
  exact hk
 have apart' : ∀ (i : Nat) (u : Value), us[i]? = some u → (u.ownBlock = none ∨ u.ownBlock ≠ u'.ownBlock) ∧ (u'.ownBlock = none ∨ u'.ownBlock ≠ u.ownBlock) := fun i u e => by
  constructor
  ·cases hb : u.ownBlock with
   | none => exact .inl rfl
   | some k => exact .inr fun e2 => by have a := old i u e k hb; have b := hf k e2.symm; omega
  ·cases hb : u'.ownBlock with
   | none => exact .inl rfl
   | some k => exact .inr fun e2 => by have a := old i u e k e2.symm; have b := hf k hb; omega
 refine ⟨by simp [h1], by rw [List.length_set]; exact ho, fun k hk => (ho.lt k hk).2, fun i hi' => ?_, fun i i' u u2 hu hu2 hii => ?_⟩
 ·rw [List.length_set] at hi'
  by_cases hij : j = i
  ·subst hij
   refine ⟨u', by rw [List.getElem?_set_self (by omega)], ?_, hlt, ?_⟩
   ·rw [List.getElem_set_self]
    refine World.ownsRow.kept hx hgr ?_
    cases hb : u'.ownBlock with
    | none => exact .inl rfl
    | some k => exact .inr fun e2 => by have := h2' k e2.symm; have := hf k hb; omega
   ·cases hb : u'.ownBlock with
    | none => exact .inl rfl
    | some k => exact .inr fun e2 => by have := h2' k e2.symm; have := hf k hb; omega
  ·obtain ⟨u, e, hu, hk, ha⟩ := h3 i hi'
   refine ⟨u, by rw [List.getElem?_set_ne hij]; exact e, ?_, fun k h => by have a := old i u e k h; have b := h2'; have := (World.ownsRow.lt hu k h).2; omega, ha⟩
   rw [List.getElem_set_ne hij]
   exact World.ownsRow.kept hu hgr ha
 ·by_cases hij : j = i
  ·subst hij
   rw [List.getElem?_set_self (by rw [h1]; exact hj)] at hu
   cases hu
   rw [List.getElem?_set_ne hii] at hu2
   exact (apart' i' u2 hu2).2
  ·rw [List.getElem?_set_ne hij] at hu
   by_cases hij2 : j = i'
   ·subst hij2
    rw [List.getElem?_set_self (by rw [h1]; exact hj)] at hu2
    cases hu2
    exact (apart' i u hu).1
   ·rw [List.getElem?_set_ne hij2] at hu2
    exact h4 i i' u u2 hu hu2 hii
def padSS (xs : List (List (List UInt8))) (k : Nat) : List (List (List UInt8)) := xs.take k ++ List.replicate (xs.length - k) []
theorem padSS_len (xs : List (List (List UInt8))) (k : Nat) (h : k ≤ xs.length) : (padSS xs k).length = xs.length := by unfold padSS; simp; omega
theorem padSS_set (xs : List (List (List UInt8))) (k : Nat) (h : k < xs.length) : (padSS xs k).set k xs[k] = padSS xs (k + 1) := by
 unfold padSS
 rw [List.set_append_right _ _ (by simp; omega), List.length_take, show k - min k xs.length = 0 by omega, show xs.length - k = (xs.length - (k + 1)) + 1 by omega, List.replicate_succ, List.set_cons_zero, List.take_succ_eq_append_getElem h, List.append_assoc]
 rfl
theorem padSS_end (xs : List (List (List UInt8))) : padSS xs xs.length = xs := by unfold padSS; simp
set_option maxHeartbeats 8000000 in
theorem toSS_any (v : Value) (xs : List (List (List UInt8))) (w : World) (h : TxtSS w v xs) (hx : xs.length ≤ 1048576) (ht : totT xs ≤ 1048576) : Calls Tryz.prog 35 #[v] w fun e w' => ∃ z n c us, e = .returned (.slice z n c) ∧ OwnSU w' w.heap.size w'.heap.size (.slice z n c) xs us ∧ Below w.heap.size w w' := by
 obtain ⟨i0, hi, hz0, hz1, hz2⟩ := info_parts info_row
 obtain ⟨a, ca, rfl, hl, h3⟩ := ss_idx h
 obtain ⟨n, hn⟩ : ∃ n, n = xs.length := ⟨_, rfl⟩
 have HN := hQ hn
 rw [← hn] at hl hx h3 ⊢
 have H3 := hQ h3
 have HT := hQ ht
 clear h h3 hn ht
 go_enter Tryz.func35, Tryz.ntmps35
 go_wp2_with (at_make; refine wpList_make_full _ rfl _ _ 22 rfl w.heap.size 23 i0 (.slice none 0 0) 1 Tryz.underlying22 hi hz0 hz1 .i64 .i64 _ _ n rfl rfl rfl rfl (by rw [hz2]; omega) (by unfold maxLen; omega) nR ?_; intro w1 hown1 hgrow1)
 have hb1 : Below w.heap.size w w1 := below_of_grown hgrow1 nR
 obtain ⟨g, hg⟩ : ∃ g, g = w.heap.size := ⟨_, rfl⟩
 have O0 : Hid (∃ us, OwnSU w1 w.heap.size w1.heap.size (.slice (some ⟨g, 0, none⟩) n n) (padSS xs 0) us) := by
  have hp : padSS xs 0 = List.replicate n [] := by unfold padSS; rw [HN.out]; simp
  have hm : (madeCells (Value.cells (.slice none 0 0)) n).toList = List.replicate n (Value.slice none 0 0) := by
   apply List.ext_getElem?
   intro i
   by_cases hi : i < n
   ·simp [madeCells, Value.cells, hi, Nat.mod_one]
   ·simp [madeCells, Value.cells, hi]
  refine ⟨List.replicate n (.slice none 0 0), by rw [hp]; simp, ?_, fun k e => ?_, fun j hj => ?_, fun i j u u' e1 e2 _ => ?_⟩
  ·rw [hp, List.length_replicate, ← hm, hg]
   rw [Nat.mul_one] at hown1
   exact hown1
  ·have : g = k := by simpa [Value.ownBlock] using e
   rw [← this, hg]
   exact (hown1.lt _ rfl).2
  ·have hj' : j < n := by rw [hp] at hj; simpa using hj
   refine ⟨.slice none 0 0, by simp [hj'], ?_, fun k e => by simp [Value.ownBlock] at e, .inl rfl⟩
   have e0 : (padSS xs 0)[j] = [] := by simp [hp]
   rw [e0]
   exact OwnT.nil _ _
  ·have : u = .slice none 0 0 := by
    have := List.mem_of_getElem? e1
    exact (List.mem_replicate.1 this).2
   rw [this]
   exact .inl rfl
 have HB := hQ hb1
 have HGE := hQ hg
 clear hown1 hgrow1 hb1
 rw [← hg]
 clear hg
 go_loopw [4] (fun i wr => ∃ k : Nat, k ≤ n ∧ i = .int .i64 k ∧ Hid (∃ us, OwnSU wr w.heap.size wr.heap.size (.slice (some ⟨g, 0, none⟩) n n) (padSS xs k) us) ∧ Hid (Below w.heap.size w wr)) (fun i _ => n - (intOf i).toNat)
 case atStart => exact ⟨0, Nat.zero_le _, rfl, O0.out, HB.out⟩
 case round =>
  obtain ⟨k, hk, rfl, ho, hb⟩ := hrel
  by_cases hlt : k < n
  ·have hk' : k < xs.length := by rw [← HN.out]; exact hlt
   obtain ⟨b, off, u, rfl, l1, c1, i1⟩ := H3.out k hlt
   rw [getD_eq xs [] k hk'] at i1
   have d1 : wr.cell? ⟨b, off + k, none⟩ = some u := (hb.out.cell (p := ⟨b, off + k, none⟩) l1).trans c1
   have I1 := hQ (i1.below hb.out)
   have hxk : xs[k].length ≤ 1048576 := Nat.le_trans (totT_mem xs _ (List.getElem_mem hk')) HT.out
   have PS := padSS_set xs k hk'
   have PL := padSS_len xs k (by omega)
   obtain ⟨x, hx2⟩ : ∃ x, x = xs[k] := ⟨_, rfl⟩
   rw [← hx2] at I1 hxk PS
   have PS := hQ PS
   have PL := hQ PL
   clear hx2 c1 i1
   go_wp2_with (go_at_call 22; refine (toT_any u x wr I1.out hxk).mono ?_)
   rintro e w5 ⟨va, vn, vc, rfl, o5, b5⟩
   obtain ⟨us, hus⟩ := ho.out
   have h5 : OwnSU w5 w.heap.size wr.heap.size (.slice (some ⟨g, 0, none⟩) n n) (padSS xs k) us := hus.kept (fun j _ hj _ => b5.block j hj)
   have how := h5.2.1
   have hul : us.length = n := by rw [h5.1, PL.out, HN.out]
   rw [PL.out, ← HN.out] at how
   obtain ⟨u1, e1⟩ : ∃ u, w5.cell? ⟨g, k, none⟩ = some u := ⟨_, (how.cellAt k (by omega)).trans (List.getElem?_eq_getElem (by omega))⟩
   have z1 := how.frozenAt k
   have s1 := how.stored k (.slice va vn vc)
   have hws := hb.out.size
   have fin : Hid (∃ us, OwnSU (w5.setCell ⟨g, k, none⟩ (.slice va vn vc)) w.heap.size (w5.setCell ⟨g, k, none⟩ (.slice va vn vc)).heap.size (.slice (some ⟨g, 0, none⟩) n n) (padSS xs (k + 1)) us) := by
    refine ⟨_, PS.out ▸ h5.put (by rw [PL.out]; exact hk') (o5.mono hws) (fun j e => (World.ownsRow.lt o5 j e).1) s1.2 ?_⟩
    rw [PL.out, ← HN.out]
    exact s1.1
   have hgw : w.heap.size ≤ g := by rw [HGE.out]; exact nR
   have B5 := below_next hb.out b5 nR
   have bfin := B5.grown s1.2 (by have := B5.size; omega) (fun j hj => by cases hj; exact hgw)
   have BF := hQ bfin
   clear s1 how bfin hus h5 o5 b5 B5 ho hb hul
   go_wp2
   go_roundw
   case rel => exact ⟨k + 1, by omega, by go_num, fin.out, BF.out⟩
   case measure => simp [intOf]; omega
  ·obtain rfl : k = n := by omega
   have fin : Hid (∃ us, OwnSU wr w.heap.size wr.heap.size (.slice (some ⟨g, 0, none⟩) k k) xs us) := by
    obtain ⟨us, hus⟩ := ho.out
    rw [HN.out, padSS_end] at hus
    rw [HN.out]
    exact ⟨us, hus⟩
   go_wp2
   go_ret
   obtain ⟨us, hus⟩ := fin.out
   exact ⟨_, _, _, us, rfl, hus, hb.out⟩
def SzSS (xs : List (List (List UInt8))) (l r : Int) : Prop := r = -1 ∨ (0 ≤ r ∧ r + xs.length + totT xs ≤ l ∧ ∀ x ∈ xs, ∀ y ∈ x, (y.length : Int) ≤ l)
set_option maxHeartbeats 8000000 in
theorem szSS_any (v : Value) (xs : List (List (List UInt8))) (l : Int) (w : World) (h : TxtSS w v xs) (hx : ∀ x ∈ xs, ∀ y ∈ x, y.length ≤ 9223372036854775807) (h0 : 0 ≤ l) (h1 : l ≤ 1048576) : Calls Tryz.prog 28 #[v, .int .i64 l] w fun e w' => ∃ r, e = .returned (.int .i64 r) ∧ SzSS xs l r ∧ w = w' := by
 obtain ⟨a, ca, rfl, hl, h3⟩ := ss_idx h
 obtain ⟨n, hn⟩ : ∃ n, n = xs.length := ⟨_, rfl⟩
 rw [← hn] at hl h3 ⊢
 have H3 := hQ h3
 have HN := hQ hn
 have HX := hQ hx
 clear h h3 hn hx
 by_cases hneg : l - (n : Int) < 0
 ·go_enter Tryz.func28, Tryz.ntmps28
  go_wp2
  go_ret
  exact ⟨_, rfl, .inl rfl, rfl⟩
 ·go_enter Tryz.func28, Tryz.ntmps28
  go_wp2
  go_loopw [1, 5] (fun lf i wr => ∃ (k t : Nat) (r : Int), k ≤ n ∧ i = .int .i64 k ∧ lf = .int .i64 r ∧ 0 ≤ r ∧ Hid (r + t + n ≤ l) ∧ Hid (t = totT (xs.take k)) ∧ Hid (∀ x ∈ xs.take k, ∀ y ∈ x, (y.length : Int) ≤ l) ∧ w = wr) (fun _ i _ => n - (intOf i).toNat)
  case atStart => exact ⟨0, 0, _, Nat.zero_le _, rfl, rfl, by omega, by show _ ≤ _; simp, rfl, (fun x hx => by simp at hx), rfl⟩
  case round =>
   obtain ⟨k, t, r, hk, rfl, rfl, hr0, hrt, ht, hy, rfl⟩ := hrel
   by_cases hlt : k < n
   ·have hk' : k < xs.length := by rw [← HN.out]; exact hlt
    obtain ⟨b, off, u, rfl, l1, c1, i1⟩ := H3.out k hlt
    rw [getD_eq xs [] k hk'] at i1
    have ts := totT_succ xs k hk'
    rw [← ht.out] at ts
    have tk : xs.take (k + 1) = xs.take k ++ [xs[k]] := List.take_succ_eq_append_getElem hk'
    have hxk := HX.out xs[k] (List.getElem_mem hk')
    obtain ⟨x, hx2⟩ : ∃ x, x = xs[k] := ⟨_, rfl⟩
    rw [← hx2] at i1 ts tk hxk
    have TS := hQ ts
    have TK := hQ tk
    have hrl : r ≤ 1000000000 := by have := hrt.out; omega
    have SZ := hQ (szT_any u x r w i1 hxk hr0 hrl)
    clear hx2 i1 ts tk hxk
    go_wp2_with (go_at_call 21; refine (SZ.out).mono ?_)
    rintro e w1 ⟨q, rfl, hq, rfl⟩
    rcases hq with rfl | ⟨hq0, hq1, hq2⟩
    ·go_wp2
     go_ret
     exact ⟨_, rfl, .inl rfl, rfl⟩
    ·have hq3 : ¬ q < 0 := by omega
     have E1 : Hid (q + (t + x.length : Nat) + n ≤ l) := by show _ ≤ _; have := hrt.out; omega
     have E2 : Hid (∀ z ∈ xs.take (k + 1), ∀ y ∈ z, (y.length : Int) ≤ l) := by
      intro z hz y hyz
      rw [TK.out, List.mem_append, List.mem_singleton] at hz
      rcases hz with hz | rfl
      ·exact hy.out z hz y hyz
      ·have := hq2 y hyz; have := hrt.out; omega
     clear hq1 hq2
     go_wp2
     go_roundw
     case rel => exact ⟨k + 1, t + x.length, q, by omega, by go_num, rfl, hq0, E1.out, TS.out.symm, E2.out, trivial⟩
     case measure => simp [intOf]; omega
   ·obtain rfl : k = n := by omega
    have e1 : xs.take k = xs := by rw [HN.out, List.take_length]
    have E1 := hQ e1
    clear e1
    go_wp2
    go_ret
    refine ⟨r, rfl, .inr ⟨hr0, ?_, ?_⟩, rfl⟩
    ·have h7 := hrt.out; have h8 := ht.out; have h9 := HN.out; rw [E1.out] at h8; omega
    ·have := hy.out; rw [E1.out] at this; exact this
end Go.Proofs.YtofnchdijanikaaGreatDoor

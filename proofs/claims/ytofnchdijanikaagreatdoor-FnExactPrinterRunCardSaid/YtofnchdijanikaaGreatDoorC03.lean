/-
  PROVED HERE: what the printer's lines need, part C03. Conditions: each theorem's own.
-/
import Derived.Test.YtofnchdijanikaaGreatDoorProg
import Derived.Test.YtofnchdijanikaaGreatDoorC01
import Derived.Outline
import Derived.BigQuiet
import Derived.Deep.QuietTactic
import Derived.StillTailTactics
import Derived.OwnWalk
import Derived.WalkSpells
import Derived.WalkLawsBesides
import Derived.Lib.ItoaNum
import Derived.Lib.ItoaMem
import Derived.Lib.ItoaLen
import Derived.Laws.BytesArg
import Derived.Lib.AtoiAll
import Derived.Test.YtofnchdijanikaaGreatDoorC02
import Derived.Lib.Split
import Derived.Lib.IndexMore
import Derived.Lib.SplitLaws
import Derived.Lib.Join
import Derived.Lib.TrimByte
set_option linter.unusedVariables false
set_option linter.unusedSimpArgs false
set_option maxRecDepth 100000
namespace Go.Proofs.YtofnchdijanikaaGreatDoor
open Go.RowKit
theorem alive_any (w : World) : Calls Tryz.prog 20 #[] w (Ret (.bool true) w) := by
 go_enter Tryz.func20, Tryz.ntmps20
 go_wp2
 go_ret
 exact ⟨rfl, by repeat (first | exact Below.refl _ _ | apply Below.drew | (refine Below.alloc ?_ (by simp) _))⟩
def Rd (w : World) (B p : Nat) : Prop := ∃ (a : Option Addr) (n cap : Nat) (zs : List Int), w.heap[B]? = some (.cells #[.slice a n cap, .int .i64 p] 86 (0, 0)) ∧ n ≤ 2000 ∧
 ∀ j, j < n → ∃ b off, a = some ⟨b, off, none⟩ ∧ b < B ∧ w.cell? ⟨b, off + j, none⟩ = some (.int .u8 (zs.getD j 0)) ∧ 0 ≤ zs.getD j 0 ∧ zs.getD j 0 ≤ 255
theorem Rd.kept {w w' : World} {B p : Nat} {row : Option Nat} (h : Rd w B p) (hg : w.grownBy w' row) (hr : ∀ k, row = some k → w.heap.size ≤ k) : Rd w' B p := by
 obtain ⟨a, n, cap, zs, hb, hn, hc⟩ := h
 have hne : ∀ k, k < w.heap.size → some k ≠ row := fun k hk e => by have := hr k e.symm; omega
 have hB : B < w.heap.size := (Array.getElem?_eq_some_iff.1 hb).1
 refine ⟨a, n, cap, zs, by rw [hg.block B hB (hne B hB)]; exact hb, hn, fun j hj => ?_⟩
 obtain ⟨b, off, ha, hbB, hc', h0, h1⟩ := hc j hj
 have hlt := World.block_lt_of_cell? w _ hc'
 exact ⟨b, off, ha, hbB, hg.cell hc' (hne b hlt), h0, h1⟩
theorem Rd.past {w w' : World} {B p : Nat} {row : Option Nat} (h : Rd w B p) (hg : w.grownBy w' row) (hr : ∀ k, row = some k → B < k) : Rd w' B p := by
 obtain ⟨a, n, cap, zs, hb, hn, hc⟩ := h
 have hne : ∀ k, k ≤ B → some k ≠ row := fun k hk e => by have := hr k e.symm; omega
 have hB : B < w.heap.size := (Array.getElem?_eq_some_iff.1 hb).1
 refine ⟨a, n, cap, zs, by rw [hg.block B hB (hne B (Nat.le_refl _))]; exact hb, hn, fun j hj => ?_⟩
 obtain ⟨b, off, ha, hbB, hc', h0, h1⟩ := hc j hj
 exact ⟨b, off, ha, hbB, hg.cell hc' (hne b (by omega)), h0, h1⟩
def PickPost (n : Int) (w : World) (B p : Nat) (e : Ending) (w' : World) : Prop :=
 ∃ k : Int, 0 ≤ k ∧ k < n ∧ e = .returned (.int .i64 k) ∧ Rd w' B (p + 1) ∧ w.grownBy w' (some B) ∧ w'.heap.size = w.heap.size
theorem Rd.step {w : World} {B p : Nat} (h : Rd w B p) : Rd (w.setCell ⟨B, 1, none⟩ (.int .i64 ((p : Int) + 1))) B (p + 1) ∧ w.grownBy (w.setCell ⟨B, 1, none⟩ (.int .i64 ((p : Int) + 1))) (some B) := by
 obtain ⟨a, n, cap, zs, hb, hn, hc⟩ := h
 refine ⟨⟨a, n, cap, zs, ?_, hn, fun j hj => ?_⟩, ⟨rfl, rfl, rfl, by simp [World.setCell], fun k _ hne => Below.heap_setCell _ _ _ _ (fun e => hne (by rw [e]))⟩⟩
 ·simp only [World.setCell, Array.getElem?_modify, if_true, hb]
  simp
 ·obtain ⟨b, off, ha, hbB, hc', h0, h1⟩ := hc j hj
  refine ⟨b, off, ha, hbB, ?_, h0, h1⟩
  rw [World.cell?_setCell_other _ _ _ _ (fun e => Nat.ne_of_lt hbB (by have := congrArg Addr.block e; exact this.symm))]
  exact hc'
theorem Rd.drewN {w : World} {B p : Nat} (h : Rd w B p) (n : Nat) : Rd (w.drewN n) B p := h
set_option maxHeartbeats 1000000 in
theorem pick_any (B p : Nat) (n : Int) (w : World) (h : Rd w B p) (hp : p ≤ 1000000000) (hn : 1 ≤ n) (hn' : n ≤ 9223372036854775807) :
  Calls Tryz.prog 48 #[.pointer (some ⟨B, 0, none⟩), .int .i64 n] w (PickPost n w B p) := by
 have hst := h.step
 obtain ⟨hst1, hst2⟩ := hst
 have hsz : (w.setCell ⟨B, 1, none⟩ (.int .i64 ((p : Int) + 1))).heap.size = w.heap.size := by simp [World.setCell]
 obtain ⟨a, m, cap, zs, hb, hm, hc⟩ := h
 have c0 : w.cell? ⟨B, 0, none⟩ = some (.slice a m cap) := by rw [cell_of_row w B 0 _ _ _ hb]; rfl
 have c1 : w.cell? ⟨B, 1, none⟩ = some (.int .i64 p) := by rw [cell_of_row w B 1 _ _ _ hb]; rfl
 have f1 : w.frozen? ⟨B, 1, none⟩ = false := by simp [World.frozen?, hb]
 have d0 : (w.setCell ⟨B, 1, none⟩ (.int .i64 ((p : Int) + 1))).cell? ⟨B, 0, none⟩ = some (.slice a m cap) := by rw [World.cell?_setCell_other _ _ _ _ (by intro e; cases e)]; exact c0
 have d1 : (w.setCell ⟨B, 1, none⟩ (.int .i64 ((p : Int) + 1))).cell? ⟨B, 1, none⟩ = some (.int .i64 ((p : Int) + 1)) := World.cell?_setCell_same _ _ _ c1
 have hc2 : ∀ j, j < m → ∃ b off, a = some ⟨b, off, none⟩ ∧ (w.setCell ⟨B, 1, none⟩ (.int .i64 ((p : Int) + 1))).cell? ⟨b, off + j, none⟩ = some (.int .u8 (zs.getD j 0)) ∧ 0 ≤ zs.getD j 0 ∧ zs.getD j 0 ≤ 255 := by
  intro j hj
  obtain ⟨b, off, ha, hbB, hc', h0, h1⟩ := hc j hj
  exact ⟨b, off, ha, by rw [World.cell?_setCell_other _ _ _ _ (fun e => Nat.ne_of_lt hbB (by have := congrArg Addr.block e; exact this.symm))]; exact hc', h0, h1⟩
 have H1 := Lib.hid hst1
 have H2 := Lib.hid hst2
 have H3 := Lib.hid hsz
 have HC := Lib.hid hc2
 clear hst1 hst2 hsz hb hc hc2
 by_cases h0 : m = 0
 ·subst h0
  go_enter Tryz.func48, Tryz.ntmps48
  go_wp2
  go_ret
  exact ⟨0, by omega, by omega, rfl, H1.out, H2.out, H3.out⟩
 ·have hm0 : 0 < m := by omega
  have g0 : ((m : Int) == 0) = false := by simp; omega
  obtain ⟨b, off, rfl, _⟩ := HC.out 0 hm0
  have hcell : ∀ j, j < m → (w.setCell ⟨B, 1, none⟩ (.int .i64 ((p : Int) + 1))).cell? ⟨b, off + j, none⟩ = some (.int .u8 (zs.getD j 0)) ∧ 0 ≤ zs.getD j 0 ∧ zs.getD j 0 ≤ 255 := by
   intro j hj
   obtain ⟨b', off', e, h'⟩ := HC.out j hj
   obtain ⟨rfl, rfl⟩ : b = b' ∧ off = off' := by simpa using e
   exact h'
  clear HC
  by_cases hpm : p < m
  ·obtain ⟨u, hu⟩ : ∃ u, u = zs.getD p 0 := ⟨_, rfl⟩
   obtain ⟨e1, e2, e3⟩ := hcell p hpm
   rw [← hu] at e1 e2 e3
   clear hu hcell
   go_enter Tryz.func48, Tryz.ntmps48
   go_wp2
   go_ret
   exact ⟨u % n, Int.emod_nonneg _ (by omega), Int.emod_lt_of_pos _ (by omega), rfl, H1.out, H2.out, H3.out⟩
  ·have hq1 : p % m < m := Nat.mod_lt _ hm0
   have hq2 : (p * 7 + 3) % m < m := Nat.mod_lt _ hm0
   obtain ⟨u, hu⟩ : ∃ u, u = zs.getD (p % m) 0 := ⟨_, rfl⟩
   obtain ⟨e1, e2, e3⟩ := hcell _ hq1
   obtain ⟨v, hv⟩ : ∃ u, u = zs.getD ((p * 7 + 3) % m) 0 := ⟨_, rfl⟩
   obtain ⟨e4, e5, e6⟩ := hcell _ hq2
   rw [← hu] at e1 e2 e3
   rw [← hv] at e4 e5 e6
   clear hu hv hcell
   have x1 : 0 ≤ (p : Int) % (m : Int) := Int.emod_nonneg _ (by omega)
   have x2 : (p : Int) % (m : Int) < (m : Int) := Int.emod_lt_of_pos _ (by omega)
   have x3 : 0 ≤ ((p : Int) * 7 + 3) % (m : Int) := Int.emod_nonneg _ (by omega)
   have x4 : ((p : Int) * 7 + 3) % (m : Int) < (m : Int) := Int.emod_lt_of_pos _ (by omega)
   have x5 : 0 ≤ (p : Int) / (m : Int) := Int.ediv_nonneg (by omega) (by omega)
   have x6 : (p : Int) / (m : Int) ≤ (p : Int) := Int.ediv_le_self _ (by omega)
   go_enter Tryz.func48, Tryz.ntmps48
   go_wp2
   go_quiet (fail)
   go_wp2
   go_ret
   have hX : 0 ≤ u * 131 + v * 1117 + (p : Int) * 29 + (p : Int) / (m : Int) * 53 ∧ u * 131 + v * 1117 + (p : Int) * 29 + (p : Int) / (m : Int) * 53 ≤ 9223372036854775807 := by omega
   have hb := i64_xor_bd _ ((u * 131 + v * 1117 + (p : Int) * 29 + (p : Int) / (m : Int) * 53) / 64) hX.1 hX.2 (by omega) (by omega)
   exact ⟨_, Int.tmod_nonneg _ hb.1, Int.tmod_lt_of_pos _ (by omega), rfl, H1.out, grownBy_drewN H2.out _, H3.out⟩
end Go.Proofs.YtofnchdijanikaaGreatDoor
namespace Go.Proofs.YtofnchdijanikaaGreatDoor
open Go.RowKit
abbrev bs (l : List UInt8) : ByteArray := ⟨l.toArray⟩
theorem bs_append (a b : List UInt8) : bs a ++ bs b = bs (a ++ b) := by
 apply ByteArray.ext
 simp [bs]
theorem bs_extract (l : List UInt8) (a : Nat) : (bs l).extract a l.length = bs (l.drop a) := by
 apply ByteArray.ext
 simp [bs, ByteArray.data_extract]
 rw [List.take_of_length_le (by simp)]
def RetT (l : List UInt8) (w : World) (e : Ending) (w' : World) : Prop := e = .returned (.string (bs l)) ∧ Below w.heap.size w w'
def DrawTxt (w : World) (e : Ending) (w' : World) : Prop := ∃ l : List UInt8, l.length ≤ 16 ∧ e = .returned (.string (bs l)) ∧ Below w.heap.size w w'
end Go.Proofs.YtofnchdijanikaaGreatDoor
namespace Go.Proofs.YtofnchdijanikaaGreatDoor
open Go.RowKit
def preD (n : Nat) : List UInt8 := if n < 10 then [] else Lib.decDigits (n / 10)
theorem preD_last (n : Nat) : Lib.decDigits n = preD n ++ [UInt8.ofNat (48 + n % 10)] := by
 unfold preD
 rw [Lib.decDigits]
 split
 ·rename_i h
  rw [Nat.mod_eq_of_lt h]
  rfl
 ·rfl
theorem conv1 (w : World) (x : Int) : (convert 34 9 (.slice (some ⟨w.heap.size, 0, none⟩) 1 1)).run Tryz.prog (w.alloc (.cells #[.int .u8 x] 5)) = .ok (.string (bs [UInt8.ofNat x.toNat])) (w.alloc (.cells #[.int .u8 x] 5)) := by
 have h := run_convert_bytes_arg (P := Tryz.prog) (w.alloc (.cells #[.int .u8 x] 5)) 34 5 Tryz.underlying34 Tryz.underlying5 w.heap.size 0 1 1 [x] (by simp) (fun i hi => ?_) 9 Tryz.underlying9
 ·rw [h]
  rfl
 ·obtain rfl : i = 0 := by omega
  rw [World.cell?_alloc_at _ _ _ _ rfl]
  rfl
set_option maxHeartbeats 2000000 in
theorem specNum_any (N : Nat) (hN : N ≤ 1000000) (w : World) : Calls Tryz.prog 33 #[.int .i64 N] w (RetT (Lib.decDigits N) w) := by
 have cv := conv1 w (48 + (N : Int) % 10)
 have I0 : Hid (preD N ++ [UInt8.ofNat (48 + (N : Int) % 10).toNat] = Lib.decDigits N) := by
  show _ = _
  rw [preD_last N]
  congr 3
 have L0 : Hid ((Lib.decDigits N).length ≤ 30) := by
  have := Lib.itoa_length_le (N : Int) (by omega) (by omega)
  rw [Lib.itoa_nonneg] at this
  show _ ≤ _
  omega
 obtain ⟨T, hT⟩ : ∃ T, T = Lib.decDigits N := ⟨_, rfl⟩
 rw [← hT] at I0 L0 ⊢
 obtain ⟨y, hy⟩ : ∃ y, y = UInt8.ofNat (48 + (N : Int) % 10).toNat := ⟨_, rfl⟩
 rw [← hy] at cv I0
 clear hT hy
 have B0 := Lib.hid ((Below.refl w.heap.size w).alloc (Nat.le_refl _) (.cells #[.int .u8 (48 + (N : Int) % 10)] 5))
 go_enter Tryz.func33, Tryz.ntmps33
 go_wp2
 clear cv
 go_loopw [0, 3] (fun nn o wr => ∃ (n : Nat) (out : List UInt8), n ≤ 1000000 ∧ nn = .int .i64 n ∧ o = .string (bs out) ∧ Hid (preD n ++ out = T) ∧ Hid (Below w.heap.size w wr)) (fun nn _ _ => (intOf nn).toNat)
 case atStart => exact ⟨N, [y], hN, rfl, rfl, I0.out, B0.out⟩
 case round =>
  obtain ⟨n, out, hn, rfl, rfl, hpre, hb⟩ := hrel
  clear I0 B0
  by_cases h9 : 9 < n
  ·have hol : out.length ≤ 30 := by
    have := congrArg List.length hpre.out
    rw [List.length_append] at this
    have := L0.out
    omega
   have c1 : ¬ 9223372036854775807 < 1 + out.length := by omega
   have d1 : ((n : Int)).tdiv 10 = ((n / 10 : Nat) : Int) := by rw [Int.tdiv_eq_ediv_of_nonneg (by omega)]; omega
   obtain ⟨m, hm⟩ : ∃ m, m = n / 10 := ⟨_, rfl⟩
   rw [← hm] at d1
   have cv := conv1 wr (48 + (m : Int) % 10)
   have P2 : Hid (preD m ++ ([UInt8.ofNat (48 + (m : Int) % 10).toNat] ++ out) = T) := by
    have h := hpre.out
    unfold preD at h
    rw [if_neg (by omega), ← hm, preD_last m, List.append_assoc] at h
    show _ = _
    rw [← h]
    congr 4
   have hmn : m < n ∧ m ≤ 1000000 := by omega
   obtain ⟨m1, m2⟩ := hmn
   have BB := Lib.hid (hb.out.alloc hb.out.size (.cells #[.int .u8 (48 + (m : Int) % 10)] 5))
   obtain ⟨y, hy⟩ : ∃ y, y = UInt8.ofNat (48 + (m : Int) % 10).toNat := ⟨_, rfl⟩
   rw [← hy] at cv P2
   clear hm hpre hb hy
   go_wp2
   exact ⟨⟨m, [y] ++ out, m2, rfl, by rw [bs_append], P2.out, BB.out⟩, by simp [intOf]; omega⟩
  ·have e : out = T := by
    have h := hpre.out
    unfold preD at h
    rw [if_pos (by omega)] at h
    exact h
   have E := Lib.hid e
   clear e hpre
   go_wp2
   go_ret
   exact ⟨by rw [← E.out]; rfl, hb.out⟩
end Go.Proofs.YtofnchdijanikaaGreatDoor
namespace Go.Proofs.YtofnchdijanikaaGreatDoor
def digV (l : List UInt8) : Nat := l.foldl (fun n c => 10 * n + (c.toNat - 48)) 0
def isDig (c : UInt8) : Bool := decide (48 ≤ c.toNat) && decide (c.toNat ≤ 57)
theorem digV_snoc (l : List UInt8) (c : UInt8) : digV (l ++ [c]) = 10 * digV l + (c.toNat - 48) := by simp [digV, List.foldl_append]
theorem dig_nat (k : Nat) (h : k < 10) : (UInt8.ofNat (48 + k)).toNat = 48 + k := by
 rw [UInt8.toNat_ofNat']
 omega
theorem preD_big (u : Nat) (h : ¬ u < 10) : preD u = Lib.decDigits (u / 10) := by unfold preD; rw [if_neg h]
theorem preD_small (u : Nat) (h : u < 10) : preD u = [] := by unfold preD; rw [if_pos h]
theorem digV_dec : ∀ u, digV (Lib.decDigits u) = u := by
 intro u
 induction u using Nat.strongRecOn with
 | ind u ih =>
  rw [preD_last u, digV_snoc, dig_nat _ (Nat.mod_lt _ (by omega))]
  by_cases h : u < 10
  ·rw [preD_small u h]
   show 10 * 0 + _ = _
   omega
  ·rw [preD_big u h, ih (u / 10) (by omega)]
   omega
theorem dec_dig : ∀ u c, c ∈ Lib.decDigits u → 48 ≤ c.toNat ∧ c.toNat ≤ 57 := by
 intro u
 induction u using Nat.strongRecOn with
 | ind u ih =>
  intro c hc
  rw [preD_last u, List.mem_append] at hc
  rcases hc with hc | hc
  ·by_cases h : u < 10
   ·rw [preD_small u h] at hc; cases hc
   ·rw [preD_big u h] at hc; exact ih (u / 10) (by omega) c hc
  ·obtain rfl := List.mem_singleton.1 hc
   rw [dig_nat _ (Nat.mod_lt _ (by omega))]
   omega
theorem dec_len3 (u : Nat) (h : u ≤ 999) : 1 ≤ (Lib.decDigits u).length ∧ (Lib.decDigits u).length ≤ 3 := by
 by_cases h1 : u < 10
 ·rw [Lib.decDigits_one h1]; simp
 ·by_cases h2 : u < 100
  ·rw [Lib.decDigits_two h1 h2]; simp
  ·rw [preD_last u, preD_big u h1, List.length_append]
   by_cases h3 : u / 10 < 10
   ·rw [Lib.decDigits_one h3]; simp
   ·rw [Lib.decDigits_two h3 (by omega)]; simp
theorem dec_ne32 (u : Nat) (j : Nat) (hj : j < (Lib.decDigits u).length) : (Lib.decDigits u).getD j 0 ≠ 32 := by
 intro e
 have h := dec_dig u ((Lib.decDigits u).getD j 0) (by rw [List.getD, List.getElem?_eq_getElem hj]; exact List.getElem_mem hj)
 rw [e] at h
 exact absurd h.1 (by decide)
theorem parse_step (acc : Nat) (c : UInt8) (r : List UInt8) (h : 48 ≤ c.toNat ∧ c.toNat ≤ 57) (ha : acc ≤ 100000000) : Lib.parseUint10 acc (c :: r) = Lib.parseUint10 (acc * 10 + (c.toNat - 48)) r := by
 rw [Lib.parseUint10, if_pos h, if_neg (by omega), if_neg (by omega)]
theorem parse3 (l : List UInt8) (hd : ∀ c ∈ l, 48 ≤ c.toNat ∧ c.toNat ≤ 57) (h1 : 1 ≤ l.length) (h3 : l.length ≤ 3) : Lib.parseMag l = .ok (digV l) := by
 match l, h1, h3 with
 | [a], _, _ =>
  have ha := hd a (by simp)
  unfold Lib.parseMag
  rw [if_neg (by simp), parse_step _ _ _ ha (by omega), Lib.parseUint10]
  simp [digV]
 | [a, b], _, _ =>
  have ha := hd a (by simp)
  have hb := hd b (by simp)
  unfold Lib.parseMag
  rw [if_neg (by simp), parse_step _ _ _ ha (by omega), parse_step _ _ _ hb (by omega), Lib.parseUint10]
  simp [digV]
  omega
 | [a, b, c], _, _ =>
  have ha := hd a (by simp)
  have hb := hd b (by simp)
  have hc := hd c (by simp)
  unfold Lib.parseMag
  rw [if_neg (by simp), parse_step _ _ _ ha (by omega), parse_step _ _ _ hb (by omega), parse_step _ _ _ hc (by omega), Lib.parseUint10]
  simp [digV]
  omega
theorem atoi_dec (u : Nat) (h : u ≤ 999) : Lib.atoiAll (Lib.decDigits u) = .ok (u : Int) := by
 have hp := parse3 (Lib.decDigits u) (fun c hc => dec_dig u c hc) (dec_len3 u h).1 (dec_len3 u h).2
 rw [digV_dec] at hp
 have hd := dec_dig u
 have hl := (dec_len3 u h).1
 cases e : Lib.decDigits u with
 | nil => rw [e] at hl; simp at hl
 | cons c r =>
  rw [e] at hp hd
  have hc := hd c (by simp)
  have h45 : ¬ c.toNat = 45 := by omega
  have h43 : ¬ (c.toNat = 43 ∨ c.toNat = 45) := by omega
  unfold Lib.atoiAll
  simp only [if_neg h43, hp]
  rw [if_neg (by omega), if_neg (by omega), if_neg h45]
end Go.Proofs.YtofnchdijanikaaGreatDoor
namespace Go.Proofs.YtofnchdijanikaaGreatDoor
def wds : List UInt8 → List (List UInt8)
 | [] => [[]]
 | c :: t => if c = 32 then [] :: wds t else match wds t with | [] => [[c]] | h :: r => (c :: h) :: r
theorem wds_pos : ∀ l, wds l ≠ []
 | [] => by simp [wds]
 | c :: t => by
  rw [wds]
  split
  ·simp
  ·split <;> simp
def addL (ws : List (List UInt8)) (c : UInt8) : List (List UInt8) := ws.dropLast ++ [ws.getLast?.getD [] ++ [c]]
theorem addL_cons (x : List UInt8) (t : List (List UInt8)) (ht : t ≠ []) (c : UInt8) : addL (x :: t) c = x :: addL t c := by
 unfold addL
 rw [List.dropLast_cons_of_ne_nil ht, List.getLast?_cons_of_ne_nil ht]
 rfl
theorem addL_one (x : List UInt8) (c : UInt8) : addL [x] c = [x ++ [c]] := rfl
theorem wds_snoc : ∀ (l : List UInt8) (c : UInt8), wds (l ++ [c]) = if c = 32 then wds l ++ [[]] else addL (wds l) c
 | [], c => by
  rw [List.nil_append, wds, wds]
  split
  ·rfl
  ·rfl
 | d :: t, c => by
  have ih := wds_snoc t c
  have hp := wds_pos t
  have hp2 := wds_pos (t ++ [c])
  rw [List.cons_append, wds, wds]
  by_cases hd : d = 32
  ·rw [if_pos hd, if_pos hd, ih]
   by_cases hc : c = 32
   ·rw [if_pos hc, if_pos hc]
    rfl
   ·rw [if_neg hc, if_neg hc, addL_cons _ _ hp]
  ·rw [if_neg hd, if_neg hd, ih]
   cases hw : wds t with
   | nil => exact absurd hw hp
   | cons h r =>
    by_cases hc : c = 32
    ·rw [if_pos hc, if_pos hc]
     rfl
    ·rw [if_neg hc, if_neg hc]
     cases r with
     | nil => rfl
     | cons a b =>
      show _ = addL ((d :: h) :: a :: b) c
      rw [addL_cons h _ (by simp), addL_cons (d :: h) _ (by simp)]
theorem wds_len : ∀ l, (wds l).length ≤ l.length + 1 ∧ 1 ≤ (wds l).length
 | [] => by simp [wds]
 | c :: t => by
  have ih := wds_len t
  rw [wds]
  split
  ·simp only [List.length_cons]; omega
  ·split
   ·simp
   ·rename_i h r hw
    rw [hw] at ih
    simp only [List.length_cons] at ih ⊢
    omega
theorem wds_mem : ∀ l, ∀ w ∈ wds l, w.length ≤ l.length
 | [], w, h => by
  rw [wds, List.mem_singleton] at h
  rw [h]
  exact Nat.le_refl _
 | c :: t, w, h => by
  rw [wds] at h
  split at h
  ·rw [List.mem_cons] at h
   rcases h with rfl | h
   ·exact Nat.zero_le _
   ·have := wds_mem t w h; simp only [List.length_cons]; omega
  ·split at h
   ·rename_i hw
    exact absurd hw (wds_pos t)
   ·rename_i a r hw
    rw [List.mem_cons] at h
    rcases h with rfl | h
    ·have := wds_mem t a (by rw [hw]; simp); simp only [List.length_cons]; omega
    ·have := wds_mem t w (by rw [hw]; simp [h]); simp only [List.length_cons]; omega
theorem wds_none : ∀ s : List UInt8, (32 : UInt8) ∉ s → wds s = [s]
 | [], _ => rfl
 | c :: t, h => by
  rw [List.mem_cons, not_or] at h
  rw [wds, if_neg (fun e => h.1 e.symm), wds_none t h.2]
theorem wds_cons : ∀ (w r : List UInt8), (32 : UInt8) ∉ w → wds (w ++ 32 :: r) = w :: wds r
 | [], r, _ => by rw [List.nil_append, wds, if_pos rfl]
 | c :: t, r, h => by
  rw [List.mem_cons, not_or] at h
  rw [List.cons_append, wds, if_neg (fun e => h.1 e.symm), wds_cons t r h.2]
theorem idx_none (c : UInt8) : ∀ s : List UInt8, c ∉ s → Lib.index s [c] = -1
 | [], _ => rfl
 | b :: l, h => by
  simp only [List.mem_cons, not_or] at h
  unfold Lib.index
  have e : [c].isPrefixOf (b :: l) = false := by simp [List.isPrefixOf, h.1]
  rw [if_neg (by rw [e]; decide), if_pos (by rw [idx_none c l h.2]; decide)]
theorem idx_hit (c : UInt8) : ∀ (w r : List UInt8), c ∉ w → Lib.index (w ++ c :: r) [c] = (w.length : Nat)
 | [], r, _ => by
  rw [List.nil_append, Lib.index, if_pos (by simp [List.isPrefixOf])]
  rfl
 | b :: w, r, h => by
  simp only [List.mem_cons, not_or] at h
  rw [List.cons_append]
  unfold Lib.index
  have e : [c].isPrefixOf (b :: (w ++ c :: r)) = false := by simp [List.isPrefixOf, h.1]
  have ih := idx_hit c w r h.2
  rw [if_neg (by rw [e]; decide), if_neg (by rw [ih]; simp), ih]
  simp
def spl32 (s : List UInt8) : List (List UInt8) := Lib.splitK [32] 0 (Lib.count s [32]) s
theorem spl32_none {s : List UInt8} (h : (32 : UInt8) ∉ s) : spl32 s = [s] := by
 unfold spl32
 rw [Lib.count_miss (idx_none 32 s h)]
 rfl
theorem spl32_cons {w r : List UInt8} (h : (32 : UInt8) ∉ w) : spl32 (w ++ 32 :: r) = w :: spl32 r := by
 have hi := idx_hit 32 w r h
 have hd : (w ++ 32 :: r).drop (w.length + 1) = r := by
  rw [show w ++ 32 :: r = (w ++ [32]) ++ r by simp, List.drop_append_of_le_length (by simp), List.drop_of_length_le (by simp), List.nil_append]
 have ht : (w ++ 32 :: r).take (w.length + 0) = w := by rw [Nat.add_zero, List.take_append_of_le_length (Nat.le_refl _), List.take_length]
 unfold spl32
 rw [Lib.count_hit (by simp) hi, List.length_singleton, hd, Nat.add_comm, Lib.splitK, if_neg (by rw [hi]; simp), hi, Int.toNat_natCast, ht, List.length_singleton, hd]
theorem spl32_wds : ∀ (n : Nat) (s : List UInt8), s.length ≤ n → spl32 s = wds s := by
 intro n
 induction n with
 | zero =>
  intro s hs
  obtain rfl : s = [] := List.eq_nil_of_length_eq_zero (by omega)
  rw [spl32_none (by simp)]
  rfl
 | succ n ih =>
  intro s hs
  by_cases h : (32 : UInt8) ∈ s
  ·obtain ⟨w, r, rfl, hw⟩ := List.eq_append_cons_of_mem h
   rw [spl32_cons hw, wds_cons w r hw, ih r (by simp at hs; omega)]
  ·rw [spl32_none h, wds_none s h]
def numV (s : List UInt8) : Option Nat := if s.length ≤ 6 ∧ Lib.decDigits (digV s) = s then some (digV s) else none
theorem numV_some {s : List UInt8} {u : Nat} (h : numV s = some u) : s = Lib.decDigits u ∧ s.length ≤ 6 := by
 unfold numV at h
 split at h
 ·rename_i hc
  cases h
  exact ⟨hc.2.symm, hc.1⟩
 ·cases h
theorem numV_dec {u : Nat} (h : (Lib.decDigits u).length ≤ 6) : numV (Lib.decDigits u) = some u := by
 unfold numV
 rw [digV_dec, if_pos ⟨h, rfl⟩]
theorem parse_all : ∀ (l : List UInt8) (acc k : Nat), (∀ c ∈ l, 48 ≤ c.toNat ∧ c.toNat ≤ 57) → acc < 10 ^ k → l.length + k ≤ 8 → Lib.parseUint10 acc l = .ok (l.foldl (fun n c => 10 * n + (c.toNat - 48)) acc)
 | [], acc, k, _, _, _ => by rw [Lib.parseUint10]; rfl
 | c :: r, acc, k, hd, ha, hl => by
  have hc := hd c (by simp)
  simp only [List.length_cons] at hl
  have hp : (10 : Nat) ^ k ≤ 10 ^ 8 := Nat.pow_le_pow_right (by omega) (by omega)
  rw [parse_step acc c r hc (by omega), List.foldl_cons]
  have e : acc * 10 + (c.toNat - 48) = 10 * acc + (c.toNat - 48) := by omega
  rw [e]
  exact parse_all r _ (k + 1) (fun x hx => hd x (List.mem_cons_of_mem _ hx)) (by rw [Nat.pow_succ]; omega) (by omega)
theorem dec_pos (u : Nat) : 1 ≤ (Lib.decDigits u).length := by
 rw [Lib.decDigits]
 split <;> simp
theorem atoi_dec6 (u : Nat) (h : (Lib.decDigits u).length ≤ 6) : Lib.atoiAll (Lib.decDigits u) = .ok (u : Int) := by
 have hl := dec_pos u
 have hp : Lib.parseMag (Lib.decDigits u) = .ok (digV (Lib.decDigits u)) := by
  unfold Lib.parseMag
  have := parse_all (Lib.decDigits u) 0 0 (fun c hc => dec_dig u c hc) (by decide) (by omega)
  rw [this]
  cases e : Lib.decDigits u with
  | nil => rw [e] at hl; simp at hl
  | cons c r => rfl
 have hb : u < 9223372036854775808 := by
  have h1 := digV_dec u
  have key : ∀ (l : List UInt8) (acc : Nat), (∀ c ∈ l, 48 ≤ c.toNat ∧ c.toNat ≤ 57) → l.foldl (fun n c => 10 * n + (c.toNat - 48)) acc < (acc + 1) * 10 ^ l.length := by
   intro l
   induction l with
   | nil => intro acc _; simp
   | cons c r ih =>
    intro acc hd
    have hc := hd c (by simp)
    have := ih (10 * acc + (c.toNat - 48)) (fun x hx => hd x (List.mem_cons_of_mem _ hx))
    rw [List.foldl_cons, List.length_cons, Nat.pow_succ]
    refine Nat.lt_of_lt_of_le this ?_
    have e : (acc + 1) * (10 ^ r.length * 10) = (10 * acc + 10) * 10 ^ r.length := by
     rw [show 10 * acc + 10 = (acc + 1) * 10 by omega, Nat.mul_assoc, Nat.mul_comm (10 ^ r.length) 10]
    rw [e]
    exact Nat.mul_le_mul_right _ (by omega)
  have h2 := key (Lib.decDigits u) 0 (fun c hc => dec_dig u c hc)
  have h3 : (10 : Nat) ^ (Lib.decDigits u).length ≤ 10 ^ 6 := Nat.pow_le_pow_right (by omega) h
  unfold digV at h1
  omega
 rw [digV_dec] at hp
 have hd := dec_dig u
 cases e : Lib.decDigits u with
 | nil => rw [e] at hl; simp at hl
 | cons c r =>
  rw [e] at hp hd
  have hc := hd c (by simp)
  have h45 : ¬ c.toNat = 45 := by omega
  have h43 : ¬ (c.toNat = 43 ∨ c.toNat = 45) := by omega
  unfold Lib.atoiAll
  simp only [if_neg h43, hp]
  rw [if_neg (by omega), if_neg (by omega), if_neg h45]
theorem numV_atoi (s : List UInt8) : (∃ u, numV s = some u ∧ Lib.atoiAll s = .ok (u : Int) ∧ s.length ≤ 6 ∧ Lib.itoa (u : Int) = s) ∨
  (numV s = none ∧ ∀ v : Int, Lib.atoiAll s = .ok v → 0 ≤ v → s.length ≤ 6 → Lib.itoa v ≠ s) := by
 cases h : numV s with
 | some u =>
  obtain ⟨rfl, h6⟩ := numV_some h
  exact .inl ⟨u, rfl, atoi_dec6 u h6, h6, Lib.itoa_nonneg u⟩
 | none =>
  refine .inr ⟨rfl, fun v hv h0 h6 e => ?_⟩
  obtain ⟨u, rfl⟩ := Int.eq_ofNat_of_zero_le h0
  rw [Lib.itoa_nonneg] at e
  subst e
  rw [numV_dec h6] at h
  cases h
def tPages : List UInt8 := [112, 97, 103, 101, 115]
def tText : List UInt8 := [116, 101, 120, 116]
def tHyphen : List UInt8 := [104, 121, 112, 104, 101, 110]
def tWidth : List UInt8 := [119, 105, 100, 116, 104]
def tMost : List UInt8 := [109, 111, 115, 116]
def tLines : List UInt8 := [108, 105, 110, 101, 115]
def tPage : List UInt8 := [112, 97, 103, 101]
def tNo : List UInt8 := [110, 111]
def tOk : List UInt8 := [111, 107]
def tWhat : List UInt8 := [119, 104, 97, 116]
def slash (l : List (List UInt8)) : List UInt8 := Lib.join l [47]
def tried (b x : DBook) : DBook × List UInt8 := if bookB x = true then (x, tOk) else (b, tNo)
def ansPages (b : DBook) : List UInt8 := match bookP b with | none => tNo | some p => Lib.decDigits p.length
def ansPage (b : DBook) (n : Nat) : List UInt8 := match bookP b with | none => tNo | some p => if 1 ≤ n ∧ n ≤ p.length then slash (p.getD (n - 1) []) else tNo
def prNum (b : DBook) (w0 : List UInt8) (n : Nat) : DBook × List UInt8 :=
 if w0 = tWidth then tried b { b with w := n }
 else if w0 = tMost then tried b { b with most := n }
 else if w0 = tLines then tried b { b with lines := n }
 else (b, ansPage b n)
def isNumW (w0 : List UInt8) : Bool := (w0 == tWidth) || ((w0 == tMost) || ((w0 == tLines) || (w0 == tPage)))
def prLine (b : DBook) (line : List UInt8) : DBook × List UInt8 :=
 if line = tPages then (b, ansPages b)
 else if (wds line).getD 0 [] = tText ∧ 1 < (wds line).length then tried b { b with pars := b.pars ++ [(wds line).drop 1] }
 else if (wds line).getD 0 [] = tHyphen ∧ (wds line).length = 2 then tried b { b with pats := b.pats ++ [(wds line).getD 1 []] }
 else if (wds line).length = 2 ∧ isNumW ((wds line).getD 0 []) = true then
  match numV ((wds line).getD 1 []) with
  | none => (b, tWhat)
  | some n => prNum b ((wds line).getD 0 []) n
 else (b, tWhat)
theorem tried_ok {b x : DBook} (hb : bookB b = true) : bookB (tried b x).1 = true := by
 unfold tried
 cases h : bookB x
 ·exact hb
 ·exact h
theorem prLine_ok {b : DBook} (hb : bookB b = true) (line : List UInt8) : bookB (prLine b line).1 = true := by
 unfold prLine
 split
 ·exact hb
 ·split
  ·exact tried_ok hb
  ·split
   ·exact tried_ok hb
   ·split
    ·split
     ·exact hb
     ·unfold prNum
      split
      ·exact tried_ok hb
      ·split
       ·exact tried_ok hb
       ·split
        ·exact tried_ok hb
        ·exact hb
    ·exact hb
def prRun : DBook → List (List UInt8) → DBook × List (List UInt8)
 | b, [] => (b, [])
 | b, l :: t => ((prRun (prLine b l).1 t).1, (prLine b l).2 :: (prRun (prLine b l).1 t).2)
theorem prRun_app : ∀ (xs ys : List (List UInt8)) (b : DBook), prRun b (xs ++ ys) = ((prRun (prRun b xs).1 ys).1, (prRun b xs).2 ++ (prRun (prRun b xs).1 ys).2)
 | [], ys, b => rfl
 | l :: t, ys, b => by
  rw [List.cons_append, prRun, prRun_app t ys]
  rfl
theorem prRun_len : ∀ (xs : List (List UInt8)) (b : DBook), (prRun b xs).2.length = xs.length
 | [], b => rfl
 | l :: t, b => by rw [prRun, List.length_cons, prRun_len t, List.length_cons]
theorem prRun_ok : ∀ (xs : List (List UInt8)) (b : DBook), bookB b = true → bookB (prRun b xs).1 = true
 | [], b, h => h
 | l :: t, b, h => by rw [prRun]; exact prRun_ok t _ (prLine_ok h l)
end Go.Proofs.YtofnchdijanikaaGreatDoor
namespace Go.Proofs.YtofnchdijanikaaGreatDoor
open Go.RowKit
theorem getD_lt (l : List UInt8) (k : Nat) (h : k < l.length) : l[k]? = some (l.getD k 0) := by simp [List.getD, h]
theorem idx_byte (l : List UInt8) (k : Nat) (hk : k < l.length) (i : Int) (hi : i = (k : Int)) (w : World) : (Instr.index 9 (.string (bs l)) (.int .i64 i)).run Tryz.prog w = .ok (.int .u8 ((l.getD k 0).toNat : Int)) w := by
 subst hi
 have hs : (bs l).size = l.length := by simp [ByteArray.size]
 rw [run_index_string w 9 (bs l) .i64 _ Tryz.underlying9, dif_pos ⟨by omega, by rw [hs]; omega⟩]
 have a := Lib.getElem_mk l k (by rw [hs]; exact hk)
 have b := getD_lt l k hk
 rw [a] at b
 have b := Option.some.inj b
 congr 3
 rw [← b]
 rfl
end Go.Proofs.YtofnchdijanikaaGreatDoor
namespace Go.Proofs.YtofnchdijanikaaGreatDoor
open Go.RowKit
theorem wordB_bad {l : List UInt8} {k : Nat} (hk : k < l.length) (h : smB (l.getD k 0) = false) : wordB l = false := by
 unfold wordB
 cases ha : l.all smB
 ·rfl
 ·have := (all_getD l smB).1 ha k hk
  rw [h] at this
  cases this
theorem wordB_all {l : List UInt8} (h : ∀ k, k < l.length → smB (l.getD k 0) = true) : wordB l = inB l.length 1 20 := by
 unfold wordB
 rw [(all_getD l smB).2 h, Bool.true_and]
theorem bs_len (l : List UInt8) : (bs l).size = l.length := by simp [ByteArray.size]
theorem u8_lt (c : UInt8) : c.toNat < 256 := c.toBitVec.isLt
theorem small_any (c : UInt8) (w : World) : Calls Tryz.prog 95 #[.int .u8 (c.toNat : Int)] w fun e w' => e = .returned (.bool (smB c)) ∧ w = w' := by
 obtain ⟨n, hn⟩ : ∃ n, n = c.toNat := ⟨_, rfl⟩
 have E : Hid (smB c = (decide (97 ≤ n) && decide (n ≤ 122))) := by show _ = _; unfold smB; rw [hn]
 rw [← hn]
 by_cases h1 : 97 ≤ n
 ·by_cases h2 : n ≤ 122
  ·have h1' : (97 : Int) ≤ (n : Int) := by omega
   have h2' : (n : Int) ≤ 122 := by omega
   clear hn
   go_enter Tryz.func95, Tryz.ntmps95
   go_wp2
   go_ret
   exact ⟨by rw [E.out, decide_eq_true h1, decide_eq_true h2]; rfl, rfl⟩
  ·have h1' : (97 : Int) ≤ (n : Int) := by omega
   have h2' : ¬ (n : Int) ≤ 122 := by omega
   clear hn
   go_enter Tryz.func95, Tryz.ntmps95
   go_wp2
   go_ret
   exact ⟨by rw [E.out, decide_eq_true h1, decide_eq_false h2]; rfl, rfl⟩
 ·have h1' : ¬ (97 : Int) ≤ (n : Int) := by omega
  clear hn
  go_enter Tryz.func95, Tryz.ntmps95
  go_wp2
  go_ret
  exact ⟨by rw [E.out, decide_eq_false h1]; rfl, rfl⟩
theorem digit_any (c : UInt8) (w : World) : Calls Tryz.prog 96 #[.int .u8 (c.toNat : Int)] w fun e w' => e = .returned (.bool (dgB c)) ∧ w = w' := by
 obtain ⟨n, hn⟩ : ∃ n, n = c.toNat := ⟨_, rfl⟩
 have E : Hid (dgB c = (decide (48 ≤ n) && decide (n ≤ 57))) := by show _ = _; unfold dgB; rw [hn]
 rw [← hn]
 by_cases h1 : 48 ≤ n
 ·by_cases h2 : n ≤ 57
  ·have h1' : (48 : Int) ≤ (n : Int) := by omega
   have h2' : (n : Int) ≤ 57 := by omega
   clear hn
   go_enter Tryz.func96, Tryz.ntmps96
   go_wp2
   go_ret
   exact ⟨by rw [E.out, decide_eq_true h1, decide_eq_true h2]; rfl, rfl⟩
  ·have h1' : (48 : Int) ≤ (n : Int) := by omega
   have h2' : ¬ (n : Int) ≤ 57 := by omega
   clear hn
   go_enter Tryz.func96, Tryz.ntmps96
   go_wp2
   go_ret
   exact ⟨by rw [E.out, decide_eq_true h1, decide_eq_false h2]; rfl, rfl⟩
 ·have h1' : ¬ (48 : Int) ≤ (n : Int) := by omega
  clear hn
  go_enter Tryz.func96, Tryz.ntmps96
  go_wp2
  go_ret
  exact ⟨by rw [E.out, decide_eq_false h1]; rfl, rfl⟩
set_option maxHeartbeats 2000000 in
theorem implWord_any (l : List UInt8) (hl : l.length ≤ 4000000) (w : World) : Calls Tryz.prog 77 #[.string (bs l)] w fun e w' => e = .returned (.bool (wordB l)) ∧ w = w' := by
 obtain ⟨n, hn⟩ : ∃ n, n = l.length := ⟨_, rfl⟩
 have hs : (bs l).size = n := by rw [hn, bs_len]
 have hs2 : l.length = n := hn.symm
 have IX := Lib.hid (fun k (hk : k < n) => idx_byte l k (by rw [← hn]; exact hk))
 have HN := Lib.hid hn
 rw [← hn] at hl
 clear hn
 go_enter Tryz.func77, Tryz.ntmps77
 go_wp2
 go_loop [6] (fun i => ∃ k : Nat, k ≤ n ∧ i = .int .i64 k ∧ Hid (∀ j, j < k → smB (l.getD j 0) = true)) (fun i => n - (intOf i).toNat)
 case atStart => exact ⟨0, Nat.zero_le _, rfl, fun j h => absurd h (Nat.not_lt_zero _)⟩
 case round =>
  obtain ⟨k, hk, rfl, hall⟩ := hrel
  by_cases hlt : k < n
  ·have ix := IX.out k hlt (k : Int) rfl
   obtain ⟨c, hc⟩ : ∃ c, c = l.getD k 0 := ⟨_, rfl⟩
   rw [← hc] at ix
   cases hp : smB c
   ·have e : wordB l = false := wordB_bad (k := k) (by omega) (by rw [← hc]; exact hp)
    have E := Lib.hid e
    have HP := Lib.hid hp
    clear e hp hc hall
    go_wp2_with (go_at_call 95; refine (small_any _ _).mono ?_; rintro e w' ⟨rfl, rfl⟩; rw [HP.out])
    go_ret
    exact ⟨by rw [E.out]; rfl, rfl⟩
   ·have ALL : Hid (∀ j, j < k + 1 → smB (l.getD j 0) = true) := by
     intro j hj
     by_cases hjk : j < k
     ·exact hall.out j hjk
     ·obtain rfl : j = k := by omega
      rw [← hc]; exact hp
    have HP := Lib.hid hp
    clear hp hc hall
    go_wp2_with (go_at_call 95; refine (small_any _ _).mono ?_; rintro e w' ⟨rfl, rfl⟩; rw [HP.out])
    exact ⟨⟨k + 1, by omega, by go_num, ALL.out⟩, by simp [intOf]; omega⟩
  ·obtain rfl : k = n := by omega
   have e : wordB l = inB k 1 20 := by rw [wordB_all (fun j hj => hall.out j (by omega)), hs2]
   have E := Lib.hid e
   clear e hall
   go_wp2_with (go_at_call 57; refine (in_any _ _ _ _).mono ?_; rintro e w' ⟨rfl, rfl⟩)
   go_ret
   exact ⟨by rw [E.out]; rfl, rfl⟩
set_option maxHeartbeats 2000000 in
theorem specWord_any (l : List UInt8) (hl : l.length ≤ 4000000) (w : World) : Calls Tryz.prog 75 #[.string (bs l)] w fun e w' => e = .returned (.bool (wordB l)) ∧ w = w' := by
 obtain ⟨n, hn⟩ : ∃ n, n = l.length := ⟨_, rfl⟩
 have hs : (bs l).size = n := by rw [hn, bs_len]
 have hs2 : l.length = n := hn.symm
 have IX := Lib.hid (fun k (hk : k < n) => idx_byte l k (by rw [← hn]; exact hk))
 have HN := Lib.hid hn
 rw [← hn] at hl
 clear hn
 go_enter Tryz.func75, Tryz.ntmps75
 go_wp2
 go_loop [3] (fun i => ∃ k : Nat, k ≤ n ∧ i = .int .i64 k ∧ Hid (∀ j, j < k → smB (l.getD j 0) = true)) (fun i => n - (intOf i).toNat)
 case atStart => exact ⟨0, Nat.zero_le _, rfl, fun j h => absurd h (Nat.not_lt_zero _)⟩
 case round =>
  obtain ⟨k, hk, rfl, hall⟩ := hrel
  by_cases hlt : k < n
  ·have ix := IX.out k hlt (k : Int) rfl
   obtain ⟨c, hc⟩ : ∃ c, c = (l.getD k 0).toNat := ⟨_, rfl⟩
   rw [← hc] at ix
   have hsm : Hid (smB (l.getD k 0) = (decide (97 ≤ c) && decide (c ≤ 122))) := by show _ = _; unfold smB; rw [hc]
   clear hc
   by_cases h1 : 97 ≤ c
   ·have h1' : ¬ (c : Int) < 97 := by omega
    by_cases h2 : c ≤ 122
    ·have h2' : ¬ 122 < (c : Int) := by omega
     have ALL : Hid (∀ j, j < k + 1 → smB (l.getD j 0) = true) := by
      intro j hj
      by_cases hjk : j < k
      ·exact hall.out j hjk
      ·obtain rfl : j = k := by omega
       rw [hsm.out, decide_eq_true h1, decide_eq_true h2]; rfl
     clear hsm hall
     go_wp2
     exact ⟨⟨k + 1, by omega, by go_num, ALL.out⟩, by simp [intOf]; omega⟩
    ·have h2' : 122 < (c : Int) := by omega
     have E : Hid (wordB l = false) := wordB_bad (k := k) (by omega) (by rw [hsm.out, decide_eq_false h2, Bool.and_false])
     clear hsm hall
     go_wp2
     go_ret
     exact ⟨by rw [E.out]; rfl, rfl⟩
   ·have h1' : (c : Int) < 97 := by omega
    have E : Hid (wordB l = false) := wordB_bad (k := k) (by omega) (by rw [hsm.out, decide_eq_false h1, Bool.false_and])
    clear hsm hall
    go_wp2
    go_ret
    exact ⟨by rw [E.out]; rfl, rfl⟩
  ·obtain rfl : k = n := by omega
   have e : wordB l = inB k 1 20 := by rw [wordB_all (fun j hj => hall.out j (by omega)), hs2]
   have E := Lib.hid e
   clear e hall
   go_wp2_with (go_at_call 34; refine (l1In_any _ _ _ _).mono ?_; rintro e w' ⟨rfl, rfl⟩)
   go_ret
   exact ⟨by rw [E.out]; rfl, rfl⟩
end Go.Proofs.YtofnchdijanikaaGreatDoor

/-
  PROVED HERE: what drawing the ends of parts of lines hands back. Conditions: each theorem's own.
-/
import Derived.Test.YtaolkplecdbadaaDr
import Derived.Test.YtaolkplecdbadaaMine
import Derived.Test.YtaolkplecdbadaaLonely2
namespace Go.Proofs.Ytaolkplecdbadaa
open Go.RowKit

theorem info_int : (Try.prog.info? 3).map (fun i => (i.zero, i.size, i.bytes)) = some (some (.int .i64 0), 1, 8) := by kernel_rfl
theorem own_some {w : World} {base : Nat} {E : TypeId} {sz n : Nat} {v : Value} {xs : List Value} (h : w.ownsRow base E sz v n xs) (hv : v ≠ .slice none 0 0) : ∃ g cap, v = .slice (some ⟨g, 0, none⟩) n cap ∧ base ≤ g ∧ g < w.heap.size ∧ n ≤ cap ∧ cap ≤ maxLen := by
  rcases h.2 with ⟨e, _⟩ | ⟨g, cap, _, rfl, hb, _, h1, h2, _⟩
  · exact absurd e hv
  · exact ⟨g, cap, rfl, hb, (h.lt g rfl).2, h1, h2⟩
theorem own_ints_news {w w' : World} {base : Nat} {E : TypeId} {g n cap : Nat} {xs : List Int} (h : w.ownsRow base E 1 (.slice (some ⟨g, 0, none⟩) n cap) n (xs.map (Value.int .i64))) (o : Obj) (e : w' = w.alloc o) : ∀ j z, (xs.map (Value.int .i64))[j]? = some z → w'.cell? ((⟨g, 0, none⟩ : Addr).add j) = some z := by
  intro j z hz
  subst e
  have hj : j < n * 1 := by rw [← h.1]; exact (List.getElem?_eq_some_iff.1 hz).1
  have e : ((⟨g, 0, none⟩ : Addr).add j) = ⟨g, j, none⟩ := by unfold Addr.add; split <;> simp_all
  rw [e, World.cell?_alloc_past _ _ _ (h.lt g rfl).2, h.cellAt j hj]
  exact hz
theorem owns_lit (w : World) (base : Nat) (E : TypeId) (sz n : Nat) (l : List Value) (hb : base ≤ w.heap.size) (hn : n ≤ maxLen) (hl : l.length = n * sz) : (w.alloc (.cells l.toArray E)).ownsRow base E sz (.slice (some ⟨w.heap.size, 0, none⟩) n n) n l :=
  ⟨hl, .inr ⟨w.heap.size, n, l.toArray, rfl, hb, heap_alloc_new w _, Nat.le_refl _, hn, by simpa using hl, by rw [← hl]; simp⟩⟩

/-- What drawing ends leaves. -/
def LeTo (m : Nat) (w : World) (B : Nat) (e : Ending) (w' : World) : Prop :=
  ∃ (xs : List Int) (v : Value), xs.length ≤ 30 ∧ v ≠ .slice none 0 0 ∧ e = .returned v ∧ w'.ownsRow w.heap.size 3 1 v xs.length (xs.map (Value.int .i64)) ∧ Dr w w' B (m + 30)

set_option maxHeartbeats 4000000 in
theorem lineEnds_to (B m : Nat) (M : Int) (w : World) (h : RdTo B m w) (hm : m ≤ 900000) (hM : 0 ≤ M) (hM' : M ≤ 30) :
    Calls Try.prog 51 #[.pointer (some ⟨B, 0, none⟩), .int .i64 M] w (LeTo m w B) := by
  have hBw := h.lt
  obtain ⟨i0, hi, hz0, hz1, hz2⟩ := info_parts info_int
  have D0 := Lib.hid ((Dr.start h).alloc (.cells #[] 3))
  have O0 := Lib.hid (World.ownsRow_made (base := w.heap.size) (e := 3) (size := 1) w #[] 0 (Nat.le_refl _) (Nat.zero_le _) rfl)
  clear h
  go_enter Try.func51, Try.ntmps51
  go_wp2_with fail
  go_loopw [5, 6] (fun v at' wr => ∃ (k : Nat) (a : Int), at' = .int .i64 a ∧ (k : Int) ≤ a ∧ a ≤ M ∧ Hid (v ≠ .slice none 0 0) ∧ Hid (∃ xs : List Int, xs.length = k ∧ wr.ownsRow w.heap.size 3 1 v k (xs.map (Value.int .i64))) ∧ Hid (Dr w wr B (m + k))) (fun _ at' _ => (M - intOf at').toNat)
  case atStart => exact ⟨0, 0, rfl, by omega, by omega, by show _ ≠ _; simp, ⟨[], rfl, O0.out⟩, D0.out⟩
  case round =>
    obtain ⟨k, a, rfl, hk, ha, hv, ho, hd⟩ := hrel
    clear D0 O0
    by_cases hlt : a < M
    · go_wp2_with fail
      refine (pick_to B (m + k) 5 _ hd.out.1 (by omega) (by omega) (by omega)).mono ?_
      rintro e w2 ⟨q, q0, q1, rfl, r2, g2⟩
      obtain ⟨xs, hxl, hown⟩ := ho.out
      have DB := Lib.hid (hd.out.pick g2 r2)
      have OB := Lib.hid (own_pick hown hBw g2)
      have hws := DB.out.size
      clear ho hown hd r2 g2
      by_cases hq : a + 1 + q < M
      · go_wp2_with (at_builtin; refine wpList_append_own _ rfl _ _ 32 rfl w.heap.size 3 i0 (.int .i64 0) 1 8 Try.underlying32 hi hz0 hz1 hz2 rfl (by decide) _ _ _ rfl (OB.out.alloc _) ⟨w2.heap.size, 0, none⟩ 1 1 [.int .i64 (a + 1 + q)] rfl rfl (by simpa using cells_new w2 [_] _) (by intro u hu; simp at hu; subst hu; rfl) (by unfold maxLen; omega) (by omega) (by simp; omega) ?_; intro v' w4 hown' hgrow hiff)
        have dF := (DB.out.alloc (.cells #[.int .i64 (a + 1 + q)] 3)).push (OB.out.alloc _) (Nat.le_refl _) hgrow
        have hv' : Hid (v' ≠ .slice none 0 0) := fun e => by have := (hiff.1 e).2; omega
        clear hiff
        go_roundw
        case rel => exact ⟨k + 1, a + 1 + q, rfl, by omega, by omega, hv', ⟨xs ++ [a + 1 + q], by simp [hxl], by simpa using hown'⟩, dF.mono (by omega)⟩
        case measure => simp [intOf]; omega
      · go_wp2_with (at_builtin; refine wpList_append_own _ rfl _ _ 32 rfl w.heap.size 3 i0 (.int .i64 0) 1 8 Try.underlying32 hi hz0 hz1 hz2 rfl (by decide) _ _ _ rfl (OB.out.alloc _) ⟨w2.heap.size, 0, none⟩ 1 1 [.int .i64 M] rfl rfl (by simpa using cells_new w2 [_] _) (by intro u hu; simp at hu; subst hu; rfl) (by unfold maxLen; omega) (by omega) (by simp; omega) ?_; intro v' w4 hown' hgrow hiff)
        have dF := (DB.out.alloc (.cells #[.int .i64 M] 3)).push (OB.out.alloc _) (Nat.le_refl _) hgrow
        have hv' : Hid (v' ≠ .slice none 0 0) := fun e => by have := (hiff.1 e).2; omega
        clear hiff
        go_roundw
        case rel => exact ⟨k + 1, M, rfl, by omega, by omega, hv', ⟨xs ++ [M], by simp [hxl], by simpa using hown'⟩, dF.mono (by omega)⟩
        case measure => simp [intOf]; omega
    · obtain ⟨xs, hxl, hown⟩ := ho.out
      go_wp2
      go_ret
      exact ⟨xs, _, by omega, hv.out, rfl, by rw [hxl]; exact hown, hd.out.mono (by omega)⟩
end Go.Proofs.Ytaolkplecdbadaa

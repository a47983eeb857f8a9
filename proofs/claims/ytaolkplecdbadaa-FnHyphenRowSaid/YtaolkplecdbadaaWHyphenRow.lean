/-
  PROVED HERE: what the text of the law FnHyphenRow does: it returns true and turns nothing that was there. Conditions: the walk's own.
-/
import Derived.Test.YtaolkplecdbadaaDrawHy
import Derived.Test.YtaolkplecdbadaaDrawLon
namespace Go.Proofs.Ytaolkplecdbadaa
open Go.RowKit

theorem own_strs_news {w w' : World} {base : Nat} {E : TypeId} {g n cap : Nat} {xs : List ByteArray} (h : w.ownsRow base E 1 (.slice (some ⟨g, 0, none⟩) n cap) n (xs.flatMap encS)) (o : Obj) (e : w' = w.alloc o) : ∀ j z, (xs.flatMap encS)[j]? = some z → w'.cell? ((⟨g, 0, none⟩ : Addr).add j) = some z := by
  intro j z hz
  subst e
  have hj : j < n * 1 := by rw [← h.1]; exact (List.getElem?_eq_some_iff.1 hz).1
  have e : ((⟨g, 0, none⟩ : Addr).add j) = ⟨g, j, none⟩ := by unfold Addr.add; split <;> simp_all
  rw [e, World.cell?_alloc_past _ _ _ (h.lt g rfl).2, h.cellAt j hj]
  exact hz

set_option maxHeartbeats 4000000 in
theorem fnHyphenRow_walk (a : Option Addr) (n cap : Nat) (w : World) (h : Code8 w a n cap) : Calls Try.prog 4 #[.slice a n cap] w (Ret (.bool true) w) := by
  have hn : n ≤ 9223372036854775807 := by have := h.2.1; unfold maxLen at this; omega
  by_cases hbig : 1048576 < n
  · go_enter Try.func4, Try.ntmps4
    go_wp2
    go_ret
    exact ⟨rfl, Below.refl _ _⟩
  · have H := Lib.hid h
    clear h
    obtain ⟨i0, hi, hz0, hz1, hz2⟩ := info_parts info_string
    go_enter Try.func4, Try.ntmps4
    go_wp2_with fail
    refine (drawHyphen_any a n cap w H.out).mono ?_
    rintro e w1 ⟨xs, v, hxl, hxs, hvn, rfl, ov, b1⟩
    have hs1 : SRow 1 encS w1 v xs := SRow.of_owns encS_len rfl ov
    have HL := hy_law xs ⟨#[120, 45]⟩ (by decide)
    obtain ⟨x, hx⟩ : ∃ x, x = hyGo 0 0 xs := ⟨_, rfl⟩
    obtain ⟨m, hm⟩ : ∃ m, m = hyGo 0 0 (xs ++ [⟨#[120, 45]⟩]) := ⟨_, rfl⟩
    have S1 := fun v w (h : SRow 1 encS w v xs) => (hx ▸ specHyphen_any v xs w h hxs : Calls Try.prog 14 #[v] w (Ret (.int .i64 x) w))
    have S2 := fun v w (h : SRow 1 encS w v xs) => (hx ▸ implHyphen_any v xs w h hxs : Calls Try.prog 16 #[v] w (Ret (.int .i64 x) w))
    have S3 := fun v w (h : SRow 1 encS w v (xs ++ [⟨#[120, 45]⟩])) => (hm ▸ implHyphen_any v _ w h (fun s hs => by
      rcases List.mem_append.1 hs with hs | hs
      · exact hxs s hs
      · rw [List.mem_singleton.1 hs]; decide) : Calls Try.prog 16 #[v] w (Ret (.int .i64 m) w))
    rw [← hx, ← hm] at HL
    have C1 := Lib.hid S1
    have C2 := Lib.hid S2
    have C3 := Lib.hid S3
    clear hx hm S1 S2 S3 H hxs
    obtain ⟨l0, l1, l2, l3⟩ := HL
    go_wp2_with fail
    refine (C2.out v w1 hs1).mono ?_
    rintro e w2 ⟨rfl, b2⟩
    go_wp2_with fail
    refine (C1.out v w2 (hs1.below b2)).mono ?_
    rintro e w3 ⟨rfl, b3⟩
    have B3 := Lib.hid (below_next (below_next b1 b2 (Nat.le_refl _)) b3 (Nat.le_refl _))
    have OV := Lib.hid (owns_below (owns_below ov b2) b3)
    have hws : w.heap.size ≤ w3.heap.size := B3.out.size
    clear hs1 ov b1 b2 b3 C1 C2
    obtain ⟨g, cp, rfl, hg1, hg2, hcp, _⟩ := own_some OV.out hvn
    have HNW := Lib.hid (own_strs_news OV.out (.cells #[] 9) rfl)
    have O1 := Lib.hid (World.ownsRow_made (base := w3.heap.size) (e := 9) (size := 1) w3 #[] 0 (Nat.le_refl _) (Nat.zero_le _) rfl)
    obtain ⟨nx, hnx⟩ : ∃ nx, nx = xs.length := ⟨_, rfl⟩
    rw [← hnx] at OV hxl l1
    rw [← hnx]
    have HNX := Lib.hid hnx
    clear hnx hvn
    go_wp2_with (first | (at_builtin; refine append_mine _ rfl (.tmp 17) (.tmp 18) 22 rfl w3.heap.size 9 i0 (.string ByteArray.empty) 1 16 Try.underlying22 hi hz0 hz1 hz2 rfl (by decide) (.slice (some ⟨w3.heap.size, 0, none⟩) 0 0) 0 [] rfl O1.out ⟨g, 0, none⟩ nx cp (xs.flatMap encS) rfl OV.out.1 HNW.out (by intro z hz; obtain ⟨x, _, hx⟩ := List.mem_flatMap.1 hz; simp [encS] at hx; subst hx; rfl) (by unfold maxLen; omega) (by omega) (by simp) ?_; intro v1 w4 hown1 hgrow1 _; have hs4 := hgrow1.size; simp at hs4) | (at_builtin; refine append_mine _ rfl (.tmp 19) (.tmp 20) 22 rfl w3.heap.size 9 i0 (.string ByteArray.empty) 1 16 Try.underlying22 hi hz0 hz1 hz2 rfl (by decide) v1 (0 + nx) ([] ++ xs.flatMap encS) rfl (hown1.alloc _) ⟨w4.heap.size, 0, none⟩ 1 1 [.string ⟨#[120, 45]⟩] rfl rfl (by simpa using cells_new w4 [_] _) (by intro u hu; simp at hu; subst hu; rfl) (by unfold maxLen; omega) (by omega) (by simp; omega) ?_; intro v2 w5 hown2 hgrow2 _))
    have s5 : SRow 1 encS w5 v2 (xs ++ [⟨#[120, 45]⟩]) := SRow.of_owns (n := 0 + nx + 1) encS_len (by simp; have := HNX.out; omega) (by simpa [encS] using hown2)
    have b4 : Below w.heap.size w w4 := (B3.out.alloc hws _).grown hgrow1 (by simp; omega) (fun j hj => by have := (O1.out.lt j hj).1; omega)
    have b5 : Below w.heap.size w w5 := (b4.alloc (by omega) _).grown hgrow2 (by simp; omega) (fun j hj => by have := (hown1.lt j hj).1; omega)
    have B5 := Lib.hid b5
    clear b4 b5 hown1 hown2 hgrow1 hgrow2
    refine (C3.out v2 w5 s5).mono ?_
    rintro e w6 ⟨rfl, b6⟩
    have B6 := Lib.hid (below_next B5.out b6 (Nat.le_refl _))
    clear b6 s5
    have q1 : decide (x ≤ (nx : Int)) = true := decide_eq_true l1
    have q2 : decide (1 ≤ m) = true := decide_eq_true l3
    rcases l2 with rfl | rfl
    · go_wp2_with fail
      refine (alive_any _).mono ?_
      rintro e w7 ⟨rfl, b7⟩
      have B7 := Lib.hid (below_next B6.out b7 (Nat.le_refl _))
      clear b7
      go_wp2
      go_ret
      exact ⟨rfl, B7.out⟩
    · have q3 : (x + 1 == x) = false := by simp; omega
      go_wp2_with fail
      refine (alive_any _).mono ?_
      rintro e w7 ⟨rfl, b7⟩
      have B7 := Lib.hid (below_next B6.out b7 (Nat.le_refl _))
      clear b7
      go_wp2
      go_ret
      exact ⟨rfl, B7.out⟩
end Go.Proofs.Ytaolkplecdbadaa

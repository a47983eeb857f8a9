/-
  PROVED HERE: what DrawReadRoman hands back: some text that is not long. Conditions: each theorem's own.
-/
import Derived.Test.YtgpmlfneghpijaaDoorDrawRom
namespace Go.Proofs.YtgpmlfneghpijaaDoor
open Go.RowKit

theorem litS_pick {wx w' : World} {B m : Nat} (l : List (List UInt8)) (t : TypeId) (hr : RdTo B m wx) (hg : (wx.alloc (.cells (l.map fun x => Value.string (bs x)).toArray t)).grownBy w' (some B)) (k : Int) (h0 : 0 ≤ k) (hk : k < l.length) :
    ∃ z, z ∈ l ∧ w'.cell? ⟨wx.heap.size, k.toNat, none⟩ = some (.string (bs z)) := by
  have hk' : k.toNat < l.length := by omega
  refine ⟨l[k.toNat], List.getElem_mem hk', hg.cell (v := .string (bs l[k.toNat])) ?_ (by have := hr.lt; simp; omega)⟩
  rw [World.cell?_alloc_at _ _ _ _ rfl]
  simp [hk']

theorem rom_lenZ (n : Int) : (romZ n).length ≤ 15 := by
  unfold romZ
  split
  · rename_i h
    have := inB_true h
    exact rom_len _ (by omega)
  · simp

set_option maxHeartbeats 2000000 in
theorem drawReadRoman_any (a : Option Addr) (n cap : Nat) (w : World) (h : Code8 w a n cap) : Calls Tryd.prog 13 #[.slice a n cap] w (DrawTxt w) := by
  have H := Lib.hid h
  clear h
  go_enter Tryd.func13, Tryd.ntmps13
  go_wp2_with fail
  refine (open_any a n cap w H.out).mono ?_
  rintro e w0 ⟨B, rfl, hr, hB, hb⟩
  have HB0 := Lib.hid hb
  have R0 : Hid (RdTo B 0 w0) := ⟨0, Nat.le_refl _, hr⟩
  clear hb hr
  go_wp2_with fail
  refine (pick_to B 0 256 _ R0.out (by omega) (by omega) (by omega)).mono ?_
  rintro e w1 ⟨k1, a1, b1, rfl, r1, g1⟩
  have R1 := Lib.hid r1
  have B1 := Lib.hid (HB0.out.grown g1 (by have := HB0.out.size; omega) (fun j hj => by cases hj; exact hB))
  clear r1 g1 R0 HB0
  go_wp2_with fail
  refine (specRoman_any (k1 * 15) w1).mono ?_
  rintro e w2 ⟨rfl, b2⟩
  have R2 := Lib.hid (R1.out.kept (grown_of_below b2 none) (by intro k h; cases h))
  have B2 := Lib.hid (below_next B1.out b2 (Nat.le_refl _))
  have hl := rom_lenZ (k1 * 15)
  obtain ⟨l, hle⟩ : ∃ l, l = romZ (k1 * 15) := ⟨_, rfl⟩
  rw [← hle] at hl ⊢
  clear b2 hle R1 B1
  go_wp2_with fail
  refine (odd_to B (0 + 1) 3 _ R2.out (by omega) (by omega) (by omega)).mono ?_
  rintro e w3 ⟨b, rfl, r3, g3⟩
  have R3 := Lib.hid r3
  have B3 := Lib.hid (B2.out.grown g3 (by have := B2.out.size; omega) (fun j hj => by cases hj; exact hB))
  clear r3 g3 R2 B2
  cases b
  · go_wp2
    go_ret
    exact ⟨l, by omega, rfl, B3.out⟩
  · have c1 : ¬ 9223372036854775807 < l.length + 1 := by omega
    have c2 : ¬ 9223372036854775807 < 1 + l.length := by omega
    go_wp2_with fail
    rw [show (bs l ++ (⟨#[105]⟩ : ByteArray)) = bs (l ++ [105]) from bs_append _ _, show (bs l ++ (⟨#[32]⟩ : ByteArray)) = bs (l ++ [32]) from bs_append _ _, show ((⟨#[109]⟩ : ByteArray) ++ bs l) = bs ([109] ++ l) from bs_append _ _]
    obtain ⟨L, hL⟩ : ∃ L, L = [[], [105, 105, 105, 105], [118, 120], [105, 99], [109, 109, 109, 109], [105, 118, 105], [88], l ++ [105], l ++ [32], [109] ++ l] := ⟨_, rfl⟩
    have hLl : L.length = 10 := by rw [hL]; rfl
    have hLb : ∀ z ∈ L, z.length ≤ 16 := by rw [hL]; simp; omega
    refine (pick_to B (0 + 1 + 1) 10 _ (R3.out.kept (World.grownBy_alloc _ _ none) (by intro k h; cases h)) (by omega) (by omega) (by omega)).mono ?_
    rintro e w4 ⟨k, k0, k10, rfl, r4, g4⟩
    have B4 := Lib.hid (B3.out.alloc B3.out.size (.cells (L.map fun x => Value.string (bs x)).toArray 9))
    have G4 : (w3.alloc (.cells (L.map fun x => Value.string (bs x)).toArray 9)).grownBy w4 (some B) := by rw [hL]; exact g4
    obtain ⟨z, hz, hc⟩ := litS_pick L 9 R3.out G4 k k0 (by omega)
    have hzl := hLb z hz
    have B5 := Lib.hid (B4.out.grown G4 (by have := B4.out.size; omega) (fun j hj => by cases hj; exact hB))
    clear hz hLb hLl hL r4 g4 G4 B4 R3 B3
    go_wp2
    go_ret
    exact ⟨z, hzl, rfl, B5.out⟩
end Go.Proofs.YtgpmlfneghpijaaDoor

/-
  PROVED HERE: a byte of a text. Conditions: the theorem's own.
-/
import Derived.Test.YtjkahdmmejmilaaDoorTxt
import Derived.Lib.TrimByte
set_option linter.unusedVariables false
set_option linter.unusedSimpArgs false
namespace Go.Proofs.YtjkahdmmejmilaaDoor
open Go.RowKit
theorem getD_lt (l : List UInt8) (k : Nat) (h : k < l.length) : l[k]? = some (l.getD k 0) := by simp [List.getD, h]
theorem idx_byte (l : List UInt8) (k : Nat) (hk : k < l.length) (i : Int) (hi : i = (k : Int)) (w : World) : (Instr.index 9 (.string (bs l)) (.int .i64 i)).run Tryd.prog w = .ok (.int .u8 ((l.getD k 0).toNat : Int)) w := by
  subst hi
  have hs : (bs l).size = l.length := by simp [ByteArray.size]
  rw [run_index_string w 9 (bs l) .i64 _ Tryd.underlying9, dif_pos ⟨by omega, by rw [hs]; omega⟩]
  have a := Lib.getElem_mk l k (by rw [hs]; exact hk)
  have b := getD_lt l k hk
  rw [a] at b
  have b := Option.some.inj b
  congr 3
  rw [← b]
  rfl
end Go.Proofs.YtjkahdmmejmilaaDoor

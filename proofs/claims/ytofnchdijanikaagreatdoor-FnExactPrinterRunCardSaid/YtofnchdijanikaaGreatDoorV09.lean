/-
  PROVED HERE: what the printer's lines need, part V09. Conditions: each theorem's own.
-/
import Derived.Test.YtofnchdijanikaaGreatDoorV04
import Derived.Test.YtofnchdijanikaaGreatDoorV01
set_option linter.unusedVariables false
set_option linter.unusedSimpArgs false
set_option maxRecDepth 100000
namespace Go.Proofs.YtofnchdijanikaaGreatDoor
open Go.RowKit
def zB : DBook := ⟨[], [], 0, 0, 0⟩
def prL (b : DBook) (l : List UInt8) : DBook × List UInt8 := if bookB b = true then prLine b l else (zB, [])
end Go.Proofs.YtofnchdijanikaaGreatDoor

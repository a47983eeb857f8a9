/-
  DERIVED. GIVEN WITH THE SEED: THE CARDS: each row of YtfallcoehmmbeaaGreatDoorRows.lean that lists a variable, with what it lists TIED to the program's text (the seventh form; the later family's looks); each row that meets fmt, with fmt's text TOLD by the authors' own Lean function (tested against real Go, not proved from fmt's source: count such statements apart). THE CARD IS WHAT COUNTS. Prove the row's statement (the work); the ties are given (YtfallcoehmmbeaaGreatDoorTie.lean); close each card by the builder's one call (the guide's Derived/Test/ToyasCard.lean, 'card_holds'). Laid BY PROGRAM, IN A SANDBOX (cutbox-door.mjs). By AI agents, Wed Nov 11 2026. No macro, syntax, notation, axiom, sorry.
-/
import Derived.Test.YtfallcoehmmbeaaGreatDoorRows
import GoSem.ClaimSeven
namespace Go.Proofs.YtfallcoehmmbeaaGreatDoor
namespace Rows

/-- THE TIED CARD OF 'laws.FnContentsOf'. -/
def fnContentsOfCard : Claim7 := { stood := { row := fnContentsOfRow, standIns := [], harness := (true, "4138f66242871ad9dffb75a3f893554b59ae22feb55f7ccc7a96e0187521ead0"), looks := true }, kinds := [], alts := [], laidByText := true, laidKinds := [.data, .data, .data, .data, .sentinel, .sentinel, .pinned], laidTests := true, laidLooks := .later }
def FnContentsOfCardSaid : Prop := Claim7.holds Tryz.pinned (.plain (OpenSpec.ofChange fnContentsOfSpec)) fnContentsOfCard

/-- THE SECOND FORM's CARD OF 'laws.FnContentsOf'. -/
def fnContentsOfUptoCard : Claim7 := { stood := { row := fnContentsOfUptoRow, standIns := [], harness := (true, "4138f66242871ad9dffb75a3f893554b59ae22feb55f7ccc7a96e0187521ead0"), looks := true }, kinds := [], alts := [], laidByText := true, laidKinds := [.data, .data, .data, .data, .sentinel, .sentinel, .pinned], laidTests := true, laidLooks := .later }
def FnContentsOfUptoCardSaid : Prop := Claim7.holds Tryz.pinned (.plain (OpenSpec.upto fnContentsOfSpec)) fnContentsOfUptoCard
end Rows
end Go.Proofs.YtfallcoehmmbeaaGreatDoor

/-
  DERIVED. GIVEN WITH THE SEED: THE CARDS: each row of YtfallcoehmmbeaaDoorRows.lean that lists a variable, with what it lists TIED to the program's text (the seventh form; the later family's looks); each row that meets fmt, with fmt's text TOLD by the authors' own Lean function (tested against real Go, not proved from fmt's source: count such statements apart). THE CARD IS WHAT COUNTS. Prove the row's statement (the work); the ties are given (YtfallcoehmmbeaaDoorTie.lean); close each card by the builder's one call (the guide's Derived/Test/ToyasCard.lean, 'card_holds'). Laid BY PROGRAM, IN A SANDBOX (cutbox-door.mjs). By AI agents, Wed Nov 11 2026. No macro, syntax, notation, axiom, sorry.
-/
import Derived.Test.YtfallcoehmmbeaaDoorRows
import GoSem.ClaimSeven
namespace Go.Proofs.YtfallcoehmmbeaaDoor
namespace Rows

/-- THE TIED CARD OF 'laws.FnExactTitleValid'. -/
def fnExactTitleValidCard : Claim7 := { stood := { row := fnExactTitleValidRow, standIns := [], harness := (true, "f13907b782802fcf4e397c9c73516b03fe264a72c1817517c4dfa0b9b5365da7"), looks := true }, kinds := [], alts := [], laidByText := true, laidKinds := [.data, .pinned], laidTests := true, laidLooks := .later }
def FnExactTitleValidCardSaid : Prop := Claim7.holds Tryd.pinned (.plain (OpenSpec.ofChange fnExactTitleValidSpec)) fnExactTitleValidCard

/-- THE TIED CARD OF 'laws.FnTitleValid'. -/
def fnTitleValidCard : Claim7 := { stood := { row := fnTitleValidRow, standIns := [], harness := (true, "f13907b782802fcf4e397c9c73516b03fe264a72c1817517c4dfa0b9b5365da7"), looks := true }, kinds := [], alts := [], laidByText := true, laidKinds := [.data, .pinned], laidTests := true, laidLooks := .later }
def FnTitleValidCardSaid : Prop := Claim7.holds Tryd.pinned (.plain (OpenSpec.ofChange fnTitleValidSpec)) fnTitleValidCard

/-- THE TIED CARD OF 'laws.FnExactContentsLine'. -/
def fnExactContentsLineCard : Claim7 := { stood := { row := fnExactContentsLineRow, standIns := [], harness := (true, "f13907b782802fcf4e397c9c73516b03fe264a72c1817517c4dfa0b9b5365da7"), looks := true }, kinds := [], alts := [], laidByText := true, laidKinds := [.data, .data, .data, .data, .pinned], laidTests := true, laidLooks := .later }
def FnExactContentsLineCardSaid : Prop := Claim7.holds Tryd.pinned (.plain (OpenSpec.ofChange fnExactContentsLineSpec)) fnExactContentsLineCard

/-- THE TIED CARD OF 'laws.FnContentsLine'. -/
def fnContentsLineCard : Claim7 := { stood := { row := fnContentsLineRow, standIns := [], harness := (true, "f13907b782802fcf4e397c9c73516b03fe264a72c1817517c4dfa0b9b5365da7"), looks := true }, kinds := [], alts := [], laidByText := true, laidKinds := [.data, .data, .data, .data, .sentinel, .sentinel, .pinned], laidTests := true, laidLooks := .later }
def FnContentsLineCardSaid : Prop := Claim7.holds Tryd.pinned (.plain (OpenSpec.ofChange fnContentsLineSpec)) fnContentsLineCard

/-- THE TIED CARD OF 'laws.FnExactReadContents'. -/
def fnExactReadContentsCard : Claim7 := { stood := { row := fnExactReadContentsRow, standIns := [], harness := (true, "f13907b782802fcf4e397c9c73516b03fe264a72c1817517c4dfa0b9b5365da7"), looks := true }, kinds := [], alts := [], laidByText := true, laidKinds := [.data, .data, .data, .data, .sentinel, .sentinel, .pinned], laidTests := true, laidLooks := .later }
def FnExactReadContentsCardSaid : Prop := Claim7.holds Tryd.pinned (.plain (OpenSpec.ofChange fnExactReadContentsSpec)) fnExactReadContentsCard

/-- THE TIED CARD OF 'laws.FnReadContents'. -/
def fnReadContentsCard : Claim7 := { stood := { row := fnReadContentsRow, standIns := [], harness := (true, "f13907b782802fcf4e397c9c73516b03fe264a72c1817517c4dfa0b9b5365da7"), looks := true }, kinds := [], alts := [], laidByText := true, laidKinds := [.data, .data, .data, .data, .sentinel, .sentinel, .pinned], laidTests := true, laidLooks := .later }
def FnReadContentsCardSaid : Prop := Claim7.holds Tryd.pinned (.plain (OpenSpec.ofChange fnReadContentsSpec)) fnReadContentsCard

/-- THE TIED CARD OF 'laws.FnExactContentsOf'. -/
def fnExactContentsOfCard : Claim7 := { stood := { row := fnExactContentsOfRow, standIns := [], harness := (true, "f13907b782802fcf4e397c9c73516b03fe264a72c1817517c4dfa0b9b5365da7"), looks := true }, kinds := [], alts := [], laidByText := true, laidKinds := [.data, .data, .data, .data, .pinned], laidTests := true, laidLooks := .later }
def FnExactContentsOfCardSaid : Prop := Claim7.holds Tryd.pinned (.plain (OpenSpec.ofChange fnExactContentsOfSpec)) fnExactContentsOfCard

/-- THE SECOND FORM's CARD OF 'laws.FnExactTitleValid'. -/
def fnExactTitleValidUptoCard : Claim7 := { stood := { row := fnExactTitleValidUptoRow, standIns := [], harness := (true, "f13907b782802fcf4e397c9c73516b03fe264a72c1817517c4dfa0b9b5365da7"), looks := true }, kinds := [], alts := [], laidByText := true, laidKinds := [.data, .pinned], laidTests := true, laidLooks := .later }
def FnExactTitleValidUptoCardSaid : Prop := Claim7.holds Tryd.pinned (.plain (OpenSpec.upto fnExactTitleValidSpec)) fnExactTitleValidUptoCard

/-- THE SECOND FORM's CARD OF 'laws.FnTitleValid'. -/
def fnTitleValidUptoCard : Claim7 := { stood := { row := fnTitleValidUptoRow, standIns := [], harness := (true, "f13907b782802fcf4e397c9c73516b03fe264a72c1817517c4dfa0b9b5365da7"), looks := true }, kinds := [], alts := [], laidByText := true, laidKinds := [.data, .pinned], laidTests := true, laidLooks := .later }
def FnTitleValidUptoCardSaid : Prop := Claim7.holds Tryd.pinned (.plain (OpenSpec.upto fnTitleValidSpec)) fnTitleValidUptoCard

/-- THE SECOND FORM's CARD OF 'laws.FnExactContentsLine'. -/
def fnExactContentsLineUptoCard : Claim7 := { stood := { row := fnExactContentsLineUptoRow, standIns := [], harness := (true, "f13907b782802fcf4e397c9c73516b03fe264a72c1817517c4dfa0b9b5365da7"), looks := true }, kinds := [], alts := [], laidByText := true, laidKinds := [.data, .data, .data, .data, .pinned], laidTests := true, laidLooks := .later }
def FnExactContentsLineUptoCardSaid : Prop := Claim7.holds Tryd.pinned (.plain (OpenSpec.upto fnExactContentsLineSpec)) fnExactContentsLineUptoCard

/-- THE SECOND FORM's CARD OF 'laws.FnContentsLine'. -/
def fnContentsLineUptoCard : Claim7 := { stood := { row := fnContentsLineUptoRow, standIns := [], harness := (true, "f13907b782802fcf4e397c9c73516b03fe264a72c1817517c4dfa0b9b5365da7"), looks := true }, kinds := [], alts := [], laidByText := true, laidKinds := [.data, .data, .data, .data, .sentinel, .sentinel, .pinned], laidTests := true, laidLooks := .later }
def FnContentsLineUptoCardSaid : Prop := Claim7.holds Tryd.pinned (.plain (OpenSpec.upto fnContentsLineSpec)) fnContentsLineUptoCard

/-- THE SECOND FORM's CARD OF 'laws.FnExactReadContents'. -/
def fnExactReadContentsUptoCard : Claim7 := { stood := { row := fnExactReadContentsUptoRow, standIns := [], harness := (true, "f13907b782802fcf4e397c9c73516b03fe264a72c1817517c4dfa0b9b5365da7"), looks := true }, kinds := [], alts := [], laidByText := true, laidKinds := [.data, .data, .data, .data, .sentinel, .sentinel, .pinned], laidTests := true, laidLooks := .later }
def FnExactReadContentsUptoCardSaid : Prop := Claim7.holds Tryd.pinned (.plain (OpenSpec.upto fnExactReadContentsSpec)) fnExactReadContentsUptoCard

/-- THE SECOND FORM's CARD OF 'laws.FnReadContents'. -/
def fnReadContentsUptoCard : Claim7 := { stood := { row := fnReadContentsUptoRow, standIns := [], harness := (true, "f13907b782802fcf4e397c9c73516b03fe264a72c1817517c4dfa0b9b5365da7"), looks := true }, kinds := [], alts := [], laidByText := true, laidKinds := [.data, .data, .data, .data, .sentinel, .sentinel, .pinned], laidTests := true, laidLooks := .later }
def FnReadContentsUptoCardSaid : Prop := Claim7.holds Tryd.pinned (.plain (OpenSpec.upto fnReadContentsSpec)) fnReadContentsUptoCard

/-- THE SECOND FORM's CARD OF 'laws.FnExactContentsOf'. -/
def fnExactContentsOfUptoCard : Claim7 := { stood := { row := fnExactContentsOfUptoRow, standIns := [], harness := (true, "f13907b782802fcf4e397c9c73516b03fe264a72c1817517c4dfa0b9b5365da7"), looks := true }, kinds := [], alts := [], laidByText := true, laidKinds := [.data, .data, .data, .data, .pinned], laidTests := true, laidLooks := .later }
def FnExactContentsOfUptoCardSaid : Prop := Claim7.holds Tryd.pinned (.plain (OpenSpec.upto fnExactContentsOfSpec)) fnExactContentsOfUptoCard
end Rows
end Go.Proofs.YtfallcoehmmbeaaDoor

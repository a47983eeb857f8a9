/-
  DERIVED. GIVEN WITH THE SEED: THE CARDS: each row of YtgdiciaddhbogaaDoorRows.lean that lists a variable, with what it lists TIED to the program's text (the seventh form; the later family's looks); each row that meets fmt, with fmt's text TOLD by the authors' own Lean function (tested against real Go, not proved from fmt's source: count such statements apart). THE CARD IS WHAT COUNTS. Prove the row's statement (the work); the ties are given (YtgdiciaddhbogaaDoorTie.lean); close each card by the builder's one call (the guide's Derived/Test/ToyasCard.lean, 'card_holds'). Laid BY PROGRAM, IN A SANDBOX (cutbox-door.mjs). By AI agents, Wed Nov 11 2026. No macro, syntax, notation, axiom, sorry.
-/
import Derived.Test.YtgdiciaddhbogaaDoorRows
import GoSem.ClaimSeven
namespace Go.Proofs.YtgdiciaddhbogaaDoor
namespace Rows

/-- THE TIED CARD OF 'laws.FnExactPageText'. -/
def fnExactPageTextCard : Claim7 := { stood := { row := fnExactPageTextRow, standIns := [], harness := (true, "4d7835e585f45c037eb7063502b0ed05ebe536b0ec76081d87ae4d048bed3f1e"), looks := false }, kinds := [], alts := [], laidByText := true, laidKinds := [.data, .data, .data, .data], laidTests := true, laidLooks := .later }
def FnExactPageTextCardSaid : Prop := Claim7.holds Tryd.pinned (.plain (OpenSpec.ofChange fnExactPageTextSpec)) fnExactPageTextCard

/-- THE TIED CARD OF 'laws.FnPageText'. -/
def fnPageTextCard : Claim7 := { stood := { row := fnPageTextRow, standIns := [], harness := (true, "4d7835e585f45c037eb7063502b0ed05ebe536b0ec76081d87ae4d048bed3f1e"), looks := false }, kinds := [], alts := [], laidByText := true, laidKinds := [.data, .data, .data, .data], laidTests := true, laidLooks := .later }
def FnPageTextCardSaid : Prop := Claim7.holds Tryd.pinned (.plain (OpenSpec.ofChange fnPageTextSpec)) fnPageTextCard

/-- THE SECOND FORM's CARD OF 'laws.FnExactPageText'. -/
def fnExactPageTextUptoCard : Claim7 := { stood := { row := fnExactPageTextUptoRow, standIns := [], harness := (true, "4d7835e585f45c037eb7063502b0ed05ebe536b0ec76081d87ae4d048bed3f1e"), looks := false }, kinds := [], alts := [], laidByText := true, laidKinds := [.data, .data, .data, .data], laidTests := true, laidLooks := .later }
def FnExactPageTextUptoCardSaid : Prop := Claim7.holds Tryd.pinned (.plain (OpenSpec.upto fnExactPageTextSpec)) fnExactPageTextUptoCard

/-- THE SECOND FORM's CARD OF 'laws.FnPageText'. -/
def fnPageTextUptoCard : Claim7 := { stood := { row := fnPageTextUptoRow, standIns := [], harness := (true, "4d7835e585f45c037eb7063502b0ed05ebe536b0ec76081d87ae4d048bed3f1e"), looks := false }, kinds := [], alts := [], laidByText := true, laidKinds := [.data, .data, .data, .data], laidTests := true, laidLooks := .later }
def FnPageTextUptoCardSaid : Prop := Claim7.holds Tryd.pinned (.plain (OpenSpec.upto fnPageTextSpec)) fnPageTextUptoCard
end Rows
end Go.Proofs.YtgdiciaddhbogaaDoor

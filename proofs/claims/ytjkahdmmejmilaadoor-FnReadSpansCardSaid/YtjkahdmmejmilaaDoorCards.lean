/-
  DERIVED. GIVEN WITH THE SEED: THE CARDS: each row of YtjkahdmmejmilaaDoorRows.lean that lists a variable, with what it lists TIED to the program's text (the seventh form; the later family's looks); each row that meets fmt, with fmt's text TOLD by the authors' own Lean function (tested against real Go, not proved from fmt's source: count such statements apart). THE CARD IS WHAT COUNTS. Prove the row's statement (the work); the ties are given (YtjkahdmmejmilaaDoorTie.lean); close each card by the builder's one call (the guide's Derived/Test/ToyasCard.lean, 'card_holds'). Laid BY PROGRAM, IN A SANDBOX (cutbox-door.mjs). By AI agents, Wed Nov 11 2026. No macro, syntax, notation, axiom, sorry.
-/
import Derived.Test.YtjkahdmmejmilaaDoorRows
import GoSem.ClaimSeven
namespace Go.Proofs.YtjkahdmmejmilaaDoor
namespace Rows

/-- THE TIED CARD OF 'laws.FnExactSpansText'. -/
def fnExactSpansTextCard : Claim7 := { stood := { row := fnExactSpansTextRow, standIns := [], harness := (true, "220b96f026700c02313902b173b8ad2bca74a7905704fd7cfb9cfd6b0d5e7828"), looks := true }, kinds := [], alts := [], laidByText := true, laidKinds := [.data, .data, .data], laidTests := true, laidLooks := .later }
def FnExactSpansTextCardSaid : Prop := Claim7.holds Tryd.pinned (.plain (OpenSpec.ofChange fnExactSpansTextSpec)) fnExactSpansTextCard

/-- THE TIED CARD OF 'laws.FnSpansText'. -/
def fnSpansTextCard : Claim7 := { stood := { row := fnSpansTextRow, standIns := [], harness := (true, "220b96f026700c02313902b173b8ad2bca74a7905704fd7cfb9cfd6b0d5e7828"), looks := true }, kinds := [], alts := [], laidByText := true, laidKinds := [.data, .data, .data, .data, .sentinel, .sentinel, .pinned], laidTests := true, laidLooks := .later }
def FnSpansTextCardSaid : Prop := Claim7.holds Tryd.pinned (.plain (OpenSpec.ofChange fnSpansTextSpec)) fnSpansTextCard

/-- THE TIED CARD OF 'laws.FnExactReadSpans'. -/
def fnExactReadSpansCard : Claim7 := { stood := { row := fnExactReadSpansRow, standIns := [], harness := (true, "220b96f026700c02313902b173b8ad2bca74a7905704fd7cfb9cfd6b0d5e7828"), looks := true }, kinds := [], alts := [], laidByText := true, laidKinds := [.data, .data, .data, .data, .sentinel, .sentinel, .pinned], laidTests := true, laidLooks := .later }
def FnExactReadSpansCardSaid : Prop := Claim7.holds Tryd.pinned (.plain (OpenSpec.ofChange fnExactReadSpansSpec)) fnExactReadSpansCard

/-- THE TIED CARD OF 'laws.FnReadSpans'. -/
def fnReadSpansCard : Claim7 := { stood := { row := fnReadSpansRow, standIns := [], harness := (true, "220b96f026700c02313902b173b8ad2bca74a7905704fd7cfb9cfd6b0d5e7828"), looks := true }, kinds := [], alts := [], laidByText := true, laidKinds := [.data, .data, .data, .data, .sentinel, .sentinel, .pinned], laidTests := true, laidLooks := .later }
def FnReadSpansCardSaid : Prop := Claim7.holds Tryd.pinned (.plain (OpenSpec.ofChange fnReadSpansSpec)) fnReadSpansCard

/-- THE SECOND FORM's CARD OF 'laws.FnExactSpansText'. -/
def fnExactSpansTextUptoCard : Claim7 := { stood := { row := fnExactSpansTextUptoRow, standIns := [], harness := (true, "220b96f026700c02313902b173b8ad2bca74a7905704fd7cfb9cfd6b0d5e7828"), looks := true }, kinds := [], alts := [], laidByText := true, laidKinds := [.data, .data, .data], laidTests := true, laidLooks := .later }
def FnExactSpansTextUptoCardSaid : Prop := Claim7.holds Tryd.pinned (.plain (OpenSpec.upto fnExactSpansTextSpec)) fnExactSpansTextUptoCard

/-- THE SECOND FORM's CARD OF 'laws.FnSpansText'. -/
def fnSpansTextUptoCard : Claim7 := { stood := { row := fnSpansTextUptoRow, standIns := [], harness := (true, "220b96f026700c02313902b173b8ad2bca74a7905704fd7cfb9cfd6b0d5e7828"), looks := true }, kinds := [], alts := [], laidByText := true, laidKinds := [.data, .data, .data, .data, .sentinel, .sentinel, .pinned], laidTests := true, laidLooks := .later }
def FnSpansTextUptoCardSaid : Prop := Claim7.holds Tryd.pinned (.plain (OpenSpec.upto fnSpansTextSpec)) fnSpansTextUptoCard

/-- THE SECOND FORM's CARD OF 'laws.FnExactReadSpans'. -/
def fnExactReadSpansUptoCard : Claim7 := { stood := { row := fnExactReadSpansUptoRow, standIns := [], harness := (true, "220b96f026700c02313902b173b8ad2bca74a7905704fd7cfb9cfd6b0d5e7828"), looks := true }, kinds := [], alts := [], laidByText := true, laidKinds := [.data, .data, .data, .data, .sentinel, .sentinel, .pinned], laidTests := true, laidLooks := .later }
def FnExactReadSpansUptoCardSaid : Prop := Claim7.holds Tryd.pinned (.plain (OpenSpec.upto fnExactReadSpansSpec)) fnExactReadSpansUptoCard

/-- THE SECOND FORM's CARD OF 'laws.FnReadSpans'. -/
def fnReadSpansUptoCard : Claim7 := { stood := { row := fnReadSpansUptoRow, standIns := [], harness := (true, "220b96f026700c02313902b173b8ad2bca74a7905704fd7cfb9cfd6b0d5e7828"), looks := true }, kinds := [], alts := [], laidByText := true, laidKinds := [.data, .data, .data, .data, .sentinel, .sentinel, .pinned], laidTests := true, laidLooks := .later }
def FnReadSpansUptoCardSaid : Prop := Claim7.holds Tryd.pinned (.plain (OpenSpec.upto fnReadSpansSpec)) fnReadSpansUptoCard
end Rows
end Go.Proofs.YtjkahdmmejmilaaDoor

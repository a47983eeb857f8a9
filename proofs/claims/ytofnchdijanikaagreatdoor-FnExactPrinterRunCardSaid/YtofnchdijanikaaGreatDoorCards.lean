/-
  DERIVED. GIVEN WITH THE SEED: THE CARDS: each row of YtofnchdijanikaaGreatDoorRows.lean that lists a variable, with what it lists TIED to the program's text (the seventh form; the later family's looks); each row that meets fmt, with fmt's text TOLD by the authors' own Lean function (tested against real Go, not proved from fmt's source: count such statements apart). THE CARD IS WHAT COUNTS. Prove the row's statement (the work); the ties are given (YtofnchdijanikaaGreatDoorTie.lean); close each card by the builder's one call (the guide's Derived/Test/ToyasCard.lean, 'card_holds'). Laid BY PROGRAM, IN A SANDBOX (cutbox-door.mjs). By AI agents, Wed Nov 11 2026. No macro, syntax, notation, axiom, sorry.
-/
import Derived.Test.YtofnchdijanikaaGreatDoorRows
import GoSem.ClaimSeven
namespace Go.Proofs.YtofnchdijanikaaGreatDoor
namespace Rows

/-- THE TIED CARD OF 'laws.FnExactPrinterLine'. -/
def fnExactPrinterLineCard : Claim7 := { stood := { row := fnExactPrinterLineRow, standIns := [], harness := (true, "d275efe7ce209602403fb7dae2c25ab830862315ec0c7c966662f4db8aeadd70"), looks := true }, kinds := [], alts := [], laidByText := true, laidKinds := [.data, .data, .data, .data, .sentinel, .sentinel, .pinned], laidTests := true, laidLooks := .later }
def FnExactPrinterLineCardSaid : Prop := Claim7.holds Tryz.pinned (.plain (OpenSpec.ofChange fnExactPrinterLineSpec)) fnExactPrinterLineCard

/-- THE TIED CARD OF 'laws.FnPrinterRun'. -/
def fnPrinterRunCard : Claim7 := { stood := { row := fnPrinterRunRow, standIns := [], harness := (true, "d275efe7ce209602403fb7dae2c25ab830862315ec0c7c966662f4db8aeadd70"), looks := true }, kinds := [], alts := [], laidByText := true, laidKinds := [.data, .data, .data, .data, .sentinel, .sentinel, .pinned], laidTests := true, laidLooks := .later }
def FnPrinterRunCardSaid : Prop := Claim7.holds Tryz.pinned (.plain (OpenSpec.ofChange fnPrinterRunSpec)) fnPrinterRunCard

/-- THE TIED CARD OF 'laws.FnExactPrinterRun'. -/
def fnExactPrinterRunCard : Claim7 := { stood := { row := fnExactPrinterRunRow, standIns := [], harness := (true, "d275efe7ce209602403fb7dae2c25ab830862315ec0c7c966662f4db8aeadd70"), looks := true }, kinds := [], alts := [], laidByText := true, laidKinds := [.data, .data, .data, .data, .sentinel, .sentinel, .pinned], laidTests := true, laidLooks := .later }
def FnExactPrinterRunCardSaid : Prop := Claim7.holds Tryz.pinned (.plain (OpenSpec.ofChange fnExactPrinterRunSpec)) fnExactPrinterRunCard

/-- THE TIED CARD OF 'laws.FnPrinterLine'. -/
def fnPrinterLineCard : Claim7 := { stood := { row := fnPrinterLineRow, standIns := [], harness := (true, "d275efe7ce209602403fb7dae2c25ab830862315ec0c7c966662f4db8aeadd70"), looks := true }, kinds := [], alts := [], laidByText := true, laidKinds := [.data, .data, .data, .data, .sentinel, .sentinel, .pinned], laidTests := true, laidLooks := .later }
def FnPrinterLineCardSaid : Prop := Claim7.holds Tryz.pinned (.plain (OpenSpec.ofChange fnPrinterLineSpec)) fnPrinterLineCard

/-- THE SECOND FORM's CARD OF 'laws.FnExactPrinterLine'. -/
def fnExactPrinterLineUptoCard : Claim7 := { stood := { row := fnExactPrinterLineUptoRow, standIns := [], harness := (true, "d275efe7ce209602403fb7dae2c25ab830862315ec0c7c966662f4db8aeadd70"), looks := true }, kinds := [], alts := [], laidByText := true, laidKinds := [.data, .data, .data, .data, .sentinel, .sentinel, .pinned], laidTests := true, laidLooks := .later }
def FnExactPrinterLineUptoCardSaid : Prop := Claim7.holds Tryz.pinned (.plain (OpenSpec.upto fnExactPrinterLineSpec)) fnExactPrinterLineUptoCard

/-- THE SECOND FORM's CARD OF 'laws.FnPrinterRun'. -/
def fnPrinterRunUptoCard : Claim7 := { stood := { row := fnPrinterRunUptoRow, standIns := [], harness := (true, "d275efe7ce209602403fb7dae2c25ab830862315ec0c7c966662f4db8aeadd70"), looks := true }, kinds := [], alts := [], laidByText := true, laidKinds := [.data, .data, .data, .data, .sentinel, .sentinel, .pinned], laidTests := true, laidLooks := .later }
def FnPrinterRunUptoCardSaid : Prop := Claim7.holds Tryz.pinned (.plain (OpenSpec.upto fnPrinterRunSpec)) fnPrinterRunUptoCard

/-- THE SECOND FORM's CARD OF 'laws.FnExactPrinterRun'. -/
def fnExactPrinterRunUptoCard : Claim7 := { stood := { row := fnExactPrinterRunUptoRow, standIns := [], harness := (true, "d275efe7ce209602403fb7dae2c25ab830862315ec0c7c966662f4db8aeadd70"), looks := true }, kinds := [], alts := [], laidByText := true, laidKinds := [.data, .data, .data, .data, .sentinel, .sentinel, .pinned], laidTests := true, laidLooks := .later }
def FnExactPrinterRunUptoCardSaid : Prop := Claim7.holds Tryz.pinned (.plain (OpenSpec.upto fnExactPrinterRunSpec)) fnExactPrinterRunUptoCard

/-- THE SECOND FORM's CARD OF 'laws.FnPrinterLine'. -/
def fnPrinterLineUptoCard : Claim7 := { stood := { row := fnPrinterLineUptoRow, standIns := [], harness := (true, "d275efe7ce209602403fb7dae2c25ab830862315ec0c7c966662f4db8aeadd70"), looks := true }, kinds := [], alts := [], laidByText := true, laidKinds := [.data, .data, .data, .data, .sentinel, .sentinel, .pinned], laidTests := true, laidLooks := .later }
def FnPrinterLineUptoCardSaid : Prop := Claim7.holds Tryz.pinned (.plain (OpenSpec.upto fnPrinterLineSpec)) fnPrinterLineUptoCard
end Rows
end Go.Proofs.YtofnchdijanikaaGreatDoor

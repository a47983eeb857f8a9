/-
  DERIVED. GIVEN WITH THE SEED: THE CARDS: each row of YtgpmlfneghpijaaDoorRows.lean that lists a variable, with what it lists TIED to the program's text (the seventh form; the later family's looks); each row that meets fmt, with fmt's text TOLD by the authors' own Lean function (tested against real Go, not proved from fmt's source: count such statements apart). THE CARD IS WHAT COUNTS. Prove the row's statement (the work); the ties are given (YtgpmlfneghpijaaDoorTie.lean); close each card by the builder's one call (the guide's Derived/Test/ToyasCard.lean, 'card_holds'). Laid BY PROGRAM, IN A SANDBOX (cutbox-door.mjs). By AI agents, Wed Nov 11 2026. No macro, syntax, notation, axiom, sorry.
-/
import Derived.Test.YtgpmlfneghpijaaDoorRows
import GoSem.ClaimSeven
namespace Go.Proofs.YtgpmlfneghpijaaDoor
namespace Rows

/-- THE TIED CARD OF 'laws.FnExactRomanText'. -/
def fnExactRomanTextCard : Claim7 := { stood := { row := fnExactRomanTextRow, standIns := [], harness := (true, "0c499c03bbed9c0922957f263d9772b4e92474261da9960e8f375eff03934837"), looks := false }, kinds := [], alts := [], laidByText := true, laidKinds := [.data], laidTests := true, laidLooks := .later }
def FnExactRomanTextCardSaid : Prop := Claim7.holds Tryd.pinned (.plain (OpenSpec.ofChange fnExactRomanTextSpec)) fnExactRomanTextCard

/-- THE TIED CARD OF 'laws.FnRomanText'. -/
def fnRomanTextCard : Claim7 := { stood := { row := fnRomanTextRow, standIns := [], harness := (true, "0c499c03bbed9c0922957f263d9772b4e92474261da9960e8f375eff03934837"), looks := false }, kinds := [], alts := [], laidByText := true, laidKinds := [.data], laidTests := true, laidLooks := .later }
def FnRomanTextCardSaid : Prop := Claim7.holds Tryd.pinned (.plain (OpenSpec.ofChange fnRomanTextSpec)) fnRomanTextCard

/-- THE TIED CARD OF 'laws.FnExactReadRoman'. -/
def fnExactReadRomanCard : Claim7 := { stood := { row := fnExactReadRomanRow, standIns := [], harness := (true, "0c499c03bbed9c0922957f263d9772b4e92474261da9960e8f375eff03934837"), looks := false }, kinds := [], alts := [], laidByText := true, laidKinds := [.data], laidTests := true, laidLooks := .later }
def FnExactReadRomanCardSaid : Prop := Claim7.holds Tryd.pinned (.plain (OpenSpec.ofChange fnExactReadRomanSpec)) fnExactReadRomanCard

/-- THE TIED CARD OF 'laws.FnReadRoman'. -/
def fnReadRomanCard : Claim7 := { stood := { row := fnReadRomanRow, standIns := [], harness := (true, "0c499c03bbed9c0922957f263d9772b4e92474261da9960e8f375eff03934837"), looks := false }, kinds := [], alts := [], laidByText := true, laidKinds := [.data], laidTests := true, laidLooks := .later }
def FnReadRomanCardSaid : Prop := Claim7.holds Tryd.pinned (.plain (OpenSpec.ofChange fnReadRomanSpec)) fnReadRomanCard

/-- THE SECOND FORM's CARD OF 'laws.FnExactRomanText'. -/
def fnExactRomanTextUptoCard : Claim7 := { stood := { row := fnExactRomanTextUptoRow, standIns := [], harness := (true, "0c499c03bbed9c0922957f263d9772b4e92474261da9960e8f375eff03934837"), looks := false }, kinds := [], alts := [], laidByText := true, laidKinds := [.data], laidTests := true, laidLooks := .later }
def FnExactRomanTextUptoCardSaid : Prop := Claim7.holds Tryd.pinned (.plain (OpenSpec.upto fnExactRomanTextSpec)) fnExactRomanTextUptoCard

/-- THE SECOND FORM's CARD OF 'laws.FnRomanText'. -/
def fnRomanTextUptoCard : Claim7 := { stood := { row := fnRomanTextUptoRow, standIns := [], harness := (true, "0c499c03bbed9c0922957f263d9772b4e92474261da9960e8f375eff03934837"), looks := false }, kinds := [], alts := [], laidByText := true, laidKinds := [.data], laidTests := true, laidLooks := .later }
def FnRomanTextUptoCardSaid : Prop := Claim7.holds Tryd.pinned (.plain (OpenSpec.upto fnRomanTextSpec)) fnRomanTextUptoCard

/-- THE SECOND FORM's CARD OF 'laws.FnExactReadRoman'. -/
def fnExactReadRomanUptoCard : Claim7 := { stood := { row := fnExactReadRomanUptoRow, standIns := [], harness := (true, "0c499c03bbed9c0922957f263d9772b4e92474261da9960e8f375eff03934837"), looks := false }, kinds := [], alts := [], laidByText := true, laidKinds := [.data], laidTests := true, laidLooks := .later }
def FnExactReadRomanUptoCardSaid : Prop := Claim7.holds Tryd.pinned (.plain (OpenSpec.upto fnExactReadRomanSpec)) fnExactReadRomanUptoCard

/-- THE SECOND FORM's CARD OF 'laws.FnReadRoman'. -/
def fnReadRomanUptoCard : Claim7 := { stood := { row := fnReadRomanUptoRow, standIns := [], harness := (true, "0c499c03bbed9c0922957f263d9772b4e92474261da9960e8f375eff03934837"), looks := false }, kinds := [], alts := [], laidByText := true, laidKinds := [.data], laidTests := true, laidLooks := .later }
def FnReadRomanUptoCardSaid : Prop := Claim7.holds Tryd.pinned (.plain (OpenSpec.upto fnReadRomanSpec)) fnReadRomanUptoCard
end Rows
end Go.Proofs.YtgpmlfneghpijaaDoor

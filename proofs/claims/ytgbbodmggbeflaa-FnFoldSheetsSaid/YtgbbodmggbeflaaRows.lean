/-
  No cell of these rows narrows 'for every input' (looked for: loops, veiled, ifaces, maps, wideKeys, modest, calm, conditions, laid).
  DERIVED. THE GIVEN ROWS OF THIS SEAT. 12 by the template 'for every input the law returns true; each argument reads behind the call as it read before'; 0 by the template 'total and deterministic' (their statements: YtgbbodmggbeflaaTotals.lean).
  GIVEN WITH THE SEED: the statements are not yours to turn. If you find one false, say at which input.
  Laid BY PROGRAM, IN A SANDBOX (cutbox-rows.mjs): the forced cells as the released guide's own fill.sh prints them over the translation 3e22b2ae060659b8… (all of the seat's roots in one cut). By AI agents, Wed Nov 11 2026. No macro, syntax, notation, axiom, sorry.
-/
import Derived.Test.YtgbbodmggbeflaaChecked
import GoSem.Claim
import GoSem.ClaimJoined
import GoSem.ClaimMapViews
import Derived.JoinedTies
import Derived.KernelRfl
namespace Go.Proofs.Ytgbbodmggbeflaa
/- THE CELL 'sum', in the pinned program and in every row, IS THE sha256 OF THE DUMP (.gsa) THAT YtgbbodmggbeflaaProg.lean LOADS. Nothing in Lean hashes anything: it is a label: what it is worth is what the hold of that sum in a sandbox is worth. -/
noncomputable def Try.pinned : Pinned := { name := "ytgbbodmggbeflaa", sum := "3e22b2ae060659b8204e38a719de2468088c3471927acf6be52fc6a1af12e2ce", checked := Try.checked }
namespace Rows
def none {H : Type} : Left H := { results := [], args := [] }

/-- 'laws.FnExactSheetCount': WHATEVER THE INPUT: true; the input reads as it did. -/
def fnExactSheetCountSpec : ChangeSpec := { name := "fnExactSheetCount", fn := fun _ => fun
  | [d] => { results := [.lit (.bool true)], args := [d] }
  | _ => none }
def fnExactSheetCountRow : OpenClaim := { program := "ytgbbodmggbeflaa", sum := "3e22b2ae060659b8204e38a719de2468088c3471927acf6be52fc6a1af12e2ce", func := "loop.example/pagebuilder/laws.FnExactSheetCount", spec := "fnExactSheetCount", apart := false }
def FnExactSheetCountSaid : Prop := fnExactSheetCountRow.holds Try.pinned (OpenSpec.ofChange fnExactSheetCountSpec)

/-- ITS FALSE NEIGHBOUR: 'it returns false'. Refute it at one input. -/
def fnExactSheetCountWrong : ChangeSpec := { name := "fnExactSheetCount", fn := fun _ => fun
  | [d] => { results := [.lit (.bool false)], args := [d] }
  | _ => none }
def FnExactSheetCountWrongFalsely : Prop := fnExactSheetCountRow.holds Try.pinned (OpenSpec.ofChange fnExactSheetCountWrong)

/-- 'laws.FnSheetCount': WHATEVER THE INPUT: true; the input reads as it did. -/
def fnSheetCountSpec : ChangeSpec := { name := "fnSheetCount", fn := fun _ => fun
  | [d] => { results := [.lit (.bool true)], args := [d] }
  | _ => none }
def fnSheetCountRow : OpenClaim := { program := "ytgbbodmggbeflaa", sum := "3e22b2ae060659b8204e38a719de2468088c3471927acf6be52fc6a1af12e2ce", func := "loop.example/pagebuilder/laws.FnSheetCount", spec := "fnSheetCount", apart := false }
def FnSheetCountSaid : Prop := fnSheetCountRow.holds Try.pinned (OpenSpec.ofChange fnSheetCountSpec)

/-- ITS FALSE NEIGHBOUR: 'it returns false'. Refute it at one input. -/
def fnSheetCountWrong : ChangeSpec := { name := "fnSheetCount", fn := fun _ => fun
  | [d] => { results := [.lit (.bool false)], args := [d] }
  | _ => none }
def FnSheetCountWrongFalsely : Prop := fnSheetCountRow.holds Try.pinned (OpenSpec.ofChange fnSheetCountWrong)

/-- 'laws.FnExactUpSheet': WHATEVER THE INPUT: true; the input reads as it did. -/
def fnExactUpSheetSpec : ChangeSpec := { name := "fnExactUpSheet", fn := fun _ => fun
  | [d1, d2, d3] => { results := [.lit (.bool true)], args := [d1, d2, d3] }
  | _ => none }
def fnExactUpSheetRow : OpenClaim := { program := "ytgbbodmggbeflaa", sum := "3e22b2ae060659b8204e38a719de2468088c3471927acf6be52fc6a1af12e2ce", func := "loop.example/pagebuilder/laws.FnExactUpSheet", spec := "fnExactUpSheet", apart := false }
def FnExactUpSheetSaid : Prop := fnExactUpSheetRow.holds Try.pinned (OpenSpec.ofChange fnExactUpSheetSpec)

/-- ITS FALSE NEIGHBOUR: 'it returns false'. Refute it at one input. -/
def fnExactUpSheetWrong : ChangeSpec := { name := "fnExactUpSheet", fn := fun _ => fun
  | [d1, d2, d3] => { results := [.lit (.bool false)], args := [d1, d2, d3] }
  | _ => none }
def FnExactUpSheetWrongFalsely : Prop := fnExactUpSheetRow.holds Try.pinned (OpenSpec.ofChange fnExactUpSheetWrong)

/-- 'laws.FnUpSheet': WHATEVER THE INPUT: true; the input reads as it did. -/
def fnUpSheetSpec : ChangeSpec := { name := "fnUpSheet", fn := fun _ => fun
  | [d] => { results := [.lit (.bool true)], args := [d] }
  | _ => none }
def fnUpSheetRow : OpenClaim := { program := "ytgbbodmggbeflaa", sum := "3e22b2ae060659b8204e38a719de2468088c3471927acf6be52fc6a1af12e2ce", func := "loop.example/pagebuilder/laws.FnUpSheet", spec := "fnUpSheet", apart := false }
def FnUpSheetSaid : Prop := fnUpSheetRow.holds Try.pinned (OpenSpec.ofChange fnUpSheetSpec)

/-- ITS FALSE NEIGHBOUR: 'it returns false'. Refute it at one input. -/
def fnUpSheetWrong : ChangeSpec := { name := "fnUpSheet", fn := fun _ => fun
  | [d] => { results := [.lit (.bool false)], args := [d] }
  | _ => none }
def FnUpSheetWrongFalsely : Prop := fnUpSheetRow.holds Try.pinned (OpenSpec.ofChange fnUpSheetWrong)

/-- 'laws.FnUpAll': WHATEVER THE INPUT: true; the input reads as it did. -/
def fnUpAllSpec : ChangeSpec := { name := "fnUpAll", fn := fun _ => fun
  | [d] => { results := [.lit (.bool true)], args := [d] }
  | _ => none }
def fnUpAllRow : OpenClaim := { program := "ytgbbodmggbeflaa", sum := "3e22b2ae060659b8204e38a719de2468088c3471927acf6be52fc6a1af12e2ce", func := "loop.example/pagebuilder/laws.FnUpAll", spec := "fnUpAll", apart := false }
def FnUpAllSaid : Prop := fnUpAllRow.holds Try.pinned (OpenSpec.ofChange fnUpAllSpec)

/-- ITS FALSE NEIGHBOUR: 'it returns false'. Refute it at one input. -/
def fnUpAllWrong : ChangeSpec := { name := "fnUpAll", fn := fun _ => fun
  | [d] => { results := [.lit (.bool false)], args := [d] }
  | _ => none }
def FnUpAllWrongFalsely : Prop := fnUpAllRow.holds Try.pinned (OpenSpec.ofChange fnUpAllWrong)

/-- 'laws.FnExactUpAreas': WHATEVER THE INPUT: true; the input reads as it did. -/
def fnExactUpAreasSpec : ChangeSpec := { name := "fnExactUpAreas", fn := fun _ => fun
  | [d1, d2, d3, d4, d5] => { results := [.lit (.bool true)], args := [d1, d2, d3, d4, d5] }
  | _ => none }
def fnExactUpAreasRow : OpenClaim := { program := "ytgbbodmggbeflaa", sum := "3e22b2ae060659b8204e38a719de2468088c3471927acf6be52fc6a1af12e2ce", func := "loop.example/pagebuilder/laws.FnExactUpAreas", spec := "fnExactUpAreas", apart := false }
def FnExactUpAreasSaid : Prop := fnExactUpAreasRow.holds Try.pinned (OpenSpec.ofChange fnExactUpAreasSpec)

/-- ITS FALSE NEIGHBOUR: 'it returns false'. Refute it at one input. -/
def fnExactUpAreasWrong : ChangeSpec := { name := "fnExactUpAreas", fn := fun _ => fun
  | [d1, d2, d3, d4, d5] => { results := [.lit (.bool false)], args := [d1, d2, d3, d4, d5] }
  | _ => none }
def FnExactUpAreasWrongFalsely : Prop := fnExactUpAreasRow.holds Try.pinned (OpenSpec.ofChange fnExactUpAreasWrong)

/-- 'laws.FnUpAreas': WHATEVER THE INPUT: true; the input reads as it did. -/
def fnUpAreasSpec : ChangeSpec := { name := "fnUpAreas", fn := fun _ => fun
  | [d] => { results := [.lit (.bool true)], args := [d] }
  | _ => none }
def fnUpAreasRow : OpenClaim := { program := "ytgbbodmggbeflaa", sum := "3e22b2ae060659b8204e38a719de2468088c3471927acf6be52fc6a1af12e2ce", func := "loop.example/pagebuilder/laws.FnUpAreas", spec := "fnUpAreas", apart := false }
def FnUpAreasSaid : Prop := fnUpAreasRow.holds Try.pinned (OpenSpec.ofChange fnUpAreasSpec)

/-- ITS FALSE NEIGHBOUR: 'it returns false'. Refute it at one input. -/
def fnUpAreasWrong : ChangeSpec := { name := "fnUpAreas", fn := fun _ => fun
  | [d] => { results := [.lit (.bool false)], args := [d] }
  | _ => none }
def FnUpAreasWrongFalsely : Prop := fnUpAreasRow.holds Try.pinned (OpenSpec.ofChange fnUpAreasWrong)

/-- 'laws.FnAreaAt': WHATEVER THE INPUT: true; the input reads as it did. -/
def fnAreaAtSpec : ChangeSpec := { name := "fnAreaAt", fn := fun _ => fun
  | [d] => { results := [.lit (.bool true)], args := [d] }
  | _ => none }
def fnAreaAtRow : OpenClaim := { program := "ytgbbodmggbeflaa", sum := "3e22b2ae060659b8204e38a719de2468088c3471927acf6be52fc6a1af12e2ce", func := "loop.example/pagebuilder/laws.FnAreaAt", spec := "fnAreaAt", apart := false }
def FnAreaAtSaid : Prop := fnAreaAtRow.holds Try.pinned (OpenSpec.ofChange fnAreaAtSpec)

/-- ITS FALSE NEIGHBOUR: 'it returns false'. Refute it at one input. -/
def fnAreaAtWrong : ChangeSpec := { name := "fnAreaAt", fn := fun _ => fun
  | [d] => { results := [.lit (.bool false)], args := [d] }
  | _ => none }
def FnAreaAtWrongFalsely : Prop := fnAreaAtRow.holds Try.pinned (OpenSpec.ofChange fnAreaAtWrong)

/-- 'laws.FnExactSheetsOf': WHATEVER THE INPUT: true; the input reads as it did. -/
def fnExactSheetsOfSpec : ChangeSpec := { name := "fnExactSheetsOf", fn := fun _ => fun
  | [d] => { results := [.lit (.bool true)], args := [d] }
  | _ => none }
def fnExactSheetsOfRow : OpenClaim := { program := "ytgbbodmggbeflaa", sum := "3e22b2ae060659b8204e38a719de2468088c3471927acf6be52fc6a1af12e2ce", func := "loop.example/pagebuilder/laws.FnExactSheetsOf", spec := "fnExactSheetsOf", apart := false }
def FnExactSheetsOfSaid : Prop := fnExactSheetsOfRow.holds Try.pinned (OpenSpec.ofChange fnExactSheetsOfSpec)

/-- ITS FALSE NEIGHBOUR: 'it returns false'. Refute it at one input. -/
def fnExactSheetsOfWrong : ChangeSpec := { name := "fnExactSheetsOf", fn := fun _ => fun
  | [d] => { results := [.lit (.bool false)], args := [d] }
  | _ => none }
def FnExactSheetsOfWrongFalsely : Prop := fnExactSheetsOfRow.holds Try.pinned (OpenSpec.ofChange fnExactSheetsOfWrong)

/-- 'laws.FnSheetsOf': WHATEVER THE INPUT: true; the input reads as it did. -/
def fnSheetsOfSpec : ChangeSpec := { name := "fnSheetsOf", fn := fun _ => fun
  | [d] => { results := [.lit (.bool true)], args := [d] }
  | _ => none }
def fnSheetsOfRow : OpenClaim := { program := "ytgbbodmggbeflaa", sum := "3e22b2ae060659b8204e38a719de2468088c3471927acf6be52fc6a1af12e2ce", func := "loop.example/pagebuilder/laws.FnSheetsOf", spec := "fnSheetsOf", unfollowed := true, recurses := true, apart := false }
def FnSheetsOfSaid : Prop := fnSheetsOfRow.holds Try.pinned (OpenSpec.ofChange fnSheetsOfSpec)

/-- ITS FALSE NEIGHBOUR: 'it returns false'. Refute it at one input. -/
def fnSheetsOfWrong : ChangeSpec := { name := "fnSheetsOf", fn := fun _ => fun
  | [d] => { results := [.lit (.bool false)], args := [d] }
  | _ => none }
def FnSheetsOfWrongFalsely : Prop := fnSheetsOfRow.holds Try.pinned (OpenSpec.ofChange fnSheetsOfWrong)

/-- 'laws.FnExactFoldSheets': WHATEVER THE INPUT: true; the input reads as it did. -/
def fnExactFoldSheetsSpec : ChangeSpec := { name := "fnExactFoldSheets", fn := fun _ => fun
  | [d] => { results := [.lit (.bool true)], args := [d] }
  | _ => none }
def fnExactFoldSheetsRow : OpenClaim := { program := "ytgbbodmggbeflaa", sum := "3e22b2ae060659b8204e38a719de2468088c3471927acf6be52fc6a1af12e2ce", func := "loop.example/pagebuilder/laws.FnExactFoldSheets", spec := "fnExactFoldSheets", unfollowed := true, recurses := true, apart := false }
def FnExactFoldSheetsSaid : Prop := fnExactFoldSheetsRow.holds Try.pinned (OpenSpec.ofChange fnExactFoldSheetsSpec)

/-- ITS FALSE NEIGHBOUR: 'it returns false'. Refute it at one input. -/
def fnExactFoldSheetsWrong : ChangeSpec := { name := "fnExactFoldSheets", fn := fun _ => fun
  | [d] => { results := [.lit (.bool false)], args := [d] }
  | _ => none }
def FnExactFoldSheetsWrongFalsely : Prop := fnExactFoldSheetsRow.holds Try.pinned (OpenSpec.ofChange fnExactFoldSheetsWrong)

/-- 'laws.FnFoldSheets': WHATEVER THE INPUT: true; the input reads as it did. -/
def fnFoldSheetsSpec : ChangeSpec := { name := "fnFoldSheets", fn := fun _ => fun
  | [d] => { results := [.lit (.bool true)], args := [d] }
  | _ => none }
def fnFoldSheetsRow : OpenClaim := { program := "ytgbbodmggbeflaa", sum := "3e22b2ae060659b8204e38a719de2468088c3471927acf6be52fc6a1af12e2ce", func := "loop.example/pagebuilder/laws.FnFoldSheets", spec := "fnFoldSheets", unfollowed := true, recurses := true, apart := false }
def FnFoldSheetsSaid : Prop := fnFoldSheetsRow.holds Try.pinned (OpenSpec.ofChange fnFoldSheetsSpec)

/-- ITS FALSE NEIGHBOUR: 'it returns false'. Refute it at one input. -/
def fnFoldSheetsWrong : ChangeSpec := { name := "fnFoldSheets", fn := fun _ => fun
  | [d] => { results := [.lit (.bool false)], args := [d] }
  | _ => none }
def FnFoldSheetsWrongFalsely : Prop := fnFoldSheetsRow.holds Try.pinned (OpenSpec.ofChange fnFoldSheetsWrong)

/- THE SECOND FORM. 'bulk': how many values and letters a reading holds, each counted each time it is reached (what is shared counts as often as it is met; a slice's spare places count too). A statement '..UptoSaid' is the law's where the arguments, and the package variables that the reading takes, are together of bulk at most 1048576: NARROWER than '..Said'. Prove '..Said' where nothing that the law and all that it calls make is longer than what came in: it says more and counts as full. Else prove '..UptoSaid'. A law counts once. -/
mutual
def uptoBulk {H : Type} : DataW H → Nat
  | .lit (.string bytes) => bytes.length + 1
  | .lit _ => 1
  | .nil => 1
  | .ptr d => uptoBulk d + 1
  | .slice elems spare => uptoBulkAll elems + uptoBulkAll spare + 1
  | .agg parts => uptoBulkAll parts + 1
  | .iface _ d => uptoBulk d + 1
  | .map entries => uptoBulkEntries entries + 1
  | .held _ => 1
def uptoBulkAll {H : Type} : List (DataW H) → Nat
  | [] => 0
  | d :: r => uptoBulk d + uptoBulkAll r
def uptoBulkEntries {H : Type} : List (Lit × DataW H) → Nat
  | [] => 0
  | x :: r => uptoBulkEntry x + uptoBulkEntries r
def uptoBulkEntry {H : Type} : Lit × DataW H → Nat
  | (.string bytes, d) => bytes.length + uptoBulk d + 1
  | (_, d) => uptoBulk d + 1
 end
def uptoSmall : (H : Type) → List (DataW H) → Bool := fun _ ds => decide (uptoBulkAll ds ≤ 1048576)
def OpenSpec.upto (s : _root_.Go.ChangeSpec) : _root_.Go.OpenSpec := { _root_.Go.OpenSpec.ofChange s with cond := some uptoSmall }

/-- 'laws.FnExactSheetCount', WHERE WHAT IT READS IS OF BULK AT MOST 1048576: true; the input reads as it did. -/
def fnExactSheetCountUptoRow : OpenClaim := { program := "ytgbbodmggbeflaa", sum := "3e22b2ae060659b8204e38a719de2468088c3471927acf6be52fc6a1af12e2ce", func := "loop.example/pagebuilder/laws.FnExactSheetCount", spec := "fnExactSheetCount", apart := false, narrowed := true }
def FnExactSheetCountUptoSaid : Prop := fnExactSheetCountUptoRow.holds Try.pinned (OpenSpec.upto fnExactSheetCountSpec)

/-- 'laws.FnSheetCount', WHERE WHAT IT READS IS OF BULK AT MOST 1048576: true; the input reads as it did. -/
def fnSheetCountUptoRow : OpenClaim := { program := "ytgbbodmggbeflaa", sum := "3e22b2ae060659b8204e38a719de2468088c3471927acf6be52fc6a1af12e2ce", func := "loop.example/pagebuilder/laws.FnSheetCount", spec := "fnSheetCount", apart := false, narrowed := true }
def FnSheetCountUptoSaid : Prop := fnSheetCountUptoRow.holds Try.pinned (OpenSpec.upto fnSheetCountSpec)

/-- 'laws.FnExactUpSheet', WHERE WHAT IT READS IS OF BULK AT MOST 1048576: true; the input reads as it did. -/
def fnExactUpSheetUptoRow : OpenClaim := { program := "ytgbbodmggbeflaa", sum := "3e22b2ae060659b8204e38a719de2468088c3471927acf6be52fc6a1af12e2ce", func := "loop.example/pagebuilder/laws.FnExactUpSheet", spec := "fnExactUpSheet", apart := false, narrowed := true }
def FnExactUpSheetUptoSaid : Prop := fnExactUpSheetUptoRow.holds Try.pinned (OpenSpec.upto fnExactUpSheetSpec)

/-- 'laws.FnUpSheet', WHERE WHAT IT READS IS OF BULK AT MOST 1048576: true; the input reads as it did. -/
def fnUpSheetUptoRow : OpenClaim := { program := "ytgbbodmggbeflaa", sum := "3e22b2ae060659b8204e38a719de2468088c3471927acf6be52fc6a1af12e2ce", func := "loop.example/pagebuilder/laws.FnUpSheet", spec := "fnUpSheet", apart := false, narrowed := true }
def FnUpSheetUptoSaid : Prop := fnUpSheetUptoRow.holds Try.pinned (OpenSpec.upto fnUpSheetSpec)

/-- 'laws.FnUpAll', WHERE WHAT IT READS IS OF BULK AT MOST 1048576: true; the input reads as it did. -/
def fnUpAllUptoRow : OpenClaim := { program := "ytgbbodmggbeflaa", sum := "3e22b2ae060659b8204e38a719de2468088c3471927acf6be52fc6a1af12e2ce", func := "loop.example/pagebuilder/laws.FnUpAll", spec := "fnUpAll", apart := false, narrowed := true }
def FnUpAllUptoSaid : Prop := fnUpAllUptoRow.holds Try.pinned (OpenSpec.upto fnUpAllSpec)

/-- 'laws.FnExactUpAreas', WHERE WHAT IT READS IS OF BULK AT MOST 1048576: true; the input reads as it did. -/
def fnExactUpAreasUptoRow : OpenClaim := { program := "ytgbbodmggbeflaa", sum := "3e22b2ae060659b8204e38a719de2468088c3471927acf6be52fc6a1af12e2ce", func := "loop.example/pagebuilder/laws.FnExactUpAreas", spec := "fnExactUpAreas", apart := false, narrowed := true }
def FnExactUpAreasUptoSaid : Prop := fnExactUpAreasUptoRow.holds Try.pinned (OpenSpec.upto fnExactUpAreasSpec)

/-- 'laws.FnUpAreas', WHERE WHAT IT READS IS OF BULK AT MOST 1048576: true; the input reads as it did. -/
def fnUpAreasUptoRow : OpenClaim := { program := "ytgbbodmggbeflaa", sum := "3e22b2ae060659b8204e38a719de2468088c3471927acf6be52fc6a1af12e2ce", func := "loop.example/pagebuilder/laws.FnUpAreas", spec := "fnUpAreas", apart := false, narrowed := true }
def FnUpAreasUptoSaid : Prop := fnUpAreasUptoRow.holds Try.pinned (OpenSpec.upto fnUpAreasSpec)

/-- 'laws.FnAreaAt', WHERE WHAT IT READS IS OF BULK AT MOST 1048576: true; the input reads as it did. -/
def fnAreaAtUptoRow : OpenClaim := { program := "ytgbbodmggbeflaa", sum := "3e22b2ae060659b8204e38a719de2468088c3471927acf6be52fc6a1af12e2ce", func := "loop.example/pagebuilder/laws.FnAreaAt", spec := "fnAreaAt", apart := false, narrowed := true }
def FnAreaAtUptoSaid : Prop := fnAreaAtUptoRow.holds Try.pinned (OpenSpec.upto fnAreaAtSpec)

/-- 'laws.FnExactSheetsOf', WHERE WHAT IT READS IS OF BULK AT MOST 1048576: true; the input reads as it did. -/
def fnExactSheetsOfUptoRow : OpenClaim := { program := "ytgbbodmggbeflaa", sum := "3e22b2ae060659b8204e38a719de2468088c3471927acf6be52fc6a1af12e2ce", func := "loop.example/pagebuilder/laws.FnExactSheetsOf", spec := "fnExactSheetsOf", apart := false, narrowed := true }
def FnExactSheetsOfUptoSaid : Prop := fnExactSheetsOfUptoRow.holds Try.pinned (OpenSpec.upto fnExactSheetsOfSpec)

/-- 'laws.FnSheetsOf', WHERE WHAT IT READS IS OF BULK AT MOST 1048576: true; the input reads as it did. -/
def fnSheetsOfUptoRow : OpenClaim := { program := "ytgbbodmggbeflaa", sum := "3e22b2ae060659b8204e38a719de2468088c3471927acf6be52fc6a1af12e2ce", func := "loop.example/pagebuilder/laws.FnSheetsOf", spec := "fnSheetsOf", unfollowed := true, recurses := true, apart := false, narrowed := true }
def FnSheetsOfUptoSaid : Prop := fnSheetsOfUptoRow.holds Try.pinned (OpenSpec.upto fnSheetsOfSpec)

/-- 'laws.FnExactFoldSheets', WHERE WHAT IT READS IS OF BULK AT MOST 1048576: true; the input reads as it did. -/
def fnExactFoldSheetsUptoRow : OpenClaim := { program := "ytgbbodmggbeflaa", sum := "3e22b2ae060659b8204e38a719de2468088c3471927acf6be52fc6a1af12e2ce", func := "loop.example/pagebuilder/laws.FnExactFoldSheets", spec := "fnExactFoldSheets", unfollowed := true, recurses := true, apart := false, narrowed := true }
def FnExactFoldSheetsUptoSaid : Prop := fnExactFoldSheetsUptoRow.holds Try.pinned (OpenSpec.upto fnExactFoldSheetsSpec)

/-- 'laws.FnFoldSheets', WHERE WHAT IT READS IS OF BULK AT MOST 1048576: true; the input reads as it did. -/
def fnFoldSheetsUptoRow : OpenClaim := { program := "ytgbbodmggbeflaa", sum := "3e22b2ae060659b8204e38a719de2468088c3471927acf6be52fc6a1af12e2ce", func := "loop.example/pagebuilder/laws.FnFoldSheets", spec := "fnFoldSheets", unfollowed := true, recurses := true, apart := false, narrowed := true }
def FnFoldSheetsUptoSaid : Prop := fnFoldSheetsUptoRow.holds Try.pinned (OpenSpec.upto fnFoldSheetsSpec)

end Rows
end Go.Proofs.Ytgbbodmggbeflaa

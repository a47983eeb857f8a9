/-
  NARROWER THAN 'FOR EVERY INPUT', by the rows' own cells (each row's printed sentence says how): FnExactRomanText: laid · FnRomanText: laid · FnExactReadRoman: laid · FnReadRoman: laid.
  DERIVED. THE GIVEN ROWS OF THIS SEAT. 4 by the template 'for every input the law returns true; each argument reads behind the call as it read before'; 0 by the template 'total and deterministic' (their statements: YtgpmlfneghpijaaDoorTotals.lean).
  GIVEN WITH THE SEED: the statements are not yours to turn. If you find one false, say at which input.
  Laid BY PROGRAM, IN A SANDBOX (cutbox-rows.mjs): the forced cells as the released guide's own fill.sh prints them over the translation 9b05221673b5db21… (all of the seat's roots in one cut). By AI agents, Wed Nov 11 2026. No macro, syntax, notation, axiom, sorry.
-/
import Derived.Test.YtgpmlfneghpijaaDoorChecked
import GoSem.Claim
import GoSem.ClaimJoined
import GoSem.ClaimMapViews
import Derived.JoinedTies
import Derived.KernelRfl
namespace Go.Proofs.YtgpmlfneghpijaaDoor
/- THE CELL 'sum', in the pinned program and in every row, IS THE sha256 OF THE DUMP (.gsa) THAT YtgpmlfneghpijaaDoorProg.lean LOADS. Nothing in Lean hashes anything: it is a label: what it is worth is what the hold of that sum in a sandbox is worth. -/
noncomputable def Tryd.pinned : Pinned := { name := "ytgpmlfneghpijaadoor", sum := "9b05221673b5db21e9e6697e7e01cf7fa5f0c2c1cbc8b5d61d1dac4afb4c7208", checked := Tryd.checked }
namespace Rows
def none {H : Type} : Left H := { results := [], args := [] }

/- WHAT THE LISTED PACKAGE-LEVEL VARIABLES READ AS WHEN THE CALL BEGINS. Each datum BY PROGRAM (the guide's laid-datum.mjs) off the statement by which the dump's own 'gosem.cut.vars' lays the variable. In a bare row this is a premise. The card (YtgpmlfneghpijaaDoorCards.lean) ties it to the program's text. -/
def laid_loop_example_pagebuilder_impl_romans {H : Type} : DataW H := .slice [.agg [.lit (.int .i64 1000), .lit (.string [109])], .agg [.lit (.int .i64 900), .lit (.string [99, 109])], .agg [.lit (.int .i64 500), .lit (.string [100])], .agg [.lit (.int .i64 400), .lit (.string [99, 100])], .agg [.lit (.int .i64 100), .lit (.string [99])], .agg [.lit (.int .i64 90), .lit (.string [120, 99])], .agg [.lit (.int .i64 50), .lit (.string [108])], .agg [.lit (.int .i64 40), .lit (.string [120, 108])], .agg [.lit (.int .i64 10), .lit (.string [120])], .agg [.lit (.int .i64 9), .lit (.string [105, 120])], .agg [.lit (.int .i64 5), .lit (.string [118])], .agg [.lit (.int .i64 4), .lit (.string [105, 118])], .agg [.lit (.int .i64 1), .lit (.string [105])]] []

/-- 'laws.FnExactRomanText': WHATEVER THE INPUT: true; the input reads as it did. -/
def fnExactRomanTextSpec : ChangeSpec := { name := "fnExactRomanText", vars := ["loop.example/pagebuilder/impl.romans"], fn := fun _ => fun
  | [d, g1] => { results := [.lit (.bool true)], args := [d], vars := [g1] }
  | _ => none }
def fnExactRomanTextRow : OpenClaim := { program := "ytgpmlfneghpijaadoor", sum := "9b05221673b5db21e9e6697e7e01cf7fa5f0c2c1cbc8b5d61d1dac4afb4c7208", func := "loop.example/pagebuilder/laws.FnExactRomanText", spec := "fnExactRomanText", inPlace := ["internal/abi.NoEscape"], named := ["loop.example/pagebuilder/impl.romans"], apart := false, laid := [("loop.example/pagebuilder/impl.romans", laid_loop_example_pagebuilder_impl_romans)] }
def FnExactRomanTextSaid : Prop := fnExactRomanTextRow.holds Tryd.pinned (OpenSpec.ofChange fnExactRomanTextSpec)

/-- ITS FALSE NEIGHBOUR: 'it returns false'. Refute it at one input. -/
def fnExactRomanTextWrong : ChangeSpec := { name := "fnExactRomanText", vars := ["loop.example/pagebuilder/impl.romans"], fn := fun _ => fun
  | [d, g1] => { results := [.lit (.bool false)], args := [d], vars := [g1] }
  | _ => none }
def FnExactRomanTextWrongFalsely : Prop := fnExactRomanTextRow.holds Tryd.pinned (OpenSpec.ofChange fnExactRomanTextWrong)

/-- 'laws.FnRomanText': WHATEVER THE INPUT: true; the input reads as it did. -/
def fnRomanTextSpec : ChangeSpec := { name := "fnRomanText", vars := ["loop.example/pagebuilder/impl.romans"], fn := fun _ => fun
  | [d, g1] => { results := [.lit (.bool true)], args := [d], vars := [g1] }
  | _ => none }
def fnRomanTextRow : OpenClaim := { program := "ytgpmlfneghpijaadoor", sum := "9b05221673b5db21e9e6697e7e01cf7fa5f0c2c1cbc8b5d61d1dac4afb4c7208", func := "loop.example/pagebuilder/laws.FnRomanText", spec := "fnRomanText", inPlace := ["internal/abi.NoEscape"], named := ["loop.example/pagebuilder/impl.romans"], apart := false, laid := [("loop.example/pagebuilder/impl.romans", laid_loop_example_pagebuilder_impl_romans)] }
def FnRomanTextSaid : Prop := fnRomanTextRow.holds Tryd.pinned (OpenSpec.ofChange fnRomanTextSpec)

/-- ITS FALSE NEIGHBOUR: 'it returns false'. Refute it at one input. -/
def fnRomanTextWrong : ChangeSpec := { name := "fnRomanText", vars := ["loop.example/pagebuilder/impl.romans"], fn := fun _ => fun
  | [d, g1] => { results := [.lit (.bool false)], args := [d], vars := [g1] }
  | _ => none }
def FnRomanTextWrongFalsely : Prop := fnRomanTextRow.holds Tryd.pinned (OpenSpec.ofChange fnRomanTextWrong)

/-- 'laws.FnExactReadRoman': WHATEVER THE INPUT: true; the input reads as it did. -/
def fnExactReadRomanSpec : ChangeSpec := { name := "fnExactReadRoman", vars := ["loop.example/pagebuilder/impl.romans"], fn := fun _ => fun
  | [d, g1] => { results := [.lit (.bool true)], args := [d], vars := [g1] }
  | _ => none }
def fnExactReadRomanRow : OpenClaim := { program := "ytgpmlfneghpijaadoor", sum := "9b05221673b5db21e9e6697e7e01cf7fa5f0c2c1cbc8b5d61d1dac4afb4c7208", func := "loop.example/pagebuilder/laws.FnExactReadRoman", spec := "fnExactReadRoman", inPlace := ["internal/abi.NoEscape"], named := ["loop.example/pagebuilder/impl.romans"], apart := false, laid := [("loop.example/pagebuilder/impl.romans", laid_loop_example_pagebuilder_impl_romans)] }
def FnExactReadRomanSaid : Prop := fnExactReadRomanRow.holds Tryd.pinned (OpenSpec.ofChange fnExactReadRomanSpec)

/-- ITS FALSE NEIGHBOUR: 'it returns false'. Refute it at one input. -/
def fnExactReadRomanWrong : ChangeSpec := { name := "fnExactReadRoman", vars := ["loop.example/pagebuilder/impl.romans"], fn := fun _ => fun
  | [d, g1] => { results := [.lit (.bool false)], args := [d], vars := [g1] }
  | _ => none }
def FnExactReadRomanWrongFalsely : Prop := fnExactReadRomanRow.holds Tryd.pinned (OpenSpec.ofChange fnExactReadRomanWrong)

/-- 'laws.FnReadRoman': WHATEVER THE INPUT: true; the input reads as it did. -/
def fnReadRomanSpec : ChangeSpec := { name := "fnReadRoman", vars := ["loop.example/pagebuilder/impl.romans"], fn := fun _ => fun
  | [d, g1] => { results := [.lit (.bool true)], args := [d], vars := [g1] }
  | _ => none }
def fnReadRomanRow : OpenClaim := { program := "ytgpmlfneghpijaadoor", sum := "9b05221673b5db21e9e6697e7e01cf7fa5f0c2c1cbc8b5d61d1dac4afb4c7208", func := "loop.example/pagebuilder/laws.FnReadRoman", spec := "fnReadRoman", inPlace := ["internal/abi.NoEscape"], named := ["loop.example/pagebuilder/impl.romans"], apart := false, laid := [("loop.example/pagebuilder/impl.romans", laid_loop_example_pagebuilder_impl_romans)] }
def FnReadRomanSaid : Prop := fnReadRomanRow.holds Tryd.pinned (OpenSpec.ofChange fnReadRomanSpec)

/-- ITS FALSE NEIGHBOUR: 'it returns false'. Refute it at one input. -/
def fnReadRomanWrong : ChangeSpec := { name := "fnReadRoman", vars := ["loop.example/pagebuilder/impl.romans"], fn := fun _ => fun
  | [d, g1] => { results := [.lit (.bool false)], args := [d], vars := [g1] }
  | _ => none }
def FnReadRomanWrongFalsely : Prop := fnReadRomanRow.holds Tryd.pinned (OpenSpec.ofChange fnReadRomanWrong)

/- THE SECOND FORM. 'bulk': how many values and letters a reading holds, each counted each time it is reached (what is shared counts as often as it is met; a slice's spare places count too). A statement '..UptoSaid' is the law's where the arguments, and the package variables that the reading takes, are together of bulk at most 1048576: NARROWER than '..Said'. Prove '..Said' where nothing that the law and all that it calls make is longer than what came in: it says more and counts as full. Else prove '..UptoSaid'. A law counts once. -/
mutual
def uptoBulk {H : Type} : DataW H → Nat
  | .lit (.string bytes) => bytes.length + 1
  | .lit _ => 1
  | .nil => 1
  | .ptr d => uptoBulk d + 1
  | .slice elems spare => uptoBulkAll elems + uptoBulkAll spare + 1
  | .agg parts => uptoBulkAll parts + 1
  | .iface _ d => uptoBulk d + 1
  | .map entries => uptoBulkEntries entries + 1
  | .held _ => 1
def uptoBulkAll {H : Type} : List (DataW H) → Nat
  | [] => 0
  | d :: r => uptoBulk d + uptoBulkAll r
def uptoBulkEntries {H : Type} : List (Lit × DataW H) → Nat
  | [] => 0
  | x :: r => uptoBulkEntry x + uptoBulkEntries r
def uptoBulkEntry {H : Type} : Lit × DataW H → Nat
  | (.string bytes, d) => bytes.length + uptoBulk d + 1
  | (_, d) => uptoBulk d + 1
 end
def uptoSmall : (H : Type) → List (DataW H) → Bool := fun _ ds => decide (uptoBulkAll ds ≤ 1048576)
def OpenSpec.upto (s : _root_.Go.ChangeSpec) : _root_.Go.OpenSpec := { _root_.Go.OpenSpec.ofChange s with cond := some uptoSmall }

/-- 'laws.FnExactRomanText', WHERE WHAT IT READS IS OF BULK AT MOST 1048576: true; the input reads as it did. -/
def fnExactRomanTextUptoRow : OpenClaim := { program := "ytgpmlfneghpijaadoor", sum := "9b05221673b5db21e9e6697e7e01cf7fa5f0c2c1cbc8b5d61d1dac4afb4c7208", func := "loop.example/pagebuilder/laws.FnExactRomanText", spec := "fnExactRomanText", inPlace := ["internal/abi.NoEscape"], named := ["loop.example/pagebuilder/impl.romans"], apart := false, laid := [("loop.example/pagebuilder/impl.romans", laid_loop_example_pagebuilder_impl_romans)], narrowed := true }
def FnExactRomanTextUptoSaid : Prop := fnExactRomanTextUptoRow.holds Tryd.pinned (OpenSpec.upto fnExactRomanTextSpec)

/-- 'laws.FnRomanText', WHERE WHAT IT READS IS OF BULK AT MOST 1048576: true; the input reads as it did. -/
def fnRomanTextUptoRow : OpenClaim := { program := "ytgpmlfneghpijaadoor", sum := "9b05221673b5db21e9e6697e7e01cf7fa5f0c2c1cbc8b5d61d1dac4afb4c7208", func := "loop.example/pagebuilder/laws.FnRomanText", spec := "fnRomanText", inPlace := ["internal/abi.NoEscape"], named := ["loop.example/pagebuilder/impl.romans"], apart := false, laid := [("loop.example/pagebuilder/impl.romans", laid_loop_example_pagebuilder_impl_romans)], narrowed := true }
def FnRomanTextUptoSaid : Prop := fnRomanTextUptoRow.holds Tryd.pinned (OpenSpec.upto fnRomanTextSpec)

/-- 'laws.FnExactReadRoman', WHERE WHAT IT READS IS OF BULK AT MOST 1048576: true; the input reads as it did. -/
def fnExactReadRomanUptoRow : OpenClaim := { program := "ytgpmlfneghpijaadoor", sum := "9b05221673b5db21e9e6697e7e01cf7fa5f0c2c1cbc8b5d61d1dac4afb4c7208", func := "loop.example/pagebuilder/laws.FnExactReadRoman", spec := "fnExactReadRoman", inPlace := ["internal/abi.NoEscape"], named := ["loop.example/pagebuilder/impl.romans"], apart := false, laid := [("loop.example/pagebuilder/impl.romans", laid_loop_example_pagebuilder_impl_romans)], narrowed := true }
def FnExactReadRomanUptoSaid : Prop := fnExactReadRomanUptoRow.holds Tryd.pinned (OpenSpec.upto fnExactReadRomanSpec)

/-- 'laws.FnReadRoman', WHERE WHAT IT READS IS OF BULK AT MOST 1048576: true; the input reads as it did. -/
def fnReadRomanUptoRow : OpenClaim := { program := "ytgpmlfneghpijaadoor", sum := "9b05221673b5db21e9e6697e7e01cf7fa5f0c2c1cbc8b5d61d1dac4afb4c7208", func := "loop.example/pagebuilder/laws.FnReadRoman", spec := "fnReadRoman", inPlace := ["internal/abi.NoEscape"], named := ["loop.example/pagebuilder/impl.romans"], apart := false, laid := [("loop.example/pagebuilder/impl.romans", laid_loop_example_pagebuilder_impl_romans)], narrowed := true }
def FnReadRomanUptoSaid : Prop := fnReadRomanUptoRow.holds Tryd.pinned (OpenSpec.upto fnReadRomanSpec)

end Rows
end Go.Proofs.YtgpmlfneghpijaaDoor

/-
  No cell of these rows narrows 'for every input' (looked for: loops, veiled, ifaces, maps, wideKeys, modest, calm, conditions, laid).
  DERIVED. THE GIVEN ROWS OF THIS SEAT. 6 by the template 'for every input the law returns true; each argument reads behind the call as it read before'; 0 by the template 'total and deterministic' (their statements: YtkbpmpndfcdpkaaTotals.lean).
  GIVEN WITH THE SEED: the statements are not yours to turn. If you find one false, say at which input.
  Laid BY PROGRAM, IN A SANDBOX (cutbox-rows.mjs): the forced cells as the released guide's own fill.sh prints them over the translation 08fa82cb04bff3a3… (all of the seat's roots in one cut). By AI agents, Wed Nov 11 2026. No macro, syntax, notation, axiom, sorry.
-/
import Derived.Test.YtkbpmpndfcdpkaaChecked
import GoSem.Claim
import GoSem.ClaimJoined
import GoSem.ClaimMapViews
import Derived.JoinedTies
import Derived.KernelRfl
namespace Go.Proofs.Ytkbpmpndfcdpkaa
/- THE CELL 'sum', in the pinned program and in every row, IS THE sha256 OF THE DUMP (.gsa) THAT YtkbpmpndfcdpkaaProg.lean LOADS. Nothing in Lean hashes anything: it is a label: what it is worth is what the hold of that sum in a sandbox is worth. -/
noncomputable def Try.pinned : Pinned := { name := "ytkbpmpndfcdpkaa", sum := "08fa82cb04bff3a340d277d41a9c592c2ecd4ae582fa89a3af10daf5571d4932", checked := Try.checked }
namespace Rows
def none {H : Type} : Left H := { results := [], args := [] }

/-- 'laws.FnExactSnapHeight': WHATEVER THE INPUT: true; the input reads as it did. -/
def fnExactSnapHeightSpec : ChangeSpec := { name := "fnExactSnapHeight", fn := fun _ => fun
  | [d1, d2] => { results := [.lit (.bool true)], args := [d1, d2] }
  | _ => none }
def fnExactSnapHeightRow : OpenClaim := { program := "ytkbpmpndfcdpkaa", sum := "08fa82cb04bff3a340d277d41a9c592c2ecd4ae582fa89a3af10daf5571d4932", func := "loop.example/pagebuilder/laws.FnExactSnapHeight", spec := "fnExactSnapHeight", apart := false }
def FnExactSnapHeightSaid : Prop := fnExactSnapHeightRow.holds Try.pinned (OpenSpec.ofChange fnExactSnapHeightSpec)

/-- ITS FALSE NEIGHBOUR: 'it returns false'. Refute it at one input. -/
def fnExactSnapHeightWrong : ChangeSpec := { name := "fnExactSnapHeight", fn := fun _ => fun
  | [d1, d2] => { results := [.lit (.bool false)], args := [d1, d2] }
  | _ => none }
def FnExactSnapHeightWrongFalsely : Prop := fnExactSnapHeightRow.holds Try.pinned (OpenSpec.ofChange fnExactSnapHeightWrong)

/-- 'laws.FnSnapHeight': WHATEVER THE INPUT: true; the input reads as it did. -/
def fnSnapHeightSpec : ChangeSpec := { name := "fnSnapHeight", fn := fun _ => fun
  | [d] => { results := [.lit (.bool true)], args := [d] }
  | _ => none }
def fnSnapHeightRow : OpenClaim := { program := "ytkbpmpndfcdpkaa", sum := "08fa82cb04bff3a340d277d41a9c592c2ecd4ae582fa89a3af10daf5571d4932", func := "loop.example/pagebuilder/laws.FnSnapHeight", spec := "fnSnapHeight", apart := false }
def FnSnapHeightSaid : Prop := fnSnapHeightRow.holds Try.pinned (OpenSpec.ofChange fnSnapHeightSpec)

/-- ITS FALSE NEIGHBOUR: 'it returns false'. Refute it at one input. -/
def fnSnapHeightWrong : ChangeSpec := { name := "fnSnapHeight", fn := fun _ => fun
  | [d] => { results := [.lit (.bool false)], args := [d] }
  | _ => none }
def FnSnapHeightWrongFalsely : Prop := fnSnapHeightRow.holds Try.pinned (OpenSpec.ofChange fnSnapHeightWrong)

/-- 'laws.FnExactSnapRows': WHATEVER THE INPUT: true; the input reads as it did. -/
def fnExactSnapRowsSpec : ChangeSpec := { name := "fnExactSnapRows", fn := fun _ => fun
  | [d1, d2] => { results := [.lit (.bool true)], args := [d1, d2] }
  | _ => none }
def fnExactSnapRowsRow : OpenClaim := { program := "ytkbpmpndfcdpkaa", sum := "08fa82cb04bff3a340d277d41a9c592c2ecd4ae582fa89a3af10daf5571d4932", func := "loop.example/pagebuilder/laws.FnExactSnapRows", spec := "fnExactSnapRows", apart := false }
def FnExactSnapRowsSaid : Prop := fnExactSnapRowsRow.holds Try.pinned (OpenSpec.ofChange fnExactSnapRowsSpec)

/-- ITS FALSE NEIGHBOUR: 'it returns false'. Refute it at one input. -/
def fnExactSnapRowsWrong : ChangeSpec := { name := "fnExactSnapRows", fn := fun _ => fun
  | [d1, d2] => { results := [.lit (.bool false)], args := [d1, d2] }
  | _ => none }
def FnExactSnapRowsWrongFalsely : Prop := fnExactSnapRowsRow.holds Try.pinned (OpenSpec.ofChange fnExactSnapRowsWrong)

/-- 'laws.FnSnapRows': WHATEVER THE INPUT: true; the input reads as it did. -/
def fnSnapRowsSpec : ChangeSpec := { name := "fnSnapRows", fn := fun _ => fun
  | [d] => { results := [.lit (.bool true)], args := [d] }
  | _ => none }
def fnSnapRowsRow : OpenClaim := { program := "ytkbpmpndfcdpkaa", sum := "08fa82cb04bff3a340d277d41a9c592c2ecd4ae582fa89a3af10daf5571d4932", func := "loop.example/pagebuilder/laws.FnSnapRows", spec := "fnSnapRows", apart := false }
def FnSnapRowsSaid : Prop := fnSnapRowsRow.holds Try.pinned (OpenSpec.ofChange fnSnapRowsSpec)

/-- ITS FALSE NEIGHBOUR: 'it returns false'. Refute it at one input. -/
def fnSnapRowsWrong : ChangeSpec := { name := "fnSnapRows", fn := fun _ => fun
  | [d] => { results := [.lit (.bool false)], args := [d] }
  | _ => none }
def FnSnapRowsWrongFalsely : Prop := fnSnapRowsRow.holds Try.pinned (OpenSpec.ofChange fnSnapRowsWrong)

/-- 'laws.FnExactSnapLoss': WHATEVER THE INPUT: true; the input reads as it did. -/
def fnExactSnapLossSpec : ChangeSpec := { name := "fnExactSnapLoss", fn := fun _ => fun
  | [d1, d2] => { results := [.lit (.bool true)], args := [d1, d2] }
  | _ => none }
def fnExactSnapLossRow : OpenClaim := { program := "ytkbpmpndfcdpkaa", sum := "08fa82cb04bff3a340d277d41a9c592c2ecd4ae582fa89a3af10daf5571d4932", func := "loop.example/pagebuilder/laws.FnExactSnapLoss", spec := "fnExactSnapLoss", apart := false }
def FnExactSnapLossSaid : Prop := fnExactSnapLossRow.holds Try.pinned (OpenSpec.ofChange fnExactSnapLossSpec)

/-- ITS FALSE NEIGHBOUR: 'it returns false'. Refute it at one input. -/
def fnExactSnapLossWrong : ChangeSpec := { name := "fnExactSnapLoss", fn := fun _ => fun
  | [d1, d2] => { results := [.lit (.bool false)], args := [d1, d2] }
  | _ => none }
def FnExactSnapLossWrongFalsely : Prop := fnExactSnapLossRow.holds Try.pinned (OpenSpec.ofChange fnExactSnapLossWrong)

/-- 'laws.FnSnapLoss': WHATEVER THE INPUT: true; the input reads as it did. -/
def fnSnapLossSpec : ChangeSpec := { name := "fnSnapLoss", fn := fun _ => fun
  | [d] => { results := [.lit (.bool true)], args := [d] }
  | _ => none }
def fnSnapLossRow : OpenClaim := { program := "ytkbpmpndfcdpkaa", sum := "08fa82cb04bff3a340d277d41a9c592c2ecd4ae582fa89a3af10daf5571d4932", func := "loop.example/pagebuilder/laws.FnSnapLoss", spec := "fnSnapLoss", apart := false }
def FnSnapLossSaid : Prop := fnSnapLossRow.holds Try.pinned (OpenSpec.ofChange fnSnapLossSpec)

/-- ITS FALSE NEIGHBOUR: 'it returns false'. Refute it at one input. -/
def fnSnapLossWrong : ChangeSpec := { name := "fnSnapLoss", fn := fun _ => fun
  | [d] => { results := [.lit (.bool false)], args := [d] }
  | _ => none }
def FnSnapLossWrongFalsely : Prop := fnSnapLossRow.holds Try.pinned (OpenSpec.ofChange fnSnapLossWrong)

/- THE SECOND FORM. 'bulk': how many values and letters a reading holds, each counted each time it is reached (what is shared counts as often as it is met; a slice's spare places count too). A statement '..UptoSaid' is the law's where the arguments, and the package variables that the reading takes, are together of bulk at most 1048576: NARROWER than '..Said'. Prove '..Said' where nothing that the law and all that it calls make is longer than what came in: it says more and counts as full. Else prove '..UptoSaid'. A law counts once. -/
mutual
def uptoBulk {H : Type} : DataW H → Nat
  | .lit (.string bytes) => bytes.length + 1
  | .lit _ => 1
  | .nil => 1
  | .ptr d => uptoBulk d + 1
  | .slice elems spare => uptoBulkAll elems + uptoBulkAll spare + 1
  | .agg parts => uptoBulkAll parts + 1
  | .iface _ d => uptoBulk d + 1
  | .map entries => uptoBulkEntries entries + 1
  | .held _ => 1
def uptoBulkAll {H : Type} : List (DataW H) → Nat
  | [] => 0
  | d :: r => uptoBulk d + uptoBulkAll r
def uptoBulkEntries {H : Type} : List (Lit × DataW H) → Nat
  | [] => 0
  | x :: r => uptoBulkEntry x + uptoBulkEntries r
def uptoBulkEntry {H : Type} : Lit × DataW H → Nat
  | (.string bytes, d) => bytes.length + uptoBulk d + 1
  | (_, d) => uptoBulk d + 1
 end
def uptoSmall : (H : Type) → List (DataW H) → Bool := fun _ ds => decide (uptoBulkAll ds ≤ 1048576)
def OpenSpec.upto (s : _root_.Go.ChangeSpec) : _root_.Go.OpenSpec := { _root_.Go.OpenSpec.ofChange s with cond := some uptoSmall }

/-- 'laws.FnExactSnapHeight', WHERE WHAT IT READS IS OF BULK AT MOST 1048576: true; the input reads as it did. -/
def fnExactSnapHeightUptoRow : OpenClaim := { program := "ytkbpmpndfcdpkaa", sum := "08fa82cb04bff3a340d277d41a9c592c2ecd4ae582fa89a3af10daf5571d4932", func := "loop.example/pagebuilder/laws.FnExactSnapHeight", spec := "fnExactSnapHeight", apart := false, narrowed := true }
def FnExactSnapHeightUptoSaid : Prop := fnExactSnapHeightUptoRow.holds Try.pinned (OpenSpec.upto fnExactSnapHeightSpec)

/-- 'laws.FnSnapHeight', WHERE WHAT IT READS IS OF BULK AT MOST 1048576: true; the input reads as it did. -/
def fnSnapHeightUptoRow : OpenClaim := { program := "ytkbpmpndfcdpkaa", sum := "08fa82cb04bff3a340d277d41a9c592c2ecd4ae582fa89a3af10daf5571d4932", func := "loop.example/pagebuilder/laws.FnSnapHeight", spec := "fnSnapHeight", apart := false, narrowed := true }
def FnSnapHeightUptoSaid : Prop := fnSnapHeightUptoRow.holds Try.pinned (OpenSpec.upto fnSnapHeightSpec)

/-- 'laws.FnExactSnapRows', WHERE WHAT IT READS IS OF BULK AT MOST 1048576: true; the input reads as it did. -/
def fnExactSnapRowsUptoRow : OpenClaim := { program := "ytkbpmpndfcdpkaa", sum := "08fa82cb04bff3a340d277d41a9c592c2ecd4ae582fa89a3af10daf5571d4932", func := "loop.example/pagebuilder/laws.FnExactSnapRows", spec := "fnExactSnapRows", apart := false, narrowed := true }
def FnExactSnapRowsUptoSaid : Prop := fnExactSnapRowsUptoRow.holds Try.pinned (OpenSpec.upto fnExactSnapRowsSpec)

/-- 'laws.FnSnapRows', WHERE WHAT IT READS IS OF BULK AT MOST 1048576: true; the input reads as it did. -/
def fnSnapRowsUptoRow : OpenClaim := { program := "ytkbpmpndfcdpkaa", sum := "08fa82cb04bff3a340d277d41a9c592c2ecd4ae582fa89a3af10daf5571d4932", func := "loop.example/pagebuilder/laws.FnSnapRows", spec := "fnSnapRows", apart := false, narrowed := true }
def FnSnapRowsUptoSaid : Prop := fnSnapRowsUptoRow.holds Try.pinned (OpenSpec.upto fnSnapRowsSpec)

/-- 'laws.FnExactSnapLoss', WHERE WHAT IT READS IS OF BULK AT MOST 1048576: true; the input reads as it did. -/
def fnExactSnapLossUptoRow : OpenClaim := { program := "ytkbpmpndfcdpkaa", sum := "08fa82cb04bff3a340d277d41a9c592c2ecd4ae582fa89a3af10daf5571d4932", func := "loop.example/pagebuilder/laws.FnExactSnapLoss", spec := "fnExactSnapLoss", apart := false, narrowed := true }
def FnExactSnapLossUptoSaid : Prop := fnExactSnapLossUptoRow.holds Try.pinned (OpenSpec.upto fnExactSnapLossSpec)

/-- 'laws.FnSnapLoss', WHERE WHAT IT READS IS OF BULK AT MOST 1048576: true; the input reads as it did. -/
def fnSnapLossUptoRow : OpenClaim := { program := "ytkbpmpndfcdpkaa", sum := "08fa82cb04bff3a340d277d41a9c592c2ecd4ae582fa89a3af10daf5571d4932", func := "loop.example/pagebuilder/laws.FnSnapLoss", spec := "fnSnapLoss", apart := false, narrowed := true }
def FnSnapLossUptoSaid : Prop := fnSnapLossUptoRow.holds Try.pinned (OpenSpec.upto fnSnapLossSpec)

end Rows
end Go.Proofs.Ytkbpmpndfcdpkaa
